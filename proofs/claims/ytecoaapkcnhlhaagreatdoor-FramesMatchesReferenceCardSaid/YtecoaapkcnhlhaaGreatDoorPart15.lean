/- IP IQ IR IS IT TxtS JA JB TxtT JC JD JEa JE JF JG JH JK JL JM TxtZ JR JN JO JP: lemmas -/
import Derived.Test.YtecoaapkcnhlhaaGreatDoorPart14
import Derived.Test.YtecoaapkcnhlhaaGreatDoorPart05
import Derived.Test.YtecoaapkcnhlhaaGreatDoorChecked
import Derived.Test.YtecoaapkcnhlhaaGreatDoorPart10
import Derived.MakeChecks
import Derived.FnData
import Derived.OpenShut
import Derived.SizedLaws
set_option linter.unusedSimpArgs false
set_option linter.unusedVariables false
open Bool renaming and_eq_true->zN
open List renaming getD_eq_getElem?_getD->zK,getElem?_eq_getElem->zL,getElem?_map->zS,mem_cons_of_mem->zT,length_append->zU,length_cons->zV,map_cons->zW,mem_cons_self->zX,take_of_length_le->zY,take_succ_eq_append_getElem->zZ,mem_append->yC,all_eq_true->yE,length_set->yF,length_map->yG,map_append->yH
open Int renaming reduceToNat->zH,reduceNeg->zJ
open Nat renaming reduceEqDiff->zA,reduceAdd->zB,reduceSub->zC,reduceMul->zD,reduceBEq->zE,reduceLT->zF,reduceLeDiff->zG
namespace Go.Proofs.YtecoaapkcnhlhaaGreatDoor
open Go Go.Vc Go.Ham Txt
theorem qIe: ∀(k j n:Nat),n<2^j->Go.Lib.bitLenAux k n<=j
 |0,_,_,_=>Nat.zero_le _
 | k + 1, j, n, h => by
   unfold Go.Lib.bitLenAux
   split
   ·exact Nat.zero_le _
   ·cases j with
    |zero=>omega
    |succ j=>
      have:=qIe k j (n/2) (by rw[Nat.pow_succ]at h;omega)
      omega
theorem qIf{g:Grid}(hg:GOk g){f:Fld}(hf:FIn g f):f.n<=61:=by
 rcases hf.key with⟨a,b,d⟩|⟨a,b,d⟩|⟨a,b,d⟩|⟨a,b,d⟩<;>rw[d]
 ·have:=qxu g hg f.i
  exact qIe 64 61 _ oM
 all_goals decide
def datA(L:List Int)(c:Cfg):List (Nat×Arr):=[(74,⟨1,3,ints L⟩),(109,⟨1,3,ints c.sel⟩),(111,⟨1,3,ints c.mode⟩),(113,⟨1,3,ints c.tab⟩),(115,⟨1,3,ints c.ram⟩)]
def kA(k:Nat):Nat:=if k=0 then 109 else if k=1 then 111 else if k=2 then 113 else 115
def cfgL(c:Cfg)(k:Nat):List Int:=if k=0 then c.sel else if k=1 then c.mode else if k=2 then c.tab else c.ram
theorem qIg(k:Nat):kA k≠74:=by
 unfold kA
 repeat' split
 all_goals decide
theorem qIh{k:Nat}(L:List Int)(c:Cfg):lk (datA L c) (kA k)=some ⟨1,3,ints (cfgL c k)⟩:=by
 unfold kA cfgL
 repeat' split
 all_goals rfl
theorem qIi{k:Nat}(L L' :List Int)(c:Cfg)(i:Nat)(v:Int):up (up (datA L c) 74 ⟨1,3,ints L'⟩) (kA k) ⟨1,3,ints ((cfgL c k).set i v)⟩=datA L' (qDe c k i v):=by
 unfold kA cfgL qDe
 repeat' split
 all_goals rfl
theorem qIj(c:Cfg)(k i:Nat):(cfgL c k).getD i default=cfgI c k i:=by
 unfold cfgL cfgI
 repeat' split
 all_goals rfl
theorem qIk{g:Grid}{c:Cfg}(h:CfgLn g c){k i:Nat}(hk:keyIn g k i):i<(cfgL c k).length:=by
 obtain⟨l1,l2,l3,l4⟩:=h.lens
 rcases hk with⟨rfl,h⟩|⟨rfl|rfl|rfl,h⟩<;>simp[cfgL]<;>omega
theorem qIl(c:Cfg)(k i:Nat)(v w:Int):qDe (qDe c k i v) k i w=qDe c k i w:=by
 unfold qDe
 by_cases h0:k=0
 ·simp[h0,List.set_set]
 ·by_cases h1:k=1
  ·simp[h1,List.set_set]
  ·by_cases h2:k=2
   ·simp[h2,List.set_set]
   ·simp[h0,h1,h2,List.set_set]
theorem qIm{g:Grid}{c:Cfg}(hc:CfgLn g c){k i:Nat}(hk:keyIn g k i):qDe c k i (cfgI c k i)=c:=by
 refine qDj (qDf hc _ _ _) hc fun k' i' h' => ?_
 rw[qDh hc hk h']
 split
 ·next h=>obtain⟨rfl,rfl⟩:=h;rfl
 ·rfl
def strB(l:List (List Nat))(x:Nat):List Bool:=unW (datF l x)
theorem qIn(l:List (List Nat))(x c:Nat):(datW ((datD l x).getD (c/57) 0)).testBit (c%57)=(strB l x).getD c false\/(datD l x).length<=c/57:=by
 by_cases h:c/57<(datD l x).length
 ·left
  unfold strB datF
  rw[qBR,zK,zK,zS]
  show _=(((datD l x)[c/57]?.map datW).getD 0).testBit _
  rw[zL h]
  rfl
 ·exact .inr oM
theorem qIo(S:List Bool)(c k:Nat)(h:c+k<S.length):(S.drop c).take (k+1)=(S.drop c).take k++[S.getD (c+k) false]:=by
 rw[zZ (by simp;omega),List.getElem_drop,zK,zL h]
 rfl
set_option maxHeartbeats 2000000 in
theorem qIp (g : Grid) {S : List (Nat × PV)} (hS : qtX 1000 S = true) (κ i x nb n : Nat) (l : List (List Nat)) (L : List Int) (c : Nat) (B : List (Nat × List PV)) (cf : Cfg)
  (h18:lk B 18=some [.clo 70 [8,17]]) (h20:lk B 1020=some [.eptr (kA κ) i 0,.int nb])
  (h8:lk B 8=some [.bv 31 1 n]) (h31:lk B 31=some (outC datW n (datD l) n)) (h17:lk B 17=some [.view 74 0 n]) (hL:L.length=n) (hc:L.getD x default=c) (hx:x<n) (hn:n<=1000) (hcl:c+nb<=57*(datD l x).length) (hcb:c+nb<2000000000)
  (hcf:CfgLn g cf) (hk:keyIn g κ i) (h0:cfgI cf κ i=0) (hnb:nb<=61) (T:List (Nat×PV)) (hT:qhn [1000,126,1018,1019,1020] T=[]) (Q:Exit->St->Prop)
  (hQ:Q .normal ⟨S++[(1018,.ptr 18 0),(1019,.int x),(1020,.ptr 1020 0),(1081,.int nb),(1082,.int nb),(1083,.bool false)],B,datA (L.set x ((c+nb:Nat):Int)) (qDe cf κ i (valB (((strB l x).drop c).take nb):Nat)),[]⟩):
  awp (Env.of Tryz.prog) ac44_r24 Q ⟨S++([(1018,.ptr 18 0),(1019,.int x),(1020,.ptr 1020 0)]++T),B,datA L cf,[]⟩:=by
 have hslen:(strB l x).length=57*(datD l x).length:=by unfold strB datF;rw[qBO,yG];rfl
 have hLs: ∀y,(L.set x y).getD x default=y:=fun y=>by rw[zK,List.getElem?_set_self oM];rfl
 have hLset: ∀y z,(L.set x y).set x z=L.set x z:=fun y z=>List.set_set ..
 have hL0:L.set x ((c:Nat):Int)=L:=by
  rw[<- hc]
  apply List.ext_getElem (by simp)
  intro j h1 h2
  rw[List.getElem_set]
  split
  ·next e=>subst e;simp[zK,h2]
  ·rfl
 simp only[ac44_r24,hT,h20,qCx hS,qCw hS,qCy hS,qCz hS,qCA hS,push_cast,reduceIte,zA,zB,zC,zD,zE,zF,zG,reduceCtorEq,zH,zJ,cNI]
 refine qoO (fun j st=> ∃k:Nat,k<=nb/\j=nb-k/\st=⟨S++[(1018,.ptr 18 0),(1019,.int x),(1020,.ptr 1020 0),(1081,.int nb),(1082,.int k)],B,datA (L.set x ((c+k:Nat):Int)) (qDe cf κ i (valB (((strB l x).drop c).take k):Nat)),[]⟩) nb ⟨_,SWk.refl _,0,oM,oM,?_⟩ ?_
 ·simp only[qCx hS,qCw hS,qCy hS,qCz hS,qCA hS,push_cast,reduceIte,zA,zB,zC,zD,zE,zF,zG,reduceCtorEq,zH,zJ,cNI]
  rw[List.take_zero,show(valB []:Nat)=0 from rfl,show((0:Nat):Int)=cfgI cf κ i from h0.symm,qIm hcf hk]
  rw[show L.set x (c:Int)=L from hL0]
 rintro j st ⟨k,hk',rfl,rfl⟩
 simp only[qCx hS,qCw hS,qCy hS,qCz hS,qCA hS,push_cast,reduceIte,zA,zB,zC,zD,zE,zF,zG,reduceCtorEq,zH,zJ,cNI]
 refine qnY (fun h=> ?_) fun h=> ?_
 ·have hkn:k<nb:=by omega
  have hln:=qDf hcf κ i (valB (((strB l x).drop c).take k):Nat)
  have hvl:=qBy (((strB l x).drop c).take k)
  have htl:(((strB l x).drop c).take k).length=k:=by rw[List.length_take,List.length_drop];omega
  rw[htl]at hvl
  have hcl2:(c+k)/57<(datD l x).length:=by omega
  simp only[ac44_r26,qCx hS,qCw hS,qCy hS,qCz hS,qCA hS,push_cast,reduceIte,zA,zB,zC,zD,zE,zF,zG,reduceCtorEq,zH,zJ,cNI]
  refine qId (s0:=S++[(1018,.ptr 18 0),(1019,.int x),(1020,.ptr 1020 0),(1021,.int k),(1081,.int nb),(1082,.int k)]) ?_ (kA κ) i (valB (((strB l x).drop c).take k)) x k n (cfgL (qDe cf κ i (valB (((strB l x).drop c).take k):Nat)) κ) (L.set x ((c+k:Nat):Int)) (datD l) (c+k) B _ nb _ ?_ ?_ ?_ ?_ h18 h20 h8 h31 h17 rfl (by rw[yF,hL]) (hLs _) hx hn hcl2 oM (qIh _ _) (qIg κ) (qIk hln hk) ?_ hvl oM ?_
  ·rw[qCB hS _ _ oM];rfl
  ·simp only[qCy hS,push_cast,reduceIte,zA,zB,zC,zD,zE,zF,zG,reduceCtorEq,zH,zJ,cNI]
  ·simp only[qCy hS,push_cast,reduceIte,zA,zB,zC,zD,zE,zF,zG,reduceCtorEq,zH,zJ,cNI]
  ·simp only[qCy hS,push_cast,reduceIte,zA,zB,zC,zD,zE,zF,zG,reduceCtorEq,zH,zJ,cNI]
  ·simp only[qCy hS,push_cast,reduceIte,zA,zB,zC,zD,zE,zF,zG,reduceCtorEq,zH,zJ,cNI]
  ·rw[qIj,qDh hcf hk hk,if_pos ⟨rfl,rfl⟩]
  ·have hbit:(datW ((datD l x).getD ((c+k)/57) 0)).testBit ((c+k)%57)=(strB l x).getD (c+k) false:=(qIn l x (c+k)).resolve_right oM
   rw[hbit,qIi,qIl,hLset]
   have hvs:valB (((strB l x).drop c).take k)|||(((strB l x).getD (c+k) false).toNat<<<k)=valB (((strB l x).drop c).take (k+1)):=by
    rw[qIo _ _ _ oM,qBE,htl]
   rw[hvs]
   simp only[slA,xs44_27,putD,qIb,qCx hS,qCw hS,qCy hS,qCz hS,qCA hS,push_cast,reduceIte,zA,zB,zC,zD,zE,zF,zG,reduceCtorEq,zH,zJ,cNI]
   refine⟨⟨oM,oM⟩,_,SWk.refl _,nb-(k+1),oM,k+1,oM,rfl,?_⟩
   rw[show(c:Int)+k+1=((c:Int)+((k+1:Nat):Int))from by omega]
   rfl
 ·obtain rfl:k=nb:=by omega
  rw[show decide ((k:Int)<k)=false from decide_eq_false oM]
  exact hQ
end Go.Proofs.YtecoaapkcnhlhaaGreatDoor
namespace Go.Proofs.YtecoaapkcnhlhaaGreatDoor
open Go Go.Vc Go.Ham Txt
def cfA(c:Cfg):List (Nat×Arr):=[(109,⟨1,3,ints c.sel⟩),(111,⟨1,3,ints c.mode⟩),(113,⟨1,3,ints c.tab⟩),(115,⟨1,3,ints c.ram⟩)]
theorem qIq(g:Grid)(hg:GOk g):FnM (Env.of Tryz.prog) 65 [.agg (quX false g)] ⟨[],[],[],[]⟩ (fun v st' =>
  v= .agg [.view 109 0 (qv2 g).toNat,.view 111 0 g.kind.length,.view 113 0 g.kind.length,.view 115 0 g.kind.length]/\st' =⟨[],[],cfA (qxc g),[]⟩):=by
 have h1:=hg.count
 have h2:=hg.wh
 have h3:=hg.kind
 refine FnM.dropB 101 (FnM.dropB 102 ?_)
 refine quf 100 Tryz.func65 ok65_100 (by show 1<=_;decide) rfl (by decide) ?_
 simp only[ac65_100,rv65_100,push_cast,reduceIte,zA,zB,zC,zD,zE,zF,zG,reduceCtorEq,zH,zJ,cNI]
 refine qrx (qv5 g hg) sC rfl ?_
 refine sB ?_
 refine⟨oM,oM,oM,oM,?_,?_⟩
 ·simp
 ·simp only[cfA,qxc,List.length_replicate,push_cast,reduceIte,zA,zB,zC,zD,zE,zF,zG,reduceCtorEq,zH,zJ,cNI]
def cfP(g:Grid)(l:List (List Nat))(pre:List Fld):Cfg:=(qC0 pre (strB l)).foldl (fun c p=>qDe c p.1.kind p.1.i p.2) (qxc g)
theorem qIr(g:Grid)(l:List (List Nat)):cfP g l (qCn g)=decC g fun x=>unW (datF l x):=rfl
theorem qIs(g:Grid)(l:List (List Nat))(pre:List Fld)(f:Fld):cfP g l (pre++[f])=qDe (cfP g l pre) f.kind f.i (valB (((strB l f.x).drop (qBV pre f.x)).take f.n):Nat):=by
 unfold cfP
 rw[qC2,List.foldl_append]
 rfl
theorem qIt(g:Grid)(k i:Nat):cfgI (qxc g) k i=0:=by
 have h: ∀n:Nat,(List.replicate n (0:Int)).getD i 0=0:=fun n=>by
  rw[zK,List.getElem?_replicate];split<;>rfl
 unfold cfgI qxc
 repeat' split
 all_goals exact h _
theorem qIu(fs:List Fld)(S:Nat->List Bool):(qC0 fs S).map (fun p=>fkey p.1)=fs.map fkey:=by
 rw[show(fun p:Fld×Nat=>fkey p.1)=fkey ∘ Prod.fst from rfl,<- List.map_map,qC1]
theorem qIv{g:Grid}(hg:GOk g)(l:List (List Nat)){pre:List Fld}{f:Fld}(h:pre++[f]<+:qCn g):CfgLn g (cfP g l pre)/\cfgI (cfP g l pre) f.kind f.i=0:=by
 have hnd:=qDa hg
 obtain⟨r,hr⟩:=h
 have hin: ∀p∈qC0 pre (strB l),p.1∈qCn g:=fun p hp=>by
  have:p.1∈(qC0 pre (strB l)).map (·.1):=List.mem_map_of_mem hp
  rw[qC1]at this
  rw[<- hr]
  exact List.mem_append_left _ (List.mem_append_left _ this)
 rw[<- hr,List.append_assoc,yH,List.nodup_append]at hnd
 obtain⟨a1,_,a3⟩:=qDi (qC0 pre (strB l)) (qxc g) (qDk g) (fun p hp=>(qD5 hg (hin p hp)).keyIn) (by rw[qIu];exact hnd.1)
 refine⟨a1,?_⟩
 have hf:f∈qCn g:=by rw[<- hr];simp
 refine(a3 f.kind f.i (qD5 hg hf).keyIn ?_).trans (qIt g _ _)
 rw[qIu]
 intro hm
 exact hnd.2.2 _ hm (fkey f) (by simp) rfl
theorem qIw{g:Grid}{pre:List Fld}(h:pre<+:qCn g)(x:Nat):qBV pre x<=qDs g x:=by
 obtain⟨r,hr⟩:=h
 unfold qDs
 rw[<- hr,qBZ]
 omega
theorem qIx(n:Nat):n<=57*nW n:=by unfold nW;omega
def qIy(g:Grid)(n:Nat)(C:List PV):List (Nat×List PV):=[(2,quX false g),(4,[.nil,.nil,.nil,.nil]),(8,[.bv 31 1 n]),(16,[.view 109 0 (cN g),.view 111 0 g.kind.length,.view 113 0 g.kind.length,.view 115 0 g.kind.length]),(17,[.view 74 0 n]),(18,[.clo 70 [8,17]]),(31,C)]
def qIz(g:Grid)(n:Nat)(C:List PV):List (Nat×List PV):=qIy g n C++[(102,quX false g),(103,[.ptr 16 0]),(105,[.int (qv1 g)])]
def qIA(g:Grid)(n:Nat)(C:List PV):List (Nat×List PV):=qIz g n C++[(204,[.yl 999])]
def qIB(g:Grid)(n:Nat)(C:List PV):List (Nat×List PV):=qIz g n C++[(204,[.bot])]
def decS(l:List (List Nat))(f:Int):List (Nat×PV):=[(1,.sl false 1 (rows (frmC false) l)),(2,.ptr 2 0),(4,.ptr 4 0),(7,.int f),(8,.ptr 8 0),(16,.ptr 16 0),(17,.ptr 17 0),(18,.ptr 18 0),(77,.clo 82 [103,102,105])]
theorem qIC{id n:Nat}(h:id<1000):farV (.view id 0 n):=⟨fun j hj=>⟨rfl,beq_false_of_ne oM⟩,fun _ j hj=>⟨rfl,beq_false_of_ne oM⟩⟩
set_option maxHeartbeats 4000000 in
theorem qID (g : Grid) (hg : GOk g) (l : List (List Nat)) (n : Nat) (hn : n = wN g + 1) (f : Int) (Q : Exit -> St -> Prop) (hs : ∀ x, x <= wN g -> (datD l x).length = nW (qDs g x)) (h75 : PV)
  (h29:awp (Env.of Tryz.prog) ac44_r29 Q ⟨decS l f,qIB g n (outC datW n (datD l) n),datA (qDQ g (qCn g)) (cfP g l (qCn g)),[]⟩):
  awp (Env.of Tryz.prog) ac44_r21 Q ⟨[(1,.sl false 1 (rows (frmC false) l)),(2,.ptr 2 0),(4,.ptr 4 0),(7,.int f),(8,.ptr 8 0),(16,.ptr 16 0),(17,.ptr 17 0),(18,.ptr 18 0),(75,.clo 70 [8,17])],qIy g n (outC datW n (datD l) n),datA (List.replicate n 0) (qxc g),[]⟩:=by
 have hn' :=hg.n
 have hw2:=hn'.w2
 simp only[ac44_r21,qIy,push_cast,reduceIte,zA,zB,zC,zD,zE,zF,zG,reduceCtorEq,zH,zJ,cNI]
 have hF : FnM (Env.of Tryz.prog) 58 [.agg (quX false g), .ptr 16 0] ⟨[(1, .sl false 1 (rows (frmC false) l)), (2, .ptr 2 0), (4, .ptr 4 0), (7, .int f), (8, .ptr 8 0), (16, .ptr 16 0), (17, .ptr 17 0), (18, .ptr 18 0), (76, .agg (quX false g))], qIy g n (outC datW n (datD l) n), datA (List.replicate n 0) (qxc g), []⟩
   (fun v st' =>v= .clo 82 [103,102,105]/\st' =⟨[(1,.sl false 1 (rows (frmC false) l)),(2,.ptr 2 0),(4,.ptr 4 0),(7,.int f),(8,.ptr 8 0),(16,.ptr 16 0),(17,.ptr 17 0),(18,.ptr 18 0),(76,.agg (quX false g))],qIz g n (outC datW n (datD l) n),datA (List.replicate n 0) (qxc g),[]⟩):=by
  refine quf 100 Tryz.func58 ok58_100 (by show 2<=_;decide) rfl (by decide) ?_
  have ht:=hg.tracks
  simp only[ac58_100,rv58_100,qIy,qGh,push_cast,reduceIte,zA,zB,zC,zD,zE,zF,zG,reduceCtorEq,zH,zJ,cNI]
  exact⟨⟨oM,oM⟩,⟨oM,oM⟩,rfl⟩
 refine qsP hF ?_
 refine sB ?_
 have hv:=fun pre=>qIh (k:=0) (qDQ g pre) (cfP g l pre)
 refine qud (st1:=⟨decS l f,qIz g n (outC datW n (datD l) n),datA (qDQ g []) (cfP g l []),[]⟩) (Env.of_noY _) rfl ?_
  (qDd (s:=decS l f) rfl (by show 126<=200;decide) (fun _ _ h=>h) rfl g hg 103 102 105 16 (.view 109 0 (cN g)) (.view 111 0 g.kind.length) (.view 113 0 g.kind.length) (.view 115 0 g.kind.length) (qIz g n (outC datW n (datD l) n)) (fun _=>qIA g n (outC datW n (datD l) n)) (fun pre=>datA (qDQ g pre) (cfP g l pre)) rfl rfl rfl (by simp only[decS,push_cast,reduceIte,zA,zB,zC,zD,zE,zF,zG,reduceCtorEq,zH,zJ,cNI]) ?_ (fun pre hp=>⟨rfl,rfl,rfl,rfl,rfl⟩) (fun pre hp=>⟨⟨_,_,rfl⟩,⟨_,_,rfl⟩,⟨_,_,rfl⟩,⟨_,_,rfl⟩⟩) ?_ ⟨by decide,by decide,by decide,by decide⟩ ⟨qIC (by decide),qIC (by decide),qIC (by decide),qIC (by decide)⟩ ?_) ?_
 ·simp only[qIz,qIy,qGh,decS,push_cast,reduceIte,zA,zB,zC,zD,zE,zF,zG,reduceCtorEq,zH,zJ,cNI]
  rw[qE2,<- hn]
  rfl
 ·simp only[qIz,qIy,qIA,qGh,List.cons_append,List.nil_append,push_cast,reduceIte,zA,zB,zC,zD,zE,zF,zG,reduceCtorEq,zH,zJ,cNI]
 ·have hc:=hn'.c
  have hk:=hn'.k
  exact⟨rfl,hk,hk,hk⟩
 ·intro pre fl hpf t ht h4 hft
  have hm:midL 0 126 (decS l f++t)=decS l f:=by
   simp only[decS,List.cons_append,List.nil_append,qtU]
   rw[qCQ fun x hx=>by have:=h4 x hx;omega]
   rfl
  have hsl:qtX 1000 (decS l f++t)=true:=by simpa[qtX,decS]using ht
  refine qCC rfl rfl hsl ?_
  rw[hm]
  have hS: ∀j,1000<=j->farL j (decS l f++t):=by
   intro j hj
   have n1: ∀i,i<1000->(i==j)=false:=fun i hi=>beq_false_of_ne oM
   simp only[decS,qCX,n1 2 (by decide),n1 4 (by decide),n1 8 (by decide),n1 16 (by decide),n1 17 (by decide),n1 18 (by decide),n1 103 (by decide),n1 102 (by decide),n1 105 (by decide),hft j hj,push_cast,reduceIte,zA,zB,zC,zD,zE,zF,zG,reduceCtorEq,zH,zJ,cNI]
  have hg1:getL (decS l f++t) 1= .sl false 1 (rows (frmC false) l):=rfl
  have hg2:getL (decS l f++t) 2= .ptr 2 0:=rfl
  have hg4:getL (decS l f++t) 4= .ptr 4 0:=rfl
  have hg7:getL (decS l f++t) 7= .int f:=rfl
  have hg8:getL (decS l f++t) 8= .ptr 8 0:=rfl
  have hg16:getL (decS l f++t) 16= .ptr 16 0:=rfl
  have hg17:getL (decS l f++t) 17= .ptr 17 0:=rfl
  have hg18:getL (decS l f++t) 18= .ptr 18 0:=rfl
  have hg77:getL (decS l f++t) 77= .clo 82 [103,102,105]:=rfl
  have hdS:decS l f=[(1,.sl false 1 (rows (frmC false) l)),(2,.ptr 2 0),(4,.ptr 4 0),(7,.int f),(8,.ptr 8 0),(16,.ptr 16 0),(17,.ptr 17 0),(18,.ptr 18 0),(77,.clo 82 [103,102,105])]:=rfl
  clear hm ht h4
  generalize decS l f++t=S at *
  rw[hdS]
  unfold qua
  have hfi:=qD5 hg (hpf.subset (List.mem_append_right _ zX))
  have hfx:=hfi.x
  have hfn:=qIf hg hfi
  have hbd:=qDX hg hpf fl.x
  have hnp:=qIw hpf fl.x
  rw[qBZ]at hbd hnp
  simp only[qBV,if_true]at hbd hnp
  obtain⟨hcl,hc0⟩:=qIv hg l hpf
  have hD:=hs fl.x hfx
  have hnw:=qIx (qDs g fl.x)
  have hpt:qCR (cfK (.view 109 0 (cN g)) (.view 111 0 g.kind.length) (.view 113 0 g.kind.length) (.view 115 0 g.kind.length) fl.kind) fl.i= .eptr (kA fl.kind) fl.i 0:=by
   rcases hfi.key with h|h|h|h<;>rw[h.1]<;>simp[cfK,qCR,kA]
  have hkb:(kA fl.kind==1020)=false:=by
   rcases hfi.key with h|h|h|h<;>rw[h.1]<;>rfl
  rw[hpt]
  simp only[qIA,qIz,qIy,qGh,List.cons_append,List.nil_append,hg1,hg2,hg4,hg7,hg8,hg16,hg17,hg18,hg77,qCx hsl,qCw hsl,qCy hsl,qCz hsl,qCA hsl,qD1,qCY (hS 1020 (by decide)),push_cast,reduceIte,zA,zB,zC,zD,zE,zF,zG,reduceCtorEq,zH,zJ,cNI]
  refine qIp g hsl fl.kind fl.i fl.x fl.n n l (qDQ g pre) (qBV pre fl.x) _ (cfP g l pre) rfl rfl rfl rfl rfl (by rw[qDY,hn]) (qDZ hfx pre) oM oM (by rw[hD];omega) oM hcl hfi.keyIn hc0 hfn [(1079,.agg [.eptr (kA fl.kind) fl.i 0,.int fl.n])] sC _ ?_
  simp only[qCx hsl,qCw hsl,qCy hsl,qCz hsl,qCA hsl,push_cast,reduceIte,zA,zB,zC,zD,zE,zF,zG,reduceCtorEq,zH,zJ,cNI]
  refine⟨_,SWk.drop (fun i=>i !=1020) (fun _=>true),hsl,?_⟩
  rw[qIs,qE0]
  rfl
 ·rintro _ _ rfl
  simp only[decS,qIB,qIA,qIz,qIy,qGh,List.cons_append,List.nil_append,push_cast,reduceIte,zA,zB,zC,zD,zE,zF,zG,reduceCtorEq,zH,zJ,cNI]at h29 ⊢
  exact h29
set_option maxHeartbeats 4000000 in
theorem qIE (g : Grid) (hg : GOk g) (l : List (List Nat)) (n : Nat) (hn : n = wN g + 1) (hl : l.length = n) (f : Int) (T : List (Nat × PV)) (hT : qhn [0, 126, 1, 2, 4, 7, 8] T = []) (Q : Exit -> St -> Prop)
  (hs: ∀x,x<=wN g->(datD l x).length=nW (qDs g x))
  (h29:awp (Env.of Tryz.prog) ac44_r29 Q ⟨decS l f,qIB g n (outC datW n (datD l) n),datA (qDQ g (qCn g)) (cfP g l (qCn g)),[]⟩):
  awp (Env.of Tryz.prog) ac44_r18 Q ⟨[(1,.sl false 1 (rows (frmC false) l)),(2,.ptr 2 0),(4,.ptr 4 0),(7,.int f),(8,.ptr 8 0)]++T,decB g n (outC datW n (datD l) n),[],[]⟩:=by
 have hn' :=hg.n
 have hw2:=hn'.w2
 have hgw:=hg.w
 simp only[ac44_r18,hT,decB,push_cast,reduceIte,zA,zB,zC,zD,zE,zF,zG,reduceCtorEq,zH,zJ,cNI]
 refine qDP [] [109,111,113,115] (qIq g hg) rfl (by simp only[qDM,St.noTo,List.all_cons,List.all_nil,qhK,qGh];rfl) rfl ?_
 simp only[cfA,qGh,hl,List.cons_append,List.nil_append,List.length_replicate,push_cast,reduceIte,zA,zB,zC,zD,zE,zF,zG,reduceCtorEq,zH,zJ,cNI]
 refine⟨⟨oM,oM,oM⟩,?_⟩
 exact qID g hg l n hn f Q hs .bot h29
end Go.Proofs.YtecoaapkcnhlhaaGreatDoor
namespace Go.Proofs.YtecoaapkcnhlhaaGreatDoor
open Go Go.Vc Go.Ham Txt
def qIF:PV:= .tup [.agg (cfgC true cfg0),.int 0,.int 380]
def cfV(g:Grid):List PV:=[.view 109 0 (cN g),.view 111 0 g.kind.length,.view 113 0 g.kind.length,.view 115 0 g.kind.length]
def qIG(g:Grid)(n:Nat)(C:List PV):List (Nat×List PV):=[(2,quX false g),(4,cfV g),(8,[.bv 31 1 n]),(16,cfV g),(17,[.view 74 0 n]),(18,[.clo 70 [8,17]]),(31,C),(102,quX false g),(103,[.ptr 16 0]),(105,[.int (qv1 g)]),(204,[.bot])]
theorem qIH{l:List Int}{n:Nat}(h:l.length=n):l.take n=l:=zY oM
set_option maxHeartbeats 4000000 in
theorem qII (g : Grid) (hg : GOk g) (c : Cfg) (hc : CfgLn g c) (f : Int) (T : List (Nat × PV)) (hT : qhn [0, 126, 2, 4, 7, 16] T = []) (n : Nat) (C : List PV) (hC : ∀ pb pa, anyT pb pa C = false) (L : List Int) (Q : Exit -> St -> Prop)
  (hE:validE g c≠0-> ∀T B A,lk B 4=some [.nil,.nil,.nil,.nil]->Q .ret ⟨(4,.ptr 4 0)::(5,.int 0)::(6,.int 380)::T,B,A,[]⟩)
  (hQ:validE g c=0->Q .ret ⟨[(4,.ptr 4 0),(5,.int f),(6,.int 0),(7,.int f),(16,.ptr 16 0),(124,.agg (cfV g)),(125,.int f)],qIG g n C,datA L c,[]⟩):
  awp (Env.of Tryz.prog) ac44_r36 Q ⟨[(2,.ptr 2 0),(4,.ptr 4 0),(7,.int f),(8,.ptr 8 0),(16,.ptr 16 0)]++T,qIB g n C,datA L c,[]⟩:=by
 obtain⟨l1,l2,l3,l4⟩:=hc.lens
 have hv:=qyz g hg c (by have hw:=hg.wh;have hk:=hg.kind;have hc0:=hg.count;have hn:=hg.n;have hcc:=hn.c;exact⟨oM,oM,oM,oM⟩)
 simp only[ac44_r36,hT,qIB,qIz,qIy,datA,qIH l1,qIH l2,qIH l3,qIH l4,push_cast,reduceIte,zA,zB,zC,zD,zE,zF,zG,reduceCtorEq,zH,zJ,cNI]
 refine qrv hv (by exact⟨.refl _,.refl _,trivial⟩) ?_
 refine sB ?_
 refine qnY (fun h=> ?_) fun h=> ?_
 ·exact hE h _ _ _ rfl
 ·exact hQ (Classical.not_not.1 h)
set_option maxHeartbeats 4000000 in
theorem qIK (g : Grid) (hg : GOk g) (l : List (List Nat)) (n x : Nat) (hn : n = wN g + 1) (hx : x < n) (f : Int) (c : Cfg) (L : List Int) (hL : L.length = n) (hLx : L.getD x default = qDs g x) (hs : (datD l x).length = nW (qDs g x)) (Q : Exit -> St -> Prop)
  (hE: ¬qCa (datF l x) (qDs g x)-> ∀T B A,lk B 4=some [.nil,.nil,.nil,.nil]->Q .ret ⟨(4,.ptr 4 0)::(5,.int 0)::(6,.int 380)::T,B,A,[]⟩)
  (hQ:qCa (datF l x) (qDs g x)-> ∀T y,qhn [0,126,2,4,7,8,16,17,18,98,99] T=[]->Q .normal ⟨[(2,.ptr 2 0),(4,.ptr 4 0),(7,.int f),(8,.ptr 8 0),(16,.ptr 16 0),(17,.ptr 17 0),(18,.ptr 18 0),(22,.int x),(98,.int n),(99,.int x)]++T,qIB g n (outC datW n (datD l) n),datA (L.set x y) c,[]⟩) (T:List (Nat×PV)) (hT:qhn [0,126,2,4,7,8,16,17,18,98,99] T=[]):
  awp (Env.of Tryz.prog) ac44_r31 Q ⟨[(2,.ptr 2 0),(4,.ptr 4 0),(7,.int f),(8,.ptr 8 0),(16,.ptr 16 0),(17,.ptr 17 0),(18,.ptr 18 0),(98,.int n),(99,.int x)]++T,qIB g n (outC datW n (datD l) n),datA L c,[]⟩:=by
 have hw2:=hg.n.w2
 have hbd:qDs g x<=1000000000:=qDX hg List.prefix_rfl x
 have hnw:=qIx (qDs g x)
 have hnw2:nW (qDs g x)<=100000000:=by unfold nW;omega
 have hnw3:57*nW (qDs g x)<=1000000056:=by unfold nW;omega
 have hcl:(outC datW n (datD l) n).length=n:=qGb _ _ _
 have hLs: ∀y,(L.set x y).getD x default=y:=fun y=>by rw[zK,List.getElem?_set_self oM];rfl
 have hLset: ∀y z,(L.set x y).set x z=L.set x z:=fun y z=>List.set_set ..
 have hL0:L.set x ((qDs g x:Nat):Int)=L:=by
  rw[<- hLx]
  apply List.ext_getElem (by simp)
  intro j h1 h2
  rw[List.getElem_set]
  split
  ·next e=>subst e;simp[zK,h2]
  ·rfl
 simp only[ac44_r31,hT,push_cast,reduceIte,zA,zB,zC,zD,zE,zF,zG,reduceCtorEq,zH,zJ,cNI]
 refine qoO (fun j st=> ∃p:Nat,qDs g x<=p/\p<=57*nW (qDs g x)/\j=57*nW (qDs g x)-p/\(∀q,qDs g x<=q->q<p->(unW (datF l x)).getD q false=false)/\st=⟨[(2,.ptr 2 0),(4,.ptr 4 0),(7,.int f),(8,.ptr 8 0),(16,.ptr 16 0),(17,.ptr 17 0),(18,.ptr 18 0),(22,.int x),(98,.int n),(99,.int x)],qIB g n (outC datW n (datD l) n),datA (L.set x p) c,[]⟩) (57*nW (qDs g x)-qDs g x) ⟨_,SWk.refl _,qDs g x,oM,oM,rfl,fun q h1 h2=>by omega,by simp only[push_cast,reduceIte,zA,zB,zC,zD,zE,zF,zG,reduceCtorEq,zH,zJ,cNI];rw[hL0]⟩ ?_
 rintro j st ⟨p,hp1,hp2,rfl,hz,rfl⟩
 have hcell:(outC datW n (datD l) n).getD x .bot=outP datW (datD l) x:=by
  simp only[outC,zK,zS,List.getElem?_range hx,Option.map_some,Option.getD_some,if_pos hx]
 have hlenV:lenV (outP datW (datD l) x)=(True,.int (nW (qDs g x):Nat)):=by
  unfold outP
  split
  ·next h=>rw[<- hs,h];rfl
  ·rw[<- hs];simp only[qF0,yG,push_cast,reduceIte,zA,zB,zC,zD,zE,zF,zG,reduceCtorEq,zH,zJ,cNI]
 simp only[qIB,qIz,qIy,datA,hcl,hcell,hlenV,hLs,hL,yF,List.cons_append,List.nil_append,Nat.mul_one,qFh,push_cast,reduceIte,zA,zB,zC,zD,zE,zF,zG,reduceCtorEq,zH,zJ,cNI]
 refine⟨⟨oM,oM⟩,hx,⟨oM,oM⟩,oM,⟨oM,oM⟩,qnY (fun h=> ?_) fun h=> ?_⟩
 ·have hp3:p<57*nW (qDs g x):=by omega
  have hq57:p/57<(datD l x).length:=by omega
  have hbit:(datW ((datD l x).getD (p/57) 0)).testBit (p%57)=(unW (datF l x)).getD p false:=(qIn l x p).resolve_right oM
  have hnx:=qIa (E:=Env.of Tryz.prog) rfl (Nat.zero_le _) (fun _ _ h=>h) (s:=[(2,.ptr 2 0),(4,.ptr 4 0),(7,.int f),(8,.ptr 8 0),(16,.ptr 16 0),(17,.ptr 17 0),(18,.ptr 18 0),(22,.int x),(98,.int n),(99,.int x),(113,.clo 70 [8,17]),(114,.int x)]) rfl n x hx oM (datD l) (qIB g n (outC datW n (datD l) n)) (datA (L.set x p) c) (L.set x p) [] rfl rfl rfl rfl (by rw[yF,hL]) p (hLs _) hq57 oM
  rw[hbit,hLset]at hnx
  refine qsP hnx ?_
  cases hv:(unW (datF l x)).getD p false with
  |false=>
    simp only[Bool.toNat_false,push_cast,reduceIte,zA,zB,zC,zD,zE,zF,zG,reduceCtorEq,zH,zJ,cNI]
    refine qnY (fun h=>absurd rfl h) fun _=> ?_
    refine⟨_,SWk.refl _,57*nW (qDs g x)-(p+1),oM,p+1,oM,oM,rfl,fun q h1 h2=> ?_,rfl⟩
    by_cases e:q=p
    ·rw[e];exact hv
    ·exact hz q h1 oM
  |true=>
    simp only[Bool.toNat_true,qIB,qIz,qIy,List.cons_append,List.nil_append,push_cast,reduceIte,zA,zB,zC,zD,zE,zF,zG,reduceCtorEq,zH,zJ,cNI]
    refine qnY (fun _=> ?_) fun h=>absurd (by decide) h
    refine hE (fun hr=> ?_) _ _ _ rfl
    have:=hr p hp1
    rw[hv]at this
    cases this
 ·obtain rfl:p=57*nW (qDs g x):=by omega
  refine hQ (fun q hq=> ?_) [(102,.view 74 0 n),(103,.int x),(104,.eptr 74 x 0),(105,.int (57*nW (qDs g x):Nat)),(106,.bv 31 1 n),(107,.int x),(108,.ptr 31 x),(109,outP datW (datD l) x),(110,.int (nW (qDs g x):Nat)),(111,.int (57*(nW (qDs g x):Nat))),(112,.bool (decide (((57*nW (qDs g x):Nat):Int)<57*(nW (qDs g x):Nat))))] _ rfl
  by_cases h2:q<57*nW (qDs g x)
  ·exact hz q hq h2
  ·rw[zK,List.getElem?_eq_none (by rw[qBO];unfold datF;rw[yG];have:(l.getD x []).length=nW (qDs g x):=hs;omega)]
   rfl
end Go.Proofs.YtecoaapkcnhlhaaGreatDoor
namespace Go.Proofs.YtecoaapkcnhlhaaGreatDoor
open Go Go.Vc Go.Ham Txt
set_option maxHeartbeats 400000 in
theorem qIL (g : Grid) (hg : GOk g) (l : List (List Nat)) (n : Nat) (hn : n = wN g + 1) (hl : l.length = n) (f : Int) (c : Cfg) (hc : CfgLn g c) (L : List Int) (hL : L.length = n) (hLx : ∀ x, x < n -> L.getD x default = qDs g x) (hs : ∀ x, x <= wN g -> (datD l x).length = nW (qDs g x)) (Q : Exit -> St -> Prop)
  (hE: ¬((∀x,x<wN g+1->qCa (datF l x) (qDs g x))/\validE g c=0)-> ∀T B A,lk B 4=some [.nil,.nil,.nil,.nil]->Q .ret ⟨(4,.ptr 4 0)::(5,.int 0)::(6,.int 380)::T,B,A,[]⟩)
  (hQ:(∀x,x<wN g+1->qCa (datF l x) (qDs g x))->validE g c=0-> ∀L',Q .ret ⟨[(4,.ptr 4 0),(5,.int f),(6,.int 0),(7,.int f),(16,.ptr 16 0),(124,.agg (cfV g)),(125,.int f)],qIG g n (outC datW n (datD l) n),datA L' c,[]⟩):
  awp (Env.of Tryz.prog) ac44_r29 Q ⟨decS l f,qIB g n (outC datW n (datD l) n),datA L c,[]⟩:=by
 have hw2:=hg.n.w2
 simp only[ac44_r29,decS,hl,push_cast,reduceIte,zA,zB,zC,zD,zE,zF,zG,reduceCtorEq,zH,zJ,cNI]
 refine qoO (fun j st=> ∃(k:Nat) (L' :List Int),k<=n/\j=n-k/\L'.length=n/\(∀x,k<=x->x<n->L'.getD x default=qDs g x)/\(∀x,x<k->qCa (datF l x) (qDs g x))/\st=⟨[(2,.ptr 2 0),(4,.ptr 4 0),(7,.int f),(8,.ptr 8 0),(16,.ptr 16 0),(17,.ptr 17 0),(18,.ptr 18 0),(98,.int n),(99,.int k)],qIB g n (outC datW n (datD l) n),datA L' c,[]⟩) n ⟨_,SWk.refl _,0,L,oM,oM,hL,fun x _ h=>hLx x h,fun x h=>absurd h (Nat.not_lt_zero _),by simp only[push_cast,reduceIte,zA,zB,zC,zD,zE,zF,zG,reduceCtorEq,zH,zJ,cNI]⟩ ?_
 rintro j st ⟨k,L',hk,rfl,hL',hLk,hz,rfl⟩
 refine sB ?_
 refine qnY (fun h=> ?_) fun h=> ?_
 ·have hk' :k<n:=by omega
  have e1:=hLk k oM hk'
  have e2:=hs k oM
  refine qIK g hg l n k hn hk' f c L' hL' e1 e2 _ ?_ ?_ [(100,.bool (decide ((k:Int)<n)))] ?_
  ·exact fun hr T B A h=>hE (fun hh=>hr (hh.1 k oM)) T B A h
  ·intro hr T y hT
   simp only[List.cons_append,List.nil_append,qhr,hT,push_cast,reduceIte,zA,zB,zC,zD,zE,zF,zG,reduceCtorEq,zH,zJ,cNI]
   refine⟨⟨oM,oM⟩,_,SWk.refl _,n-(k+1),oM,k+1,L'.set k y,oM,rfl,by rw[yF,hL'],fun x h1 h2=> ?_,fun x h1=> ?_,rfl⟩
   ·have:=hLk x oM h2
    rw[zK,List.getElem?_set_ne oM,<- zK]
    exact this
   ·by_cases e:x=k
    ·rw[e];exact hr
    ·exact hz x oM
  ·exact sC
 ·obtain rfl:k=n:=by omega
  refine qII g hg c hc f [(17,.ptr 17 0),(18,.ptr 18 0),(98,.int k),(99,.int k),(100,.bool (decide ((k:Int)<k)))] sC k _ (fun _ _=>qGh _ _ _ _) L' Q (fun hv T B A h=>hE (fun hh=>hv hh.2) T B A h) fun hv=> ?_
  exact hQ (fun x hx=>hz x oM) hv L'
end Go.Proofs.YtecoaapkcnhlhaaGreatDoor
namespace Go.Proofs.YtecoaapkcnhlhaaGreatDoor
open Go Go.Vc Go.Ham Txt
def qIM(g:Grid)(l:List (List Nat)):PV:= .tup [.agg (cfgC true (decC g fun x=>unW (datF l x))),.int (cntF l:Nat),.int 0]
theorem qIN(g:Grid)(l:List (List Nat)):qGQ l=(qDt g).map Int.ofNat ↔ l.map List.length=qDt g:=by
 have e:qGQ l=(l.map List.length).map Int.ofNat:=by unfold qGQ;rw[List.map_map];rfl
 rw[e]
 constructor
 ·intro h
  have hi:Function.Injective Int.ofNat:=fun a b h=>Int.ofNat.inj h
  exact(List.map_inj_right fun a b h=>hi h).1 h
 ·intro h;rw[h]
theorem qIO(g:Grid):(qDt g).length=wN g+1:=by simp[qDt]
theorem qIP{g:Grid}{l:List (List Nat)}(h:l.map List.length=qDt g){x:Nat}(hx:x<=wN g):(datD l x).length=nW (qDs g x):=by
 have hl:l.length=wN g+1:=by have:=congrArg List.length h;simpa[qDt]using this
 have:=congrArg (fun l=>l[x]?) h
 simp only[qDt,zS,List.getElem?_range (show x<wN g+1 by omega),Option.map_some]at this
 rw[zL oM]at this
 unfold datD
 rw[zK,zL oM]
 simpa using this
theorem qIQ{g:Grid}(hg:GOk g)(l:List (List Nat)):CfgLn g (cfP g l (qCn g)):=(qDo hg (strB l)).1
set_option maxHeartbeats 1000000 in
theorem qIR(g:Grid)(hg:GOk g)(l:List (List Nat))(hl:FrmSm l)(r:PV)(hp:r=qIM g l\/r=qIF)(h1:Dec38 g l->r=qIM g l)(h2: ¬Dec38 g l->r=qIF):FnEq Tryz.prog 44 [.agg (quX false g),.sl false 1 (rows (frmC false) l)] r:=by
 have hsz:=qEa g hg
 have hw2:=hg.n.w2
 have heq:=qGT l hl ((qDt g).map Int.ofNat) (by rw[yG,qIO];omega)
 have hP:Perm r:=by
  rcases hp with rfl|rfl
  ·unfold qIM;simp only[push_cast,reduceIte,zA,zB,zC,zD,zE,zF,zG,reduceCtorEq,zH,zJ,cNI];exact⟨fun _ _=>trivial,fun _ _=>trivial,fun _ _=>trivial,fun _ _=>trivial⟩
  ·unfold qIF;simp only[cfg0,push_cast,reduceIte,zA,zB,zC,zD,zE,zF,zG,reduceCtorEq,zH,zJ,cNI];simp
 refine FnEq.of_awp Tryz.func44 ok44 (by show 2<=_;decide) hP ?_
 have hE: ¬Dec38 g l-> ∀T B A,lk B 4=some [.nil,.nil,.nil,.nil]->retK [RV.cell 4 true 4,RV.tmp 5,RV.tmp 6] (fun x=>Sub x r) .ret ⟨(4,.ptr 4 0)::(5,.int 0)::(6,.int 380)::T,B,A,[]⟩:=by
  intro hn T B A hB
  rw[h2 hn]
  unfold qIF
  simp only[cfg0,hB,push_cast,reduceIte,zA,zB,zC,zD,zE,zF,zG,reduceCtorEq,zH,zJ,cNI]
  done
 simp only[ac44,rv44,push_cast,reduceIte,zA,zB,zC,zD,zE,zF,zG,reduceCtorEq,zH,zJ,cNI]
 refine qrv hsz sC ?_
 refine sB ?_
 refine qrv heq sC ?_
 refine sB ?_
 refine qnX (fun h=> ?_) fun h=> ?_
 ·have hne: ¬qGQ l=(qDt g).map Int.ofNat:=by simpa using h
  rw[h2 fun h=>hne ((qIN g l).2 h.size)]
  unfold qIF
  simp only[cfg0,push_cast,reduceIte,zA,zB,zC,zD,zE,zF,zG,reduceCtorEq,zH,zJ,cNI]
 ·have hss:l.map List.length=qDt g:=(qIN g l).1 (by simpa using h)
  have hlen:l.length=wN g+1:=by have:=congrArg List.length hss;simpa[qDt]using this
  have hat:=fun x hx=>qIP (g:=g) hss (x:=x) hx
  have hdn:=hlen
  refine qHQ g l hl _ (fun hb C' A=> ?_) ?_ [(23,.sl false 1 (rows (frmC false) l)),(24,.agg (quX false g)),(25,.sl true 1 (ints ((qDt g).map Int.ofNat))),(26,.bool (decide (qGQ l=(qDt g).map Int.ofNat))),(27,.bool (!decide (qGQ l=(qDt g).map Int.ofNat)))] rfl
  ·refine hE (fun hd=> ?_) [(54,.agg [.nil,.nil,.nil,.nil])] _ _ ?_
   ·obtain⟨ws,hw,hx⟩:=List.all_eq_false.1 hb
    exact hx (hd.ok ws hw)
   ·rfl
  ·intro hok T hT
   rw[hlen]
   refine qIE g hg l (wN g+1) rfl hlen (cntF l:Nat) T hT _ (fun x hx=>hat x hx) ?_
   refine qIL g hg l (wN g+1) rfl hlen (cntF l:Nat) (cfP g l (qCn g)) (qIQ hg l) (qDQ g (qCn g)) (qDY g _) (fun x hx=>qDZ oM _) (fun x hx=>hat x hx) _ ?_ ?_
   ·intro hn T B A hB
    exact hE (fun hd=>hn ⟨hd.rest,hd.valid⟩) T B A hB
   ·intro hr hv L'
    have hD:Dec38 g l:=⟨hss,fun ws hw=>yE.1 hok ws hw,hr,hv⟩
    obtain⟨l1,l2,l3,l4⟩:=(qIQ hg l).lens
    rw[h1 hD]
    unfold qIM
    rw[<- qIr]
    simp only[qIG,cfV,datA,qIH l1,qIH l2,qIH l3,qIH l4,qGh,push_cast,reduceIte,zA,zB,zC,zD,zE,zF,zG,reduceCtorEq,zH,zJ,cNI]
    exact⟨fun _ _=>trivial,fun _ _=>trivial,fun _ _=>trivial,fun _ _=>trivial⟩
end Go.Proofs.YtecoaapkcnhlhaaGreatDoor
namespace Go.Proofs.YtecoaapkcnhlhaaGreatDoor.Txt
open Go Go.Vc
set_option maxRecDepth 100000
def ac9:AC:=
 (.seq (.reg [0,16,0,1] [
 xT 2 0,xT 3 1,aO 4 (.alc [.nil,zI])])
 (.seq (.reg [0,16,2,3,4] [
 uE 8 5 2,uE 9 4 3,aO 10 (.cal 32 [(.t 8),(.t 9)]),mT 7 10,aO 11 (.ext (.t 7) 0),aO 12 (.ext (.t 7) 1),mT 5 11,mT 6 12])
 (.seq (.reg [0,16,4,5,6] [
 mT 13 5,mT 14 6,aO 15 (.bld [.nil,zI] [(0,1,(.t 13)),(1,1,(.t 14))]),sT 2 4 15])
 .ret)))
def rv9:List RV:=[.cell 4 true 2]
theorem ok9:fnOk Tryz.prog ac9 rv9 Tryz.f9=true:=by kernel_rfl

def ac18:AC:=
 (.seq (.reg [0,19,0,1] [
 xT 2 0,aO 4 (.alc [.nil,.nil,.nil,.nil,zI,zI])])
 (.seq (.reg [0,19,1,2,4] [
 uE 9 5 2,mT 10 1,aO 11 (.cal 44 [(.t 9),(.t 10)]),mT 8 11,aO 12 (.ext (.t 8) 0),aO 13 (.ext (.t 8) 1),aO 14 (.ext (.t 8) 2),aO 5 (.alc [.nil,.nil,.nil,.nil]),sT 4 5 12,mT 6 13,mT 7 14])
 (.seq (.reg [0,19,4,5,6,7] [
 uE 15 4 5,mT 16 6,mT 17 7,aO 18 (.bld [.nil,.nil,.nil,.nil,zI,zI] [(0,4,(.t 15)),(4,1,(.t 16)),(5,1,(.t 17))]),sT 6 4 18])
 .ret)))
def rv18:List RV:=[.cell 4 true 6]
theorem ok18:fnOk Tryz.prog ac18 rv18 Tryz.f18=true:=by kernel_rfl

def ac22:AC:=
 (.seq (.reg [0,16,0,1] [
 xT 3 1,aO 4 (.alc [.nil,zI])])
 (.seq (.reg [0,16,0,3,4] [
 mT 8 0,uE 9 3 3,aO 10 (.cal 48 [(.t 8),(.t 9)]),mT 7 10,aO 11 (.ext (.t 7) 0),aO 12 (.ext (.t 7) 1),mT 5 11,mT 6 12])
 (.seq (.reg [0,16,4,5,6] [
 mT 13 5,mT 14 6,aO 15 (.bld [.nil,zI] [(0,1,(.t 13)),(1,1,(.t 14))]),sT 2 4 15])
 .ret)))
def rv22:List RV:=[.cell 4 true 2]
theorem ok22:fnOk Tryz.prog ac22 rv22 Tryz.f22=true:=by kernel_rfl

def ac20:AC:=
 (.seq (.reg [0,16,0] [
 aO 2 (.alc [.nil,zI,.nil])])
 (.seq (.reg [0,16,0,2] [
 mT 7 0,aO 8 (.cal 47 [(.t 7)]),mT 6 8,aO 9 (.ext (.t 6) 0),aO 10 (.ext (.t 6) 1),aO 11 (.ext (.t 6) 2),mT 3 9,mT 4 10,mT 5 11])
 (.seq (.reg [0,16,2,3,4,5] [
 mT 12 3,mT 13 4,mT 14 5,aO 15 (.bld [.nil,zI,.nil] [(0,1,(.t 12)),(1,1,(.t 13)),(2,1,(.t 14))]),sT 3 2 15])
 .ret)))
def rv20:List RV:=[.cell 2 true 3]
theorem ok20:fnOk Tryz.prog ac20 rv20 Tryz.f20=true:=by kernel_rfl

def ac5:AC:=
 (.seq (.reg [0,19,0] [
 xT 1 0,aO 2 (.mv bF)])
 (.seq (.rgs [
 ([0,19,1],[
 fA 3 0 1,lF 4 1 3,aO 5 (.dvd .rem true .u8 (.t 4) (.c (.sc (.int .u8 4)))),aO 6 (.cmp .lss .u8 (.t 5) (.c (.sc (.int .u8 3)))),mT 7 6,uB 8 7 (.fa 1 (.t 1)),uB 9 7 (.ld false 1 (.t 8)),uB 10 7 (.dvd .rem true .u8 (.t 9) (.c (.sc (.int .u8 4)))),uB 11 7 (.cmp .lss .u8 (.t 10) (.c (.sc (.int .u8 3)))),aO 12 (pF 7 11),mT 13 12,uB 14 13 (.fa 4 (.t 1))]),([0,19,13,14],[
 uB 15 13 (.ld false 1 (.t 14)),uB 16 13 (.len (.t 15)),uB 17 13 (.cmp .leq .i64 (.t 16) (kI 40)),aO 18 (pF 13 17),mT 2 18])])
 .ret))
def rv5:List RV:=[.tmp 2]
theorem ok5:fnOk Tryz.prog ac5 rv5 Tryz.f5=true:=by kernel_rfl

def ac6:AC:=
 (.seq (.reg [0,54,0] [
 xT 1 0,aO 2 (.mv bF)])
 (.seq (.rgs [
 ([0,54,1],[
 fA 5 0 1,lF 6 1 5,nT 7 6,fA 8 1 1,fA 9 0 8,lF 10 1 9,nT 11 10,aO 12 (.ari .add true .i64 (.t 7) (.t 11)),fA 13 1 1,fA 14 1 13,lF 15 1 14,nT 16 15]),([0,54,1,12,16],[
 aO 17 (.ari .add true .i64 (.t 12) (.t 16)),fA 18 1 1,fA 19 2 18,lF 20 1 19,nT 21 20,aO 22 (.ari .add true .i64 (.t 17) (.t 21)),fA 23 1 1,fA 24 3 23,lF 25 1 24,nT 26 25,aO 27 (.ari .add true .i64 (.t 22) (.t 26)),fA 28 9 1]),([0,54,1,27,28],[
 lF 29 1 28,nT 30 29,aO 31 (.ari .add true .i64 (.t 27) (.t 30)),mT 3 31])])
 (.seq (.seq (.reg [0,54,1,3] [
 mK 4 0])
 (.block 0
 (.loop [0,54,1,3,4]
 (.seq (.seq (.reg [0,54,1,3,4] [
 mT 32 4,fA 33 0 1,lF 34 1 33,nT 35 34,lS 36 32 35,mT 37 36,uB 38 37 (.mv (.t 3)),uB 39 37 (.cmp .leq .i64 (.t 38) (kI 600)),aO 40 (pF 37 39)])
 (.cut [0,54,1,3,4,40] (.cond (.t 40)
 .skip
 (.exit 0))))
 (.seq (.block 1
 (.reg [0,54,1,3,4] [
 mT 43 3,fA 44 0 1,lF 45 1 44,mT 46 4,iX 47 1 45 46,fA 48 0 47,lF 49 1 48,nT 50 49,aO 51 (.ari .add true .i64 (.t 43) (.t 50)),mT 3 51]))
 (.reg [0,54,1,3,4] [
 mT 41 4,uF 42 41 1,mT 4 42]))))))
 (.seq (.reg [0,54,3] [
 mT 52 3,aO 53 (.cmp .leq .i64 (.t 52) (kI 600)),mT 2 53])
 .ret))))
def rv6:List RV:=[.tmp 2]
theorem ok6:fnOk Tryz.prog ac6 rv6 Tryz.f6=true:=by kernel_rfl
end Go.Proofs.YtecoaapkcnhlhaaGreatDoor.Txt
namespace Go.Proofs.YtecoaapkcnhlhaaGreatDoor
open Go Go.Vc Go.Ham Txt
def fmdC(q:Bool)(L:List (List Nat))(e:Int):List PV:=[.sl q 1 (rows (frmC q) L),.int e]
@[push_cast] theorem qIS(q:Bool)(L:List (List Nat))(e:Int):fmdC q L e=[.sl q 1 (rows (frmC q) L),.int e]:=rfl
noncomputable def encL (g:Grid) (c:Cfg):List (List Nat):=if validE g c=0 then qDu g c else[]
noncomputable def encE (g:Grid) (c:Cfg):Int:=if validE g c=0 then 0 else 310
theorem qIT(g:Grid)(hg:GOk g)(c:Cfg)(hs:CfgSm c):FnEq Tryz.prog 9 [.agg (quX false g),.agg (cfgC false c)] (.agg (fmdC true (encL g c) (encE g c))):=by
 unfold encL encE
 by_cases h:validE g c=0
 ·rw[if_pos h,if_pos h]
  have he:=qGs g hg c hs h
  refine FnEq.of_awp Tryz.func9 ok9 (by show 2<=_;decide) (by simp only[push_cast,reduceIte,zA,zB,zC,zD,zE,zF,zG,reduceCtorEq,zH,zJ,cNI];simp) ?_
  simp only[ac9,rv9,push_cast,reduceIte,zA,zB,zC,zD,zE,zF,zG,reduceCtorEq,zH,zJ,cNI]
  refine qrv he sC ?_
  refine sB ?_
  exact fun _ _ _ _=>trivial
 ·rw[if_neg h,if_neg h]
  have he:=qFC g hg c hs h
  refine FnEq.of_awp Tryz.func9 ok9 (by show 2<=_;decide) (by simp only[push_cast,reduceIte,zA,zB,zC,zD,zE,zF,zG,reduceCtorEq,zH,zJ,cNI];simp) ?_
  simp only[ac9,rv9,push_cast,reduceIte,zA,zB,zC,zD,zE,zF,zG,reduceCtorEq,zH,zJ,cNI]
  refine qrv he sC ?_
  simp only[rows,List.map_nil,push_cast,reduceIte,zA,zB,zC,zD,zE,zF,zG,reduceCtorEq,zH,zJ,cNI]
def fldF(l:List (List Nat))(f:FlipA):List (List Nat):=if qHy l f then qHd l f.x.toNat f.k.toNat f.b.toNat else[]
def fldE(l:List (List Nat))(f:FlipA):Int:=if qHy l f then 0 else 1
theorem qIU(l:List (List Nat))(hl:FrmSm l)(f:FlipA):FnEq Tryz.prog 22 [.sl false 1 (rows (frmC false) l),.agg (qHw f)] (.agg (fmdC true (fldF l f) (fldE l f))):=by
 have he:=qHA l hl f
 unfold qHz at he
 unfold fldF fldE
 refine FnEq.of_awp Tryz.func22 ok22 (by show 2<=_;decide) (by simp only[push_cast,reduceIte,zA,zB,zC,zD,zE,zF,zG,reduceCtorEq,zH,zJ,cNI];simp) ?_
 simp only[ac22,rv22,push_cast,reduceIte,zA,zB,zC,zD,zE,zF,zG,reduceCtorEq,zH,zJ,cNI]
 split at he
 ·next h=>
  simp only[if_pos h]
  refine qrv he sC ?_
  refine sB ?_
  exact fun _ _ _ _=>trivial
 ·next h=>
  simp only[if_neg h]
  refine qrv he sC ?_
  simp only[rows,List.map_nil,push_cast,reduceIte,zA,zB,zC,zD,zE,zF,zG,reduceCtorEq,zH,zJ,cNI]
def scdC(q:Bool)(L:List (List Nat))(n:Int)(bad:List Int):List PV:=[.sl q 1 (rows (frmC q) L),.int n,.sl q 1 (ints bad)]
@[push_cast] theorem qIV(q:Bool)(L:List (List Nat))(n:Int)(bad:List Int):scdC q L n bad=[.sl q 1 (rows (frmC q) L),.int n,.sl q 1 (ints bad)]:=rfl
theorem qIW(l:List (List Nat))(hl:FrmSm l):FnEq Tryz.prog 20 [.sl false 1 (rows (frmC false) l)] (.agg (scdC true (scrF l) (cntF l:Nat) (badN l l.length))):=by
 have he:=qI8 l hl
 unfold scrV at he
 refine FnEq.of_awp Tryz.func20 ok20 (by show 1<=_;decide) (by simp only[push_cast,reduceIte,zA,zB,zC,zD,zE,zF,zG,reduceCtorEq,zH,zJ,cNI];simp) ?_
 simp only[ac20,rv20,push_cast,reduceIte,zA,zB,zC,zD,zE,zF,zG,reduceCtorEq,zH,zJ,cNI]
 refine qrv he sC ?_
 refine sB ?_
 exact⟨fun _ _ _ _=>trivial,fun _ _=>trivial⟩
def dcdC(q:Bool)(c:Cfg)(n e:Int):List PV:=cfgC q c++[.int n,.int e]
@[push_cast] theorem qIX(q:Bool)(c:Cfg)(n e:Int):dcdC q c n e=[.sl q 1 (ints c.sel),.sl q 1 (ints c.mode),.sl q 1 (ints c.tab),.sl q 1 (ints c.ram),.int n,.int e]:=rfl
def decG(g:Grid)(l:List (List Nat)):Cfg:=decC g fun x=>unW (datF l x)
theorem qIY(g:Grid)(hg:GOk g)(l:List (List Nat))(hl:FrmSm l)(h:Dec38 g l):FnEq Tryz.prog 18 [.agg (quX false g),.sl false 1 (rows (frmC false) l)] (.agg (dcdC true (decG g l) (cntF l:Nat) 0)):=by
 have he:=qIR g hg l hl (qIM g l) (.inl rfl) (fun _=>rfl) (fun hn=>absurd h hn)
 unfold qIM at he
 refine FnEq.of_awp Tryz.func18 ok18 (by show 2<=_;decide) (by simp only[push_cast,reduceIte,zA,zB,zC,zD,zE,zF,zG,reduceCtorEq,zH,zJ,cNI];simp) ?_
 simp only[ac18,rv18,push_cast,reduceIte,zA,zB,zC,zD,zE,zF,zG,reduceCtorEq,zH,zJ,cNI]
 refine qrv he sC ?_
 refine sB ?_
 unfold decG
 exact⟨⟨fun _ _=>trivial,fun _ _=>trivial,fun _ _=>trivial,fun _ _=>trivial⟩,.refl _,.refl _,.refl _,.refl _⟩
theorem qIZ(g:Grid)(hg:GOk g)(l:List (List Nat))(hl:FrmSm l)(h: ¬Dec38 g l):FnEq Tryz.prog 18 [.agg (quX false g),.sl false 1 (rows (frmC false) l)] (.agg (dcdC true cfg0 0 380)):=by
 have he:=qIR g hg l hl qIF (.inr rfl) (fun hn=>absurd hn h) (fun _=>rfl)
 unfold qIF at he
 refine FnEq.of_awp Tryz.func18 ok18 (by show 2<=_;decide) (by simp only[cfg0,push_cast,reduceIte,zA,zB,zC,zD,zE,zF,zG,reduceCtorEq,zH,zJ,cNI];simp) ?_
 simp only[ac18,rv18,push_cast,reduceIte,zA,zB,zC,zD,zE,zF,zG,reduceCtorEq,zH,zJ,cNI]
 refine qrv he (by simp only[cfg0,push_cast,reduceIte,zA,zB,zC,zD,zE,zF,zG,reduceCtorEq,zH,zJ,cNI]) ?_
 simp only[cfg0,push_cast,reduceIte,zA,zB,zC,zD,zE,zF,zG,reduceCtorEq,zH,zJ,cNI]
 exact fun _ _=>trivial
theorem qJ0(x:RawG)(hx:x.By):FnEq Tryz.prog 5 [.agg (qyN false x)] (.bool (decide (x.w%4<3/\x.h%4<3/\x.kind.length<=40))):=by
 have h1:=hx.w
 have h2:=hx.h
 refine FnEq.of_awp Tryz.func5 ok5 (by show 1<=_;decide) (by simp only[push_cast,reduceIte,zA,zB,zC,zD,zE,zF,zG,reduceCtorEq,zH,zJ,cNI]<;>first|exact fun _ _=>trivial|simp) ?_
 simp only[ac5,rv5,push_cast,reduceIte,zA,zB,zC,zD,zE,zF,zG,reduceCtorEq,zH,zJ,cNI]
 refine⟨⟨h1.1,h1.2,by decide⟩,?_⟩
 refine qrz rfl (fun h3=> ?_) fun h3=> ?_<;>simp only[push_cast,reduceIte,zA,zB,zC,zD,zE,zF,zG,reduceCtorEq,zH,zJ,cNI]
 ·refine⟨⟨h2.1,h2.2,by decide⟩,?_⟩
  refine qrz rfl (fun h4=> ?_) fun h4=> ?_<;>simp only[push_cast,reduceIte,zA,zB,zC,zD,zE,zF,zG,reduceCtorEq,zH,zJ,cNI]
  ·congr 1;rw[decide_eq_decide];omega
  ·rw[decide_eq_false oM]
 ·rw[decide_eq_false oM]
end Go.Proofs.YtecoaapkcnhlhaaGreatDoor
namespace Go.Proofs.YtecoaapkcnhlhaaGreatDoor
open Go Go.Vc Go.Ham Txt
theorem qJ1{g:Grid}(hg:GOk g){c:Cfg}(hc:validE g c=0):Dec38 g (qDu g c)/\decG g (qDu g c)=c:=
 qDE hg hc (qDG g c) (fun ws hws=>yE.2 fun w hw=>by rw[qDJ hws hw];rfl) fun x hx=>qDK hx
theorem qJ2{g:Grid}(hg:GOk g){c:Cfg}(hc:validE g c=0){m:List (List Nat)}(h:Near (qDu g c) m):Dec38 g m/\decG g m=c/\scrF m=qDu g c/\ ∀ws∈m,qDv ws=true:=by
 obtain⟨h1,h2,h3⟩:=qHv (qDI g c) (fun ws hws w hw=>qDJ hws hw) h
 obtain⟨a,b⟩:=qDE hg hc (l:=m) (by rw[h.size];exact qDG g c) h1 fun x hx=>by rw[h2 x];exact qDK hx
 exact⟨a,b,h3,h1⟩
theorem qJ3{l:List (List Nat)}(h: ∀ws∈l,qDv ws=true):badN l l.length=[]:=by
 unfold badN
 have:(List.range l.length).filter (fun x=> !qDv (l.getD x []))=[]:=by
  rw[List.filter_eq_nil_iff]
  intro x hx
  have hx:=List.mem_range.1 hx
  rw[zK,zL hx]
  simp[h _ (List.getElem_mem hx)]
 rw[this];rfl
def gE:Grid:=⟨1,1,1,0,[1]⟩
def cE0:Cfg:=⟨[0,0,0,0,0,0,0,0],[0],[0],[0]⟩
def cE1:Cfg:=⟨[0,0,1,0,0,0,0,0],[0],[0],[0]⟩
theorem qJ4:GOk gE:=⟨by decide,by decide,by decide,by decide,by decide⟩
theorem rE:(List.range 8).map (fun n:Nat=>(rdrF gE (n:Int)).length)=[0,0,2,2,2,2,3,3]:=by decide+kernel
theorem nbE:(List.range 8).map (fun n:Nat=>qCg gE n)=[0,0,2,2,2,2,2,2]:=by
 have h:(fun n:Nat=>qCg gE n)=fun n:Nat=>Go.Lib.bitLen (rdrF gE (n:Int)).length:=by
  funext n;unfold qCg;rw[qy3 qJ4]
 rw[h,show(fun n:Nat=>Go.Lib.bitLen (rdrF gE (n:Int)).length)=Go.Lib.bitLen ∘ fun n:Nat=>(rdrF gE (n:Int)).length from rfl,<- List.map_map,rE]
 decide
def fE:List Fld:=[⟨0,0,0,0⟩,⟨0,0,1,0⟩,⟨0,0,2,2⟩,⟨0,0,3,2⟩,⟨0,0,4,2⟩,⟨0,0,5,2⟩,⟨0,0,6,2⟩,⟨0,0,7,2⟩,⟨0,1,0,2⟩,⟨0,2,0,16⟩,⟨0,3,0,8⟩]
theorem qJ5:qCh gE 0 0 8=[⟨0,0,0,0⟩,⟨0,0,1,0⟩,⟨0,0,2,2⟩,⟨0,0,3,2⟩,⟨0,0,4,2⟩,⟨0,0,5,2⟩,⟨0,0,6,2⟩,⟨0,0,7,2⟩]:=by
 have h:=nbE
 simp only[List.range,List.range.loop,zW,List.map_nil,List.cons.injEq]at h
 obtain⟨h0,h1,h2,h3,h4,h5,h6,h7,-⟩:=h
 simp only[qCh,List.range,List.range.loop,zW,List.map_nil,Nat.zero_add,h0,h1,h2,h3,h4,h5,h6,h7]
theorem qJ6:qCn gE=fE:=by
 have h:qCn gE=qCh gE 0 0 8++qCi 0 0:=by
  show qCl gE 1++qCh gE 1 8 0=_
  rw[show qCl gE 1=qCk gE 0 1 from by simp[qCl,List.range_succ,show hN gE=1 from rfl],show qCk gE 0 1=qCj gE 0 0 from by simp[qCk,List.range_succ],qCj]
  rfl
 rw[h,qJ5];rfl
theorem vE{c:Cfg}(h0:qys gE c)(h1: ∀i,i<c.sel.length->c.sel.getD i 0≠0->i=2/\c.sel.getD 2 0=1)(h2: ∀t,t<gE.kind.length->qyu gE c t):validE gE c=0:=
 qyv h0 (fun i hi h=>by
  obtain⟨rfl,h3⟩:=h1 i hi h
  rw[h3,qy3 qJ4]
  decide+kernel) h2
theorem vE0:validE gE cE0=0:=vE (by decide+kernel) (by decide) (by decide)
theorem vE1:validE gE cE1=0:=vE (by decide+kernel) (by decide) (by decide)
theorem vEn:validE gE cfg0≠0:=by rw[qyw (by decide+kernel)];decide
theorem eE0:qDu gE cE0=[[0],[]]:=by
 unfold qDu
 rw[qJ6]
 decide+kernel
theorem eE1:qDu gE cE1=[[15],[]]:=by
 unfold qDu
 rw[qJ6]
 decide+kernel
theorem szE:qDt gE=[1,0]:=by
 unfold qDt qDs
 rw[qJ6]
 decide+kernel
theorem qJ7:Near [[15],[]] [[9223372036854775823],[]]:=by
 have h:=(Near.refl [[15],[]]).flip (x:=0) (k:=0) (b:=63) ⟨by decide,by decide⟩ (by decide) rfl
 exact h
theorem dgE:digF [[0],[]]≠digF [[15],[]]:=by decide+kernel
theorem dfE:qGw [[0],[]] [[15],[]]=[0]:=by decide
end Go.Proofs.YtecoaapkcnhlhaaGreatDoor
namespace Go.Proofs.YtecoaapkcnhlhaaGreatDoor.Txt
open Go Go.Vc
set_option maxRecDepth 100000
def ac4:AC:=
 (.seq (.reg [0,171] [
 aO 0 (.mv bF)])
 (.seq (.reg [0,171] [
 aO 10 (.bsl 1 3 [zI] 1 [(0,(kI 1))]),aO 11 (.bld [zI,zI,zI,zI,.nil] [(0,1,(kI 1)),(1,1,(kI 1)),(2,1,(kI 1)),(4,1,(.t 10))]),aO 1 (.alc [zI,zI,zI,zI,.nil]),sT 5 1 11])
 (.seq (.reg [0,171,1] [
 aO 12 (.mks 1 3 8 [zI] (kI 8) (kI 8)),aO 13 (.bsl 1 3 [zI] 1 [(0,(kI 0))]),aO 14 (.bsl 1 3 [zI] 1 [(0,(kI 0))]),aO 15 (.bsl 1 3 [zI] 1 [(0,(kI 0))]),aO 16 (.bld [.nil,.nil,.nil,.nil] [(0,1,(.t 12)),(1,1,(.t 13)),(2,1,(.t 14)),(3,1,(.t 15))]),aO 2 (.alc [.nil,.nil,.nil,.nil]),sT 4 2 16])
 (.seq (.reg [0,171,1,2] [
 uE 17 5 1,uE 18 4 2,aO 19 (.cal 9 [(.t 17),(.t 18)]),aO 3 (.alc [.nil,zI]),sT 2 3 19])
 (.seq (.reg [0,171,1,2,3] [
 aO 20 (.bsl 1 3 [zI] 8 [(0,(kI 0)),(1,(kI 0)),(2,(kI 1)),(3,(kI 0)),(4,(kI 0)),(5,(kI 0)),(6,(kI 0)),(7,(kI 0))]),fA 21 0 2,sT 1 21 20])
 (.seq (.reg [0,171,1,2,3] [
 uE 22 5 1,uE 23 4 2,aO 24 (.cal 9 [(.t 22),(.t 23)]),aO 4 (.alc [.nil,zI]),sT 2 4 24])
 (.seq (.reg [0,171,1,2,3,4] [
 uE 25 5 1,fA 26 0 4,lF 27 1 26,aO 28 (.cal 18 [(.t 25),(.t 27)]),aO 5 (.alc [.nil,.nil,.nil,.nil,zI,zI]),sT 6 5 28])
 (.seq (.seq (.rgs [
 ([0,171,1,2,3,4,5],[
 fA 29 1 3,lF 30 1 29,aO 31 (.cmp .neq .i64 (.t 30) (kI 0)),mT 32 31,uA 33 32 (.fa 0 (.t 3)),uA 34 32 (.ld false 1 (.t 33)),uA 35 32 (.bsl 1 59 [.sc (.int .u64 0)] 1 [(0,(.c (.sc (.int .u64 0))))]),uA 36 32 (.bld [.nil] [(0,1,(.t 35))]),uA 37 32 (.bld [.nil] []),uA 38 32 (.bsl 1 65 [.nil] 2 [(0,(.t 36)),(1,(.t 37))]),uA 39 32 (.cal 11 [(.t 34),(.t 38)]),uA 40 32 (.not (.t 39))]),([0,171,1,2,3,4,5,32,40],[
 aO 41 (uG 32 40),mT 42 41,uA 43 42 (.fa 1 (.t 4)),uA 44 42 (.ld false 1 (.t 43)),uA 45 42 (.cmp .neq .i64 (.t 44) (kI 0)),aO 46 (uG 42 45),mT 47 46,uA 48 47 (.fa 0 (.t 4)),uA 49 47 (.ld false 1 (.t 48)),uA 50 47 (.bsl 1 59 [.sc (.int .u64 0)] 1 [(0,(.c (.sc (.int .u64 15))))]),uA 51 47 (.bld [.nil] [(0,1,(.t 50))]),uA 52 47 (.bld [.nil] [])]),([0,171,1,2,3,4,5,47,49,51,52],[
 uA 53 47 (.bsl 1 65 [.nil] 2 [(0,(.t 51)),(1,(.t 52))]),uA 54 47 (.cal 11 [(.t 49),(.t 53)]),uA 55 47 (.not (.t 54)),aO 56 (uG 47 55),mT 57 56,uA 58 57 (.fa 5 (.t 5)),uA 59 57 (.ld false 1 (.t 58)),uA 60 57 (.cmp .neq .i64 (.t 59) (kI 0)),aO 61 (uG 57 60),mT 62 61,uA 63 62 (.fa 4 (.t 5)),uA 64 62 (.ld false 1 (.t 63))]),([0,171,1,2,3,4,5,62,64],[
 uA 65 62 (.cmp .neq .i64 (.t 64) (kI 0)),aO 66 (uG 62 65),mT 67 66,uA 68 67 (.fa 0 (.t 5)),uA 69 67 (.ld true 4 (.t 68)),uA 70 67 (.ld true 4 (.t 2)),uA 71 67 (.cal 24 [(.t 69),(.t 70)]),uA 72 67 (.not (.t 71)),aO 73 (uG 67 72),mT 74 73,uA 75 74 (.ld true 5 (.t 1)),uA 76 74 (.cal 13 [(.t 75)])]),([0,171,1,3,4,74,76],[
 uA 77 74 (.bsl 1 3 [zI] 2 [(0,(kI 1)),(1,(kI 0))]),uA 78 74 (.cal 12 [(.t 76),(.t 77)]),uA 79 74 (.not (.t 78)),aO 80 (uG 74 79)])])
 (.cut [0,171,1,3,4,80] (.cond (.t 80)
 (.seq (.reg [0,171] [
 aO 0 (.mv bF)])
 .ret)
 .skip)))
 (.seq (.reg [0,171,1,3,4] [
 fA 81 0 4,lF 82 1 81,aO 83 (.bld [zI,zI,zI] [(2,1,(kI 63))]),aO 84 (.cal 22 [(.t 82),(.t 83)]),aO 6 (.alc [.nil,zI]),sT 2 6 84])
 (.seq (.reg [0,171,1,3,4,6] [
 fA 85 0 6,lF 86 1 85,aO 87 (.cal 20 [(.t 86)]),aO 7 (.alc [.nil,zI,.nil]),sT 3 7 87])
 (.seq (.reg [0,171,1,3,4,6,7] [
 uE 88 5 1,fA 89 0 6,lF 90 1 89,aO 91 (.cal 18 [(.t 88),(.t 90)]),aO 8 (.alc [.nil,.nil,.nil,.nil,zI,zI]),sT 6 8 91])
 (.seq (.reg [0,171,1,3,4,6,7,8] [
 uE 92 5 1,aO 93 (.bld [.nil,.nil,.nil,.nil] []),aO 94 (.cal 9 [(.t 92),(.t 93)]),aO 9 (.alc [.nil,zI]),sT 2 9 94])
 (.seq (.drw [0,171,1,3,4,6,7,8,9] [
 eF 95 (.fa 1 (.t 6)),eF 96 (.ld false 1 (.t 95)),eF 97 (.cmp .eql .i64 (.t 96) (kI 0)),eF 98 (.mv (.t 97)),⟨uB 99 98 (.fa 5 (.t 8)),[],[],false⟩,⟨uB 100 98 (.ld false 1 (.t 99)),[],[],false⟩,⟨uB 101 98 (.cmp .eql .i64 (.t 100) (kI 0)),[],[],false⟩,eF 102 (pF 98 101),eF 103 (.mv (.t 102)),⟨uB 104 103 (.fa 4 (.t 8)),[],[],false⟩,⟨uB 105 103 (.ld false 1 (.t 104)),[],[],false⟩,⟨uB 106 103 (.cmp .eql .i64 (.t 105) (kI 1)),[],[],false⟩,eF 107 (pF 103 106),eF 108 (.mv (.t 107)),⟨uB 109 108 (.fa 1 (.t 7)),[],[],false⟩,⟨uB 110 108 (.ld false 1 (.t 109)),[],[],false⟩,⟨uB 111 108 (.cmp .eql .i64 (.t 110) (kI 1)),[],[],false⟩,eF 112 (pF 108 111),eF 113 (.mv (.t 112)),⟨uB 114 113 (.fa 2 (.t 7)),[],[],false⟩,⟨uB 115 113 (.ld false 1 (.t 114)),[],[],false⟩,⟨uB 116 113 (.len (.t 115)),[],[],false⟩,⟨uB 117 113 (.cmp .eql .i64 (.t 116) (kI 0)),[],[],false⟩,eF 118 (pF 113 117),eF 119 (.mv (.t 118)),uD 120 119 (.fa 0 (.t 7)),uD 121 119 (.ld false 1 (.t 120)),uD 122 119 (.fa 0 (.t 4)),uD 123 119 (.ld false 1 (.t 122)),⟨uB 124 119 (.cal 11 [(.t 121),(.t 123)]),[],[],false⟩,eF 125 (pF 119 124),eF 126 (.mv (.t 125)),⟨uB 127 126 (.fa 1 (.t 9)),[],[],false⟩,⟨uB 128 126 (.ld false 1 (.t 127)),[],[],false⟩,⟨uB 129 126 (.cmp .eql .i64 (.t 128) (kI 310)),[],[],false⟩,eF 130 (pF 126 129),eF 131 (.mv (.t 130)),uD 132 131 (.ld true 5 (.t 1)),uD 133 131 (.fa 0 (.t 4)),uD 134 131 (.ld false 1 (.t 133)),uD 135 131 (.slc 1 (.t 134) none (some (kI 1))),⟨uB 136 131 (.cal 18 [(.t 132),(.t 135)]),[],[],false⟩,⟨uB 137 131 (.fl false 5 1 (.t 136)),[],[],false⟩,⟨uB 138 131 (.cmp .eql .i64 (.t 137) (kI 380)),[],[],false⟩,eF 139 (pF 131 138),eF 140 (.mv (.t 139)),uD 141 140 (.fa 0 (.t 4)),uD 142 140 (.ld false 1 (.t 141)),uD 143 140 (.bld [zI,zI,zI] [(0,1,(kI 1))]),⟨uB 144 140 (.cal 22 [(.t 142),(.t 143)]),[],[],false⟩,⟨uB 145 140 (.fl false 1 1 (.t 144)),[],[],false⟩,⟨uB 146 140 (.cmp .eql .i64 (.t 145) (kI 1)),[],[],false⟩,eF 147 (pF 140 146),eF 148 (.mv (.t 147)),⟨uB 149 148 (.ld true 5 (.t 1)),[],[],false⟩,⟨uB 150 148 (.cal 15 [(.t 149),(kI 8)]),[],[],false⟩,⟨uB 151 148 (.cmp .eql .i64 (.t 150) (kI (-1))),[],[],false⟩,eF 152 (pF 148 151),eF 153 (.mv (.t 152)),⟨uB 154 153 (.fa 0 (.t 3)),[],[159],true⟩,⟨uB 155 153 (.ld false 1 (.t 154)),[],[159],true⟩,⟨uB 156 153 (.fa 0 (.t 4)),[],[159],true⟩,⟨uB 157 153 (.ld false 1 (.t 156)),[],[159],true⟩,⟨uB 158 153 (.cal 27 [(.t 155),(.t 157)]),[],[159],true⟩,⟨uB 159 153 (.bsl 1 3 [zI] 1 [(0,(kI 0))]),[159],[],true⟩,⟨uB 160 153 (.cal 12 [(.t 158),(.t 159)]),[],[],false⟩,eF 161 (pF 153 160),eF 162 (.mv (.t 161)),uD 163 162 (.fa 0 (.t 3)),uD 164 162 (.ld false 1 (.t 163)),uD 165 162 (.cal 25 [(.t 164)]),uD 166 162 (.fa 0 (.t 4)),uD 167 162 (.ld false 1 (.t 166)),⟨uB 168 162 (.cal 25 [(.t 167)]),[],[],false⟩,⟨uB 169 162 (.cmp .neq .u64 (.t 165) (.t 168)),[],[],false⟩,eF 170 (pF 162 169),eF 0 (.mv (.t 170))])
 .ret)))))))))))))
def rv4:List RV:=[.tmp 0]
theorem ok4:fnOk Tryz.prog ac4 rv4 Tryz.f4=true:=by kernel_rfl
end Go.Proofs.YtecoaapkcnhlhaaGreatDoor.Txt
namespace Go.Proofs.YtecoaapkcnhlhaaGreatDoor
open Go Go.Vc Go.Ham Txt
theorem frm2(w:Nat)(h:w<2^64):FrmSm [[w],[]]:=by
 refine⟨fun ws hws v hv=> ?_,by simp,fun ws hws=> ?_⟩
 ·rcases List.mem_cons.1 hws with rfl|hws
  ·obtain rfl:v=w:=by simpa using hv
   exact h
  ·obtain rfl:ws=[]:=by simpa using hws
   cases hv
 ·rcases List.mem_cons.1 hws with rfl|hws
  ·simp
  ·obtain rfl:ws=[]:=by simpa using hws
   simp
theorem smE(c:Cfg)(h:c.sel.length<=10/\c.mode.length<=10/\c.tab.length<=10/\c.ram.length<=10):CfgSm c:=⟨oM,oM,oM,oM⟩
theorem frm1(w:Nat)(h:w<2^64):FrmSm [[w]]:=by
 refine⟨fun ws hws v hv=> ?_,by simp,fun ws hws=> ?_⟩
 ·obtain rfl:ws=[w]:=by simpa using hws
  obtain rfl:v=w:=by simpa using hv
  exact h
 ·obtain rfl:ws=[w]:=by simpa using hws
  simp
theorem qJ8(q:Bool)(l:List (List Nat)):Sub (.sl q 1 (rows (frmC q) l)) (.sl false 1 (rows (frmC false) l)):=by
 unfold rows
 exact qG3 _ _ (fun h=>by cases h) (fun _ _=>rfl) fun ws _=>⟨.slp _ _ _ _ (fun h=>by cases h),trivial⟩
theorem qJ9{p:Bool}{a b c d:PV}(h1:Sub a c)(h2:Sub b d):Sub (.sl p 1 [[a],[b]]) (.sl false 1 [[c],[d]]):=by
 refine .sl _ _ _ _ _ (fun h=>by cases h) rfl (fun i x y hx hy=> ?_) fun i x y j u v hx hy hu hv=> ?_
 ·match i,hx,hy with
  |0,hx,hy=>simp at hx hy;subst hx;subst hy;rfl
  |1,hx,hy=>simp at hx hy;subst hx;subst hy;rfl
  |i+2,hx,hy=>simp at hx
 ·match i,hx,hy with
  |0,hx,hy=>
    simp at hx hy;subst hx;subst hy
    match j,hu,hv with
    |0,hu,hv=>simp at hu hv;subst hu;subst hv;exact h1
    |j+1,hu,hv=>simp at hu
  |1,hx,hy=>
    simp at hx hy;subst hx;subst hy
    match j,hu,hv with
    |0,hu,hv=>simp at hu hv;subst hu;subst hv;exact h2
    |j+1,hu,hv=>simp at hu
  |i+2,hx,hy=>simp at hx
def qJa:List DO:=[⟨⟨some 160,some (153,true),.cal 12 [(.t 158),(.t 159)]⟩,[],[],false⟩,
 ⟨⟨some 161,none,.pick (.t 153) (.t 160) (.c (.sc (.bool false)))⟩,[],[],false⟩,
 ⟨⟨some 162,none,.mv (.t 161)⟩,[],[],false⟩,
 ⟨⟨some 163,some (162,true),.fa 0 (.t 3)⟩,[],[],true⟩,
 ⟨⟨some 164,some (162,true),.ld false 1 (.t 163)⟩,[],[],true⟩,
 ⟨⟨some 165,some (162,true),.cal 25 [(.t 164)]⟩,[],[],true⟩,
 ⟨⟨some 166,some (162,true),.fa 0 (.t 4)⟩,[],[],true⟩,
 ⟨⟨some 167,some (162,true),.ld false 1 (.t 166)⟩,[],[],true⟩,
 ⟨⟨some 168,some (162,true),.cal 25 [(.t 167)]⟩,[],[],false⟩,
 ⟨⟨some 169,some (162,true),.cmp .neq .u64 (.t 165) (.t 168)⟩,[],[],false⟩,
 ⟨⟨some 170,none,.pick (.t 162) (.t 169) (.c (.sc (.bool false)))⟩,[],[],false⟩,
 ⟨⟨some 0,none,.mv (.t 170)⟩,[],[],false⟩]
def qJb:List DO:=⟨⟨some 159,some (153,true),.bsl 1 3 [.sc (.int .i64 0)] 1 [(0,(.c (.sc (.int .i64 0))))]⟩,[159],[],true⟩::qJa
def qJc:List DO:=⟨⟨some 158,some (153,true),.cal 27 [(.t 155),(.t 157)]⟩,[],[159],true⟩::qJb
def qJd:List DO:=⟨⟨some 157,some (153,true),.ld false 1 (.t 156)⟩,[],[159],true⟩::qJc
def qJe:List DO:=⟨⟨some 156,some (153,true),.fa 0 (.t 4)⟩,[],[159],true⟩::qJd
def qJf:List DO:=⟨⟨some 155,some (153,true),.ld false 1 (.t 154)⟩,[],[159],true⟩::qJe
set_option maxRecDepth 8000 in
set_option maxHeartbeats 1000000 in
theorem qJg:FnEq Tryz.prog 4 [] (.bool true):=by
 have h1:=qIT gE qJ4 cE0 (smE _ (by decide))
 have h2:=qIT gE qJ4 cE1 (smE _ (by decide))
 have h3:=qIT gE qJ4 cfg0 (smE _ (by decide))
 obtain⟨d1,d2⟩:=qJ1 qJ4 vE1
 obtain⟨n1,n2,n3,n4⟩:=qJ2 qJ4 vE1 (m:=[[9223372036854775823],[]]) (by rw[eE1];exact qJ7)
 unfold encL encE at h1 h2 h3
 rw[if_pos vE0,if_pos vE0,eE0]at h1
 rw[if_pos vE1,if_pos vE1,eE1]at h2
 rw[if_neg vEn,if_neg vEn]at h3
 rw[eE1]at d1 d2 n3
 have f15:=frm2 15 (by decide)
 have f0:=frm2 0 (by decide)
 have fb:=frm2 9223372036854775823 (by decide)
 have h4:=qIY gE qJ4 [[15],[]] f15 d1
 rw[d2,show cntF [[15],[]]=0 from by decide+kernel]at h4
 have h5:=qGC [[0],[]] [[0],[]] f0 f0
 have h6:=qGC [[15],[]] [[15],[]] f15 f15
 have h7:=qyG cE1 cE1 (smE _ (by decide)) (smE _ (by decide))
 have h8:=qEa gE qJ4
 rw[szE]at h8
 have h9:=qGv [1,0] [1,0] (by decide) (by decide)
 have h10:=qIU [[15],[]] f15 ⟨0,0,63⟩
 rw[show fldF [[15],[]] ⟨0,0,63⟩=[[9223372036854775823],[]]from by decide,show fldE [[15],[]] ⟨0,0,63⟩=0 from by decide]at h10
 have h11:=qIW [[9223372036854775823],[]] fb
 rw[n3,show cntF [[9223372036854775823],[]]=1 from by decide+kernel,qJ3 n4]at h11
 have h12:=qIY gE qJ4 [[9223372036854775823],[]] fb n1
 rw[n2,show cntF [[9223372036854775823],[]]=1 from by decide+kernel]at h12
 have h13:=qIZ gE qJ4 [[15]] (frm1 15 (by decide)) (fun h=>by have:=h.size;rw[szE]at this;revert this;decide)
 have h14:=qIU [[15],[]] f15 ⟨1,0,0⟩
 rw[show fldF [[15],[]] ⟨1,0,0⟩=[]from by decide,show fldE [[15],[]] ⟨1,0,0⟩=1 from by decide]at h14
 have h15:=qF3 gE qJ4 8 (by decide)
 rw[show colF gE 8= -1 from by decide]at h15
 have h16:=qGH [[0],[]] [[15],[]] f0 f15
 rw[dfE]at h16
 have h17:=qGv [0] [0] (by decide) (by decide)
 have h18:=qF2 [[0],[]] f0
 have h19:=qF2 [[15],[]] f15
 have hdg:=dgE
 generalize digF [[0],[]]=D0 at *
 generalize digF [[15],[]]=D1 at *
 refine FnEq.of_awp Tryz.func4 ok4 (by show 0<=_;decide) sC ?_
 simp only[ac4,rv4,push_cast,reduceIte,zA,zB,zC,zD,zE,zF,zG,reduceCtorEq,zH,zJ,cNI]
 repeat (refine And.intro (by decide) ?_)
 refine qrv h1 (by exact⟨.refl _,.refl _,trivial⟩) ?_
 refine sB ?_
 repeat (refine And.intro (by decide) ?_)
 refine qrv h2 (by exact⟨.refl _,.refl _,trivial⟩) ?_
 refine sB ?_
 repeat (refine And.intro (by decide) ?_)
 refine qrv h4 (by exact⟨.refl _,qJ8 true _,trivial⟩) ?_
 refine sB ?_
 repeat (refine And.intro (by decide) ?_)
 refine qrA rfl (fun e=>absurd e (by decide)) fun _=> ?_
 refine sB ?_
 repeat (refine And.intro (by decide) ?_)
 refine qrv h5 (by exact⟨qJ8 true _,qJ9 (.slp _ _ _ _ (fun h=>by cases h)) (.nil _ _),trivial⟩) ?_
 refine sB ?_
 repeat (refine And.intro (by decide) ?_)
 refine qrA rfl (fun e=>absurd e (by decide)) fun _=> ?_
 refine sB ?_
 repeat (refine And.intro (by decide) ?_)
 refine qrv h6 (by exact⟨qJ8 true _,qJ9 (.slp _ _ _ _ (fun h=>by cases h)) (.nil _ _),trivial⟩) ?_
 refine sB ?_
 repeat (refine And.intro (by decide) ?_)
 refine qrA rfl (fun e=>absurd e (by decide)) fun _=> ?_
 refine sB ?_
 repeat (refine And.intro (by decide) ?_)
 refine qrA rfl (fun e=>absurd e (by decide)) fun _=> ?_
 refine sB ?_
 repeat (refine And.intro (by decide) ?_)
 refine qrv h7 (by exact⟨Sub.aggL ⟨.slp _ _ _ _ (fun h=>by cases h),.slp _ _ _ _ (fun h=>by cases h),.slp _ _ _ _ (fun h=>by cases h),.slp _ _ _ _ (fun h=>by cases h),trivial⟩,.refl _,trivial⟩) ?_
 refine sB ?_
 repeat (refine And.intro (by decide) ?_)
 refine qrv h8 (by exact⟨.refl _,trivial⟩) ?_
 refine sB ?_
 repeat (refine And.intro (by decide) ?_)
 refine qrv h9 (by exact⟨.slp _ _ _ _ (fun h=>by cases h),.slp _ _ _ _ (fun h=>by cases h),trivial⟩) ?_
 refine sB ?_
 repeat (refine And.intro (by decide) ?_)
 refine qrv h10 (by exact⟨qJ8 true _,.refl _,trivial⟩) ?_
 refine sB ?_
 repeat (refine And.intro (by decide) ?_)
 refine qrv h11 (by exact⟨qJ8 true _,trivial⟩) ?_
 refine sB ?_
 repeat (refine And.intro (by decide) ?_)
 refine qrv h12 (by exact⟨.refl _,qJ8 true _,trivial⟩) ?_
 refine sB ?_
 repeat (refine And.intro (by decide) ?_)
 refine qrv h3 (by exact⟨.refl _,Sub.aggL ⟨.nil _ _,.nil _ _,.nil _ _,.nil _ _,trivial⟩,trivial⟩) ?_
 refine sB ?_
 repeat (refine And.intro (by decide) ?_)
 refine qrv h6 (by exact⟨qJ8 true _,qJ8 true _,trivial⟩) ?_
 refine sB ?_
 repeat (refine And.intro (by decide) ?_)
 refine qrv h13 (by exact⟨.refl _,qJ8 true [[15]],trivial⟩) ?_
 refine sB ?_
 repeat (refine And.intro (by decide) ?_)
 refine qrv h14 (by exact⟨qJ8 true _,.refl _,trivial⟩) ?_
 refine sB ?_
 repeat (refine And.intro (by decide) ?_)
 refine qrv h15 (by exact⟨.refl _,.refl _,trivial⟩) ?_
 generalize hKK:(fun st' :St=>dsK _ _ (st'.put (some 153) (st'.get 152)) _)=KK
 refine sB ?_
 subst hKK
 show dsK _ (⟨⟨some 154,some (153,true),.fa 0 (.t 3)⟩,[],[159],true⟩::qJf) _ _
 refine sB ?_
 rw[qJf]
 refine sB ?_
 rw[qJe]
 refine sB ?_
 rw[qJd]
 refine sB ?_
 rw[qJc]
 refine sB ?_
 refine qrx h16 (by exact⟨qJ8 true _,qJ8 true _,trivial⟩) rfl ?_
 rw[qJb]
 refine sB ?_
 repeat (refine And.intro (by decide) ?_)
 rw[qJa]
 refine sB ?_
 refine qrv h17 (by exact⟨.slp _ _ _ _ (fun h=>by cases h),.refl _,trivial⟩) ?_
 refine sB ?_
 refine qrx h18 (by exact⟨qJ8 true _,trivial⟩) rfl ?_
 refine sB ?_
 first|refine qrx h19 (by exact⟨qJ8 true _,trivial⟩) rfl ?_|refine qrv h19 (by exact⟨qJ8 true _,trivial⟩) ?_
 refine sB ?_
 exact congrArg Value.bool (decide_eq_true (fun e:(D0:Int)=D1=>hdg (Int.ofNat.inj e)))
end Go.Proofs.YtecoaapkcnhlhaaGreatDoor
namespace Go.Proofs.YtecoaapkcnhlhaaGreatDoor
open Go Go.Vc Go.Ham Txt
theorem qJh{g:Grid}(hg:GOk g){c:Cfg}(h:qys g c):CfgSm c:=by
 have hw:=hg.wh
 have hk:=hg.kind
 have hc0:=hg.count
 obtain⟨h1,h2,h3,h4⟩:=h
 exact⟨oM,oM,oM,oM⟩
set_option maxHeartbeats 1000000 in
theorem qJi(g:Grid)(hg:GOk g)(c:Cfg)(h: ¬qys g c):FnEq Tryz.prog 57 [.agg (quX false g),.agg (cfgC false c)] (.int 310):=by
 have hc:=hg.count
 refine FnEq.of_awp Tryz.func57 ok57 (by show 2<=_;decide) (by simp only[push_cast,reduceIte,zA,zB,zC,zD,zE,zF,zG,reduceCtorEq,zH,zJ,cNI]<;>first|exact fun _ _=>trivial|simp) ?_
 simp only[ac57,rv57,push_cast,reduceIte,zA,zB,zC,zD,zE,zF,zG,reduceCtorEq,zH,zJ,cNI]
 refine qrx (qv5 g hg) sC rfl ?_
 refine sB ?_
 refine qrI ⟨[(2,.ptr 2 0),(3,.ptr 3 0),(39,.bool true)],[(2,quX false g),(3,cfgC false c)],[],[]⟩ ?_ ?_
 ·unfold qys at h
  repeat' (first
   |(refine qrE rfl (fun _=> ?_) fun _=> ?_<;>simp only[push_cast,reduceIte,zA,zB,zC,zD,zE,zF,zG,reduceCtorEq,zH,zJ,cNI])
   |(refine qrD rfl (fun _=> ?_) fun _=> ?_<;>simp only[push_cast,reduceIte,zA,zB,zC,zD,zE,zF,zG,reduceCtorEq,zH,zJ,cNI]))
  all_goals (rw[decide_eq_true oM])
 ·exact sC
theorem qJk(g:Grid)(hg:GOk g)(c:Cfg)(h: ¬qys g c):FnEq Tryz.prog 32 [.agg (quX false g),.agg (cfgC false c)] (.tup [.nil,.int 310]):=by
 have hv:=qJi g hg c h
 refine FnEq.of_awp Tryz.func32 ok32 (by show 2<=_;decide) (by simp only[push_cast,reduceIte,zA,zB,zC,zD,zE,zF,zG,reduceCtorEq,zH,zJ,cNI]<;>first|exact fun _ _=>trivial|simp) ?_
 simp only[ac32,rv32,push_cast,reduceIte,zA,zB,zC,zD,zE,zF,zG,reduceCtorEq,zH,zJ,cNI]
 refine qrv hv (by exact⟨.refl _,.refl _,trivial⟩) ?_
 simp only[qFA,push_cast,reduceIte,zA,zB,zC,zD,zE,zF,zG,reduceCtorEq,zH,zJ,cNI]
 exact qnY (fun _=>trivial) fun h=>absurd (by decide) h
theorem qJl(g:Grid)(hg:GOk g)(c:Cfg):FnEq Tryz.prog 9 [.agg (quX false g),.agg (cfgC false c)] (.agg (fmdC true (encL g c) (encE g c))):=by
 by_cases h:qys g c
 ·exact qIT g hg c (qJh hg h)
 ·have hn:validE g c≠0:=by rw[qyw h];decide
  unfold encL encE
  rw[if_neg hn,if_neg hn]
  have he:=qJk g hg c h
  refine FnEq.of_awp Tryz.func9 ok9 (by show 2<=_;decide) (by simp only[push_cast,reduceIte,zA,zB,zC,zD,zE,zF,zG,reduceCtorEq,zH,zJ,cNI];simp) ?_
  simp only[ac9,rv9,push_cast,reduceIte,zA,zB,zC,zD,zE,zF,zG,reduceCtorEq,zH,zJ,cNI]
  refine qrv he sC ?_
  simp only[rows,List.map_nil,push_cast,reduceIte,zA,zB,zC,zD,zE,zF,zG,reduceCtorEq,zH,zJ,cNI]
def k3C(x:Int×Int×Int):List PV:=[.sc (.int .u8 x.1),.sc (.int .u8 x.2.1),.sc (.int .u8 x.2.2)]
@[push_cast] theorem qJm(x:Int×Int×Int):k3C x=[.sc (.int .u8 x.1),.sc (.int .u8 x.2.1),.sc (.int .u8 x.2.2)]:=rfl
structure Odd38 where
 L:List (List Nat)
 c:Cfg
 f:FlipA
 n:Int
 K:List (Int×Int×Int)
def qJn(q:Bool)(z:Odd38):List PV:=[.sl q 1 (rows (frmC q) z.L),.sl q 1 (ints z.c.sel),.sl q 1 (ints z.c.mode),.sl q 1 (ints z.c.tab),.sl q 1 (ints z.c.ram),.int z.f.x,.int z.f.k,.int z.f.b,.int z.n,.sl q 3 (rows k3C z.K)]
@[push_cast] theorem qJo(q:Bool)(z:Odd38):qJn q z=[.sl q 1 (rows (frmC q) z.L),.sl q 1 (ints z.c.sel),.sl q 1 (ints z.c.mode),.sl q 1 (ints z.c.tab),.sl q 1 (ints z.c.ram),.int z.f.x,.int z.f.k,.int z.f.b,.int z.n,.sl q 3 (rows k3C z.K)]:=rfl
end Go.Proofs.YtecoaapkcnhlhaaGreatDoor
namespace Go.Proofs.YtecoaapkcnhlhaaGreatDoor
open Go Go.Vc Txt
theorem qJq{g:Grid}{c:Cfg}(hl:CfgLn g c){t0:Nat}{b:Int}(hb:0<=b/\b<=255)(h: ∀t,t<g.kind.length->qyu g c t): ∀t,t<g.kind.length->qyu g (qyT g c t0 b) t:=by
 obtain⟨l1,l2,l3,l4⟩:=hl
 intro t ht
 have h0:=h t ht
 unfold qyT
 split
 ·exact h0
 ·rename_i hk
  split
  ·unfold qyu
   simp only[qz2]
   by_cases e:t0=t
   ·subst e
    rw[if_pos ⟨rfl,oM⟩,if_pos ⟨rfl,oM⟩,if_pos ⟨rfl,oM⟩]
    refine⟨oM,?_,by simp;omega,by simp⟩
    unfold qwY
    rw[if_neg hk]
    split<;>simp
   ·rw[if_neg (fun q=>e q.1),if_neg (fun q=>e q.1),if_neg (fun q=>e q.1)]
    exact h0
  ·split
   ·unfold qyu
    simp only[qz2]
    by_cases e:t0=t
    ·subst e
     rw[if_pos ⟨rfl,oM⟩,if_pos ⟨rfl,oM⟩,if_pos ⟨rfl,oM⟩]
     refine⟨oM,?_,by simp;omega,by simp;omega⟩
     unfold qwY
     rw[if_neg hk]
     split<;>simp
    ·rw[if_neg (fun q=>e q.1),if_neg (fun q=>e q.1),if_neg (fun q=>e q.1)]
     exact h0
   ·exact h0
theorem qJr{g:Grid}{l:List Int}(hb: ∀x∈l,0<=x/\x<=255): ∀j t,t<g.kind.length->qyu g (qyV g l j) t
 | 0, t, ht => by
   have e: ∀n i,(List.replicate n (0:Int)).getD i 0=0:=fun n i=>by
    rw[zK,List.getElem?_replicate]
    split<;>rfl
   unfold qyu
   simp only[qyV,qxc,e]
   refine⟨oM,?_,by simp,by simp⟩
   unfold qwY
   split
   ·simp
   ·split<;>simp
 | j + 1, t, ht => by
   have hx: ∀i,0<=l.getD i 0/\l.getD i 0<=255:=fun i=>by
    by_cases h:i<l.length
    ·exact hb _ (qyF h)
    ·rw[zK,List.getElem?_eq_none oM];decide
   have hs: ∀t,t<g.kind.length->qyu g (selW g (qyV g l j) ((7*((2*j:Nat):Int)+l.getD (2*j) 0)%((qyV g l j).sel.length:Int)) (l.getD (2*j+1) 0)) t:=fun t ht=>by
    have:=qJr hb j t ht
    unfold selW
    split
    ·exact this
    ·exact this
   exact qJq (qyX (qz0 g l j)) (hx _) hs t ht
theorem qJs{g:Grid}(hg:GOk g){l:List Int}(hb: ∀x∈l,0<=x/\x<=255):validE g (qyW g l)=0:=
 qyv (qz0 g l _) (qz6 hg l).sel (qJr hb _)
end Go.Proofs.YtecoaapkcnhlhaaGreatDoor
namespace Go.Proofs.YtecoaapkcnhlhaaGreatDoor
open Go Go.Vc Go.Ham Txt
theorem qJt(x:RawG)(c:Cfg):FrmSm (qDu (qyP x) c):=by
 have hg:=(qyR x).1
 have hn:=hg.n
 have hw:wN (qyP x)<=5:=by unfold wN qyP;simp only;omega
 have hh:hN (qyP x)<=5:=by unfold hN qyP;simp only;omega
 have he:eN (qyP x)<=14:=by unfold eN qv1 qyP;simp only;omega
 refine⟨qDI _ c,by rw[qDu,yG,List.length_range];omega,fun ws hws=> ?_⟩
 obtain⟨y,hy,rfl⟩:=List.mem_map.1 hws
 rw[qDF]
 have h1:hN (qyP x)*(eN (qyP x)+3)<=5*17:=Nat.mul_le_mul hh oM
 have h2:wN (qyP x)*(hN (qyP x)*(eN (qyP x)+3))<=5*(5*17):=Nat.mul_le_mul hw h1
 have h3:(qCn (qyP x)).length<=473:=by
  rw[qCn,zU,qDU,qCm,qDS]
  have:=hn.ce
  have hp:(2*(qyP x).pads).toNat=48:=rfl
  omega
 have h4:=qDR (m:=64) y (qCn (qyP x)) fun f hf=>qGa (qD5 hg hf)
 unfold nW
 omega
theorem qJu(g:Grid)(c:Cfg):(qDu g c).length=wN g+1:=by simp[qDu]
end Go.Proofs.YtecoaapkcnhlhaaGreatDoor
namespace Go.Proofs.YtecoaapkcnhlhaaGreatDoor
open Go Go.Vc Go.Ham Txt
theorem spot_mem{l:List (List Nat)}{p:Nat×Nat} :p∈qGL l ↔ p.1<l.length/\p.2<(l.getD p.1 []).length:=by
 unfold qGL qGK
 rw[List.mem_flatMap]
 constructor
 ·rintro⟨i,hi,hp⟩
  have hi:=List.mem_range.1 hi
  unfold qGJ at hp
  obtain⟨k,hk,rfl⟩:=List.mem_map.1 hp
  exact⟨hi,List.mem_range.1 hk⟩
 ·rintro⟨h1,h2⟩
  refine⟨p.1,List.mem_range.2 h1,?_⟩
  unfold qGJ
  exact List.mem_map.2 ⟨p.2,List.mem_range.2 h2,rfl⟩
theorem qJv(l:List (List Nat)):(qGL l).Nodup:=by
 unfold qGL
 have key: ∀n,(qGK l n).Nodup/\ ∀p∈qGK l n,p.1<n:=by
  intro n
  induction n with
  |zero=>exact⟨by simp[qGK],by simp[qGK]⟩
  |succ n ih=>
    rw[qGM]
    have h2: ∀p∈qGJ l n,p.1=n:=by
     intro p hp
     unfold qGJ at hp
     obtain⟨k,_,rfl⟩:=List.mem_map.1 hp
     rfl
    refine⟨List.nodup_append.2 ⟨ih.1,?_,fun a ha b hb e=> ?_⟩,fun p hp=> ?_⟩
    ·unfold qGJ
     exact List.Pairwise.map _ (fun a b h e=>h (Prod.mk.inj e).2) List.nodup_range
    ·have h3:=ih.2 a ha
     have h4:=h2 b hb
     rw[e]at h3;omega
    ·rcases yC.1 hp with h|h
     ·have:=ih.2 p h;omega
     ·have:=h2 p h;omega
 exact(key _).1
theorem Near.sm{F m:List (List Nat)}(h:Near F m)(hF:FrmSm F):FrmSm m:=by
 have hl:m.length=F.length:=by have:=congrArg List.length h.size;simpa using this
 refine⟨fun ws hws w hw=> ?_,by have:=hF.n;omega,fun ws hws=> ?_⟩
 ·obtain⟨x,k,hi,rfl⟩:=qHn hws hw
  have hiF:inW F x k:=(qHm h.size x k).1 hi
  obtain⟨ws',hw',hm'⟩:=qHo hiF
  have hb:=hF.ok ws' hw' _ hm'
  rcases h.at' x k hiF with e|⟨b,hb2,e⟩
  ·rw[e];exact hb
  ·rw[e];exact Nat.xor_lt_two_pow hb (Nat.pow_lt_pow_right (by decide) hb2)
 ·obtain⟨x,hx,rfl⟩:=List.mem_iff_getElem.1 hws
  have e:=congrArg (fun l=>l[x]?) h.size
  simp only[zS,zL hx,zL (show x<F.length by omega),Option.map_some,Option.some.injEq]at e
  rw[e]
  exact hF.len _ (List.getElem_mem _)
structure CorSt (F m:List (List Nat)) (dn:List Bool) (n:Nat):Prop where
 near:Near F m
 cnt:cntF m=n
 len:dn.length=(qGL F).length
 no: ∀i,i<(qGL F).length->dn.getD i default=false->atW m ((qGL F).getD i default).1 ((qGL F).getD i default).2=atW F ((qGL F).getD i default).1 ((qGL F).getD i default).2
theorem qJw{F:List (List Nat)}{i:Nat}(h:i<(qGL F).length):inW F ((qGL F).getD i default).1 ((qGL F).getD i default).2:=by
 rw[zK,zL h]
 exact spot_mem.1 (List.getElem_mem h)
theorem CorSt.step {F m : List (List Nat)} {dn : List Bool} {n i b : Nat} (hc : ∀ ws ∈ F, ∀ w ∈ ws, chkW w = 0) (h : CorSt F m dn n) (hi : i < (qGL F).length) (hd : dn.getD i default = false) (hb : b < 64) :
  CorSt F (qHd m ((qGL F).getD i default).1 ((qGL F).getD i default).2 b) (dn.set i true) (n+1):=by
 have hin:=qJw hi
 have he:=h.no i hi hd
 have him:inW m ((qGL F).getD i default).1 ((qGL F).getD i default).2:=(qHm h.near.size _ _).2 hin
 obtain⟨ws,hw1,hw2⟩:=qHo hin
 have h0:=hc ws hw1 _ hw2
 refine⟨h.near.flip hin hb he,?_,by rw[yF,h.len],fun j hj hdj=> ?_⟩
 ·have hf:=qHs (b:=b) him
  rw[he,h0,(qAb h0 hb).1]at hf
  have hcn:=h.cnt
  simp only[show ¬(0=1)from by decide,if_false,if_true]at hf
  show qHp _=_
  have:qHp m=n:=hcn
  omega
 ·have hji:j≠i:=by
   rintro rfl
   rw[zK,List.getElem?_set_self (by rw[h.len];exact hi)]at hdj
   cases hdj
  have hdj2:dn.getD j default=false:=by
   rw[zK,List.getElem?_set_ne (Ne.symm hji),<- zK]at hdj
   exact hdj
  rw[qHg him,if_neg]
  ·exact h.no j hj hdj2
  ·rintro⟨e1,e2⟩
   have e:(qGL F).getD i default=(qGL F).getD j default:=Prod.ext e1 e2
   rw[zK,zK,zL hi,zL hj]at e
   exact hji ((List.getElem_inj (qJv F)).1 e).symm
end Go.Proofs.YtecoaapkcnhlhaaGreatDoor
namespace Go.Proofs.YtecoaapkcnhlhaaGreatDoor
open Go Go.Vc Go.Ham Txt
end Go.Proofs.YtecoaapkcnhlhaaGreatDoor
namespace Go.Proofs.YtecoaapkcnhlhaaGreatDoor
open Go Go.Vc Go.Ham Txt
theorem qJy {P : Program} {w : World} {g t e : Nat} {D : DataW Unit} (hg : P.globalNamed "math/bits.deBruijn64tab" = some g) (ht : (P.globals[g]?).map (·.type) = some t) (hu : P.underlying t = some (.array 64 e)) (he : P.underlying e = some (.int .u8)) (hc : P.cellsOf e = 1)
  (hn : D.handleName?.isNone = true) (hD : D = .agg (tzTab.map fun n => .lit (.int .u8 (n : Nat)))) (h : laidMetH P [("math/bits.deBruijn64tab", D)] w) : GL P w := by
 rw[MakeChecks.laidMetH_plain _ _ _ (by simp[hn])]at h
 obtain⟨ps,⟨g0,t0,cs0,f0,p0,q0,hg0,ht0,hv0,hd0,_,_⟩,_,_⟩:=h
 obtain rfl:=Option.some.inj (hg.symm.trans hg0)
 obtain rfl:=Option.some.inj (ht.symm.trans ht0)
 obtain⟨xs,m1,rfl,hx1,hlen,hn3,hel⟩:=DataW.trod_array hu hd0
 intro g' hg' j hj
 obtain rfl:=Option.some.inj (hg.symm.trans hg')
 have h0:=hel j hj
 rw[hc]at h0
 have hjx:j<xs.length:=by omega
 rw[zL hjx]at h0
 obtain⟨k,e1,e2,_⟩:=DataW.trod_int he h0
 simp only[Prod.mk.injEq]at hx1
 have hx:=hx1.1
 rw[hD]at hx
 injection hx with hx
 have h2:(xs.map (·.1))[j]? =some (.lit (.int .u8 k)):=by
  rw[zS,zL hjx,e2];rfl
 rw[<- hx]at h2
 have hjt:j<tzTab.length:=hj
 rw[zS,zL hjt]at h2
 have hk:k=(tzTab[j]:Nat):=by simpa using h2.symm
 rw[World.var?_cell hg hv0 j,zK,zL hjt]
 have h3:=congrArg (·[0]?) e1
 simp[List.getElem?_take,List.getElem?_drop]at h3
 rw[h3,hk]
 rfl
def qJB:List Ty:=[.sl 1 [.sl 1 [.i .u64]],.sl 1 [.i .i64],.sl 1 [.i .i64],.sl 1 [.i .i64],.sl 1 [.i .i64],.i .i64,.i .i64,.i .i64,.i .i64,.sl 3 [.i .u8,.i .u8,.i .u8]]
theorem qJD(x:RawG):Sub (.agg (qyN true x)) (.agg (qyN false x)):=Sub.aggL ⟨.refl _,.refl _,.refl _,.refl _,.slp _ _ _ _ (fun h=>by cases h),trivial⟩
theorem qJE(z:Odd38):Sub (.agg (qJn true z)) (.agg (qJn false z)):=
 Sub.aggL ⟨qJ8 true _,.slp _ _ _ _ (fun h=>by cases h),.slp _ _ _ _ (fun h=>by cases h),.slp _ _ _ _ (fun h=>by cases h),.slp _ _ _ _ (fun h=>by cases h),.refl _,.refl _,.refl _,.refl _,.slp _ _ _ _ (fun h=>by cases h),trivial⟩
end Go.Proofs.YtecoaapkcnhlhaaGreatDoor
namespace Go.Proofs.YtecoaapkcnhlhaaGreatDoor
open Go Go.Vc Go.Ham Txt
theorem qJI{α:Type}(l:List α)(k:Nat)(d:α)(h:k<l.length):l.getD k d=l[k]:=by
 rw[zK,zL h];rfl
structure Det (F T m:List (List Nat)) (x k:Nat):Prop where
 size:m.map List.length=F.map List.length
 bad:chkW (atW m x k)=2
 same:atW m x k=atW T x k
 rest: ∀x' k',inW F x' k' -> ¬(x=x' /\k=k')->atW T x' k' =atW F x' k' /\(atW m x' k' =atW F x' k' \/ ∃b,b<64/\atW m x' k' =atW F x' k' ^^^2^b)
end Go.Proofs.YtecoaapkcnhlhaaGreatDoor
namespace Go.Proofs.YtecoaapkcnhlhaaGreatDoor
open Go Go.Vc Go.Ham Txt
theorem FrmSm.flip{l:List (List Nat)}(h:FrmSm l){x k b:Nat}(hi:inW l x k)(hb:b<64):FrmSm (qHd l x k b):=(Near.flip (Near.refl l) hi hb rfl).sm h
end Go.Proofs.YtecoaapkcnhlhaaGreatDoor
namespace Go.Proofs.YtecoaapkcnhlhaaGreatDoor
open Go Go.Vc Go.Ham Txt
end Go.Proofs.YtecoaapkcnhlhaaGreatDoor
namespace Go.Proofs.YtecoaapkcnhlhaaGreatDoor.Txt
open Go Go.Vc
set_option maxRecDepth 100000
def ac49_1000:AC:=
 (.seq (.reg [1000,24,1000] [
 aO 1002 (.mv (.c (.nil)))])
 (.seq (.reg [1000,24,1000] [
 aO 1005 (.xo (.bsx 1 [.nil]) []),mT 1003 1005])
 (.seq (.seq (.reg [1000,24,1000,1003] [
 mK 1004 0])
 (.block 0
 (.lps [1000,24,1000,1003,1004]
 (.seq (.seq (.reg [1000,24,1000,1003,1004] [
 mT 1006 1004,mT 1007 1000,nT 1008 1007,lS 1009 1006 1008])
 (.cond (.t 1009)
 .skip
 (.exit 0)))
 (.seq (.block 1
 (.reg [1000,24,1000,1003,1004] [
 mT 1012 1003,aO 1013 (.bsl 1 59 [.sc (.int .u64 0)] 0 []),mT 1014 1000,mT 1015 1004,iX 1016 1 1014 1015,fA 1017 0 1016,lF 1018 1 1017,aO 1019 (.app 1 59 8 (.t 1013) (.t 1018)),aO 1020 (.bld [.nil] [(0,1,(.t 1019))]),aO 1021 (.xo (.bsx 1 [.nil]) [(.t 1020)]),aO 1022 (.xo (.apx 1 24) [(.t 1012),(.t 1021)]),mT 1003 1022]))
 (.reg [1000,24,1000,1003,1004] [
 mT 1010 1004,uF 1011 1010 1,mT 1004 1011]))))))
 (.seq (.reg [1000,24,1003] [
 mT 1023 1003,mT 1002 1023])
 .ret))))
def rv49_1000:List RV:=[.tmp 1002]
theorem ok49_1000:qh6 Tryz.prog 1000 ac49_1000 rv49_1000 Tryz.f49=true:=by kernel_rfl
end Go.Proofs.YtecoaapkcnhlhaaGreatDoor.Txt
namespace Go.Proofs.YtecoaapkcnhlhaaGreatDoor
open Go Go.Vc Go.Ham Txt
theorem qJU: ∀(k:Nat) (rs qs:List (Option (List (List PV)))),qB0 k (rs++qs)=qB0 k rs++qB0 (k+rs.length) qs
 |_,[],_=>rfl
 |k,r::rs,qs=>by rw[List.cons_append,qB0,qJU (k+1) rs qs,qB0,List.cons_append,zV,show k+1+rs.length=k+(rs.length+1)from by omega]
theorem qJV(es ty:Nat)(r:List (List PV)): ∀(k:Nat) (rs:List (Option (List (List PV)))),up (qB1 es ty k rs) (k+rs.length) ⟨es,ty,r⟩=qB1 es ty k (rs++[some r])
 |_,[]=>rfl
 | k, none :: rs => by
   rw[List.cons_append,qB1,qB1,zV,show k+(rs.length+1)=k+1+rs.length from by omega,qJV es ty r (k+1) rs]
 | k, some q :: rs => by
   rw[List.cons_append,qB1,qB1,zV,up,if_neg oM,if_neg oM,show k+(rs.length+1)=k+1+rs.length from by omega,qJV es ty r (k+1) rs]
theorem qJW(l:List (List Nat))(k:Nat)(h:k<l.length):rsW (l.take (k+1))=rsW (l.take k)++[some (rows u64C (nats (l.getD k default)))]:=by
 rw[qEY l k h]
 simp[rsW]
set_option maxHeartbeats 400000 in
theorem qJX(q:Bool)(l:List (List Nat))(hl:FrmSm l):FnM (Env.of Tryz.prog) 49 [.sl q 1 (rows (frmC q) l)] ⟨[],[],[],[]⟩ (fun v st' =>v= .bv 1005 1 l.length/\st' =⟨[],[(1005,qB0 3000 (rsW l))],qB1 1 59 3000 (rsW l),[]⟩):=by
 have h1:=hl.n
 refine quf 1000 Tryz.func49 ok49_1000 (by show 1<=_;decide) rfl (by decide) ?_
 simp only[ac49_1000,rv49_1000,push_cast,reduceIte,zA,zB,zC,zD,zE,zF,zG,reduceCtorEq,zH,zJ,cNI]
 refine qoO (fun j st=> ∃k:Nat,k<=l.length/\j=l.length-k/\st=⟨[(1000,.sl q 1 (rows (frmC q) l)),(1003,.bv 1005 1 k),(1004,.int k)],[(1005,qB0 3000 (rsW (l.take k)))],qB1 1 59 3000 (rsW (l.take k)),[]⟩) l.length ⟨_,SWk.refl _,0,oM,oM,?_⟩ ?_
 ·simp only[push_cast,reduceIte,zA,zB,zC,zD,zE,zF,zG,reduceCtorEq,zH,zJ,cNI]
  try rfl
 rintro j st ⟨k,hk,rfl,rfl⟩
 have htk:(rsW (l.take k)).length=k:=by rw[qH2,List.length_take];omega
 have hcl:(qB0 3000 (rsW (l.take k))).length=k:=by rw[qB2,htk]
 refine sB ?_
 refine qnY (fun h=> ?_) fun h=> ?_
 ·have hw:=qGz hl (show k<l.length by omega)
  have hup: ∀A,up (qB1 1 59 3000 (rsW (l.take k))) 1013 A=(1013,A)::qB1 1 59 3000 (rsW (l.take k)):=fun A=>qBb _ _ _ fun y hy=>by have:=qBc 1 59 3000 _ y hy;omega
  have f1:anyT (isId 1005) nul (qB0 3000 (rsW (l.take k)))=false:=by
   rw[<- qhK];exact qB5 _ _ _ _ fun _ _=>rfl
  have f2:anyT (isId 1021) nul (qB0 3000 (rsW (l.take k)))=false:=by
   rw[<- qhK];exact qB5 _ _ _ _ fun _ _=>rfl
  have f3:anyT nul (isId 1013) (qB0 3000 (rsW (l.take k)))=false:=qFf _ _ _ fun y r _=>beq_false_of_ne oM
  have hnew:=qJW l k oM
  generalize l.getD k default=ws at *
  generalize hR:rsW (l.take k)=R at *
  simp only[List.length_replicate,List.replicate_zero,List.nil_append,List.length_nil,Nat.zero_add,qF0,hup,hcl,f1,f2,f3,push_cast,reduceIte,zA,zB,zC,zD,zE,zF,zG,reduceCtorEq,zH,zJ,cNI]
  refine⟨⟨oM,oM⟩,oM,⟨oM,oM⟩,⟨oM,oM,oM⟩,⟨oM,oM⟩,?_⟩
  have hRl:R.length=k:=htk
  have hfa: ∀A:Arr,((1013,A)::qB1 1 59 3000 R).filter (fun _=>true)=(1013,A)::qB1 1 59 3000 R:=fun A=>List.filter_eq_self.2 fun _ _=>rfl
  have h1:=SWk.drop (s:=[(1000,.sl q 1 (rows (frmC q) l)),(1003,.bv 1005 1 (k+1)),(1004,.int (k+1))]) (b:=[(1005,qB0 3000 R++[.view 1013 0 ws.length]),(1021,[.view 1013 0 ws.length])]) (a:=(1013,⟨1,59,rows u64C (nats ws)⟩)::qB1 1 59 3000 R) (m:=[]) (fun i=>i !=1021) (fun _=>true)
  rw[hfa]at h1
  have h03:PV.toV (isId (3000+k)) nul (.bv 1005 1 (k+1))=false:=beq_false_of_ne (show 1005≠3000+k by omega)
  refine⟨_,SWk.trans h1 (SWk.renEq (A:=⟨1,59,rows u64C (nats ws)⟩) (b' :=[(1005,qB0 3000 (rsW (l.take (k+1))))]) (a' :=qB1 1 59 3000 (rsW (l.take (k+1)))) 1013 (3000+k) rfl ?_ ⟨⟨rfl,rfl⟩,⟨rfl,rfl⟩,⟨rfl,rfl⟩,trivial⟩ ⟨⟨rfl,rfl⟩,⟨h03,rfl⟩,⟨rfl,rfl⟩,trivial⟩ ?_ ?_ ?_),l.length-(k+1),oM,k+1,oM,rfl,rfl⟩
  ·rw[lk,if_neg oM,qBa,List.getElem?_eq_none oM];rfl
  ·show refB nul (isId (3000+k)) [(1005,qB0 3000 R++[.view 1013 0 ws.length])]=false
   have h13:PV.to nul (isId (3000+k)) (.view 1013 0 ws.length)=false:=beq_false_of_ne (show 1013≠3000+k by omega)
   rw[qiq,<- qhK,List.any_append,qB5 nul (isId (3000+k)) 3000 R fun x hx=>beq_false_of_ne oM]
   simp only[List.any_cons,List.any_nil,h13];rfl
  ·show[(1005,(qB0 3000 R++[PV.view 1013 0 ws.length]).map (PV.ren 1013 (3000+k)))]=_
   rw[hnew,qJU,hRl,yH,qB8 1013 (3000+k) 3000 R fun x _=>by omega]
   simp[PV.ren,qB0,rowC,qkk,qF0]
  ·rw[qFb,qFc _ _ _ _ _ (by decide),hnew,<- hRl,qJV]
 ·obtain rfl:k=l.length:=by omega
  rw[List.take_length]
  simp only[push_cast,reduceIte,zA,zB,zC,zD,zE,zF,zG,reduceCtorEq,zH,zJ,cNI]
  done
end Go.Proofs.YtecoaapkcnhlhaaGreatDoor
namespace Go.Proofs.YtecoaapkcnhlhaaGreatDoor
open Go Go.Vc Go.Ham Txt
def sumK(L:List (List Nat))(k:Nat):Nat:=((L.take k).map List.length).sum
theorem qJY{L:List (List Nat)}{k:Nat}(h:k<L.length):sumK L (k+1)=sumK L k+(L.getD k []).length:=by
 unfold sumK
 rw[zZ h,yH,List.sum_append,qJI L k [] h]
 simp
theorem qJZ(L:List (List Nat)):sumK L L.length=(L.map List.length).sum:=by unfold sumK;rw[List.take_length]
theorem qK0(L:List (List Nat))(k:Nat):sumK L k<=(L.map List.length).sum:=by
 have h:(L.map List.length).sum=sumK L k+((L.drop k).map List.length).sum:=by
  unfold sumK;rw[<- List.sum_append,<- yH,List.take_append_drop]
 omega
def qK1(z:Odd38):Nat:=z.L.length+z.c.sel.length+z.c.mode.length+z.c.tab.length+z.c.ram.length+z.K.length
def qK2(z:Odd38):Nat:=qK1 z+(z.L.map List.length).sum
structure Odd38.Sized (z:Odd38):Prop where
 l:z.L.length<=140737488355328
 sel:z.c.sel.length<=140737488355328
 mode:z.c.mode.length<=140737488355328
 tab:z.c.tab.length<=140737488355328
 ram:z.c.ram.length<=140737488355328
 k:z.K.length<=140737488355328
 row: ∀ws∈z.L,ws.length<=140737488355328
set_option maxHeartbeats 1000000 in
theorem qK3(z:Odd38)(hz:z.Sized):FnEq Tryz.prog 6 [.agg (qJn false z)] (.bool (decide (qK2 z<=600))):=by
 obtain⟨b1,b2,b3,b4,b5,b6,b7⟩:=hz
 refine FnEq.of_awp Tryz.func6 ok6 (by show 1<=_;decide) (by simp only[push_cast,reduceIte,zA,zB,zC,zD,zE,zF,zG,reduceCtorEq,zH,zJ,cNI]<;>first|exact fun _ _=>trivial|simp) ?_
 simp only[ac6,rv6,push_cast,reduceIte,zA,zB,zC,zD,zE,zF,zG,reduceCtorEq,zH,zJ,cNI]
 refine⟨oM,oM,oM,oM,oM,?_⟩
 refine qoP (fun m st=> ∃k:Nat,k<=z.L.length/\m=z.L.length-k/\qK1 z+sumK z.L k<=1407374883553280/\st=⟨[(1,.ptr 1 0),(3,.int ((qK1 z:Int)+(sumK z.L k:Int))),(4,.int k)],[(1,qJn false z)],[],[]⟩) z.L.length ?_ ?_
 ·refine⟨0,oM,oM,by unfold sumK qK1;simp;omega,?_⟩
  refine sB ?_
  rw[show((qK1 z:Int)+(sumK z.L 0:Int))=(z.L.length:Int)+z.c.sel.length+z.c.mode.length+z.c.tab.length+z.c.ram.length+z.K.length from by unfold sumK qK1;simp]
 rintro m st ⟨k,hk,rfl,hn,rfl⟩
 have hle:=qK0 z.L k
 refine sB ?_
 generalize hq:((qK1 z:Int)+(sumK z.L k:Int))=q at *
 refine qrH ⟨[(1,.ptr 1 0),(3,.int q),(4,.int k),(40,.bool (decide ((k:Int)<z.L.length/\q<=600)))],[(1,qJn false z)],[],[]⟩ ?_ ?_
 ·refine qrz rfl (fun h=> ?_) fun h=> ?_<;>simp only[push_cast,reduceIte,zA,zB,zC,zD,zE,zF,zG,reduceCtorEq,zH,zJ,cNI]
  ·rw[show decide (q<=600)=decide ((k:Int)<z.L.length/\q<=600)from decide_eq_decide.2 oM]
  ·rw[decide_eq_false (show ¬((k:Int)<z.L.length/\q<=600)from fun h2=>h h2.1)]
 refine sB ?_
 refine qnY (fun h=> ?_) fun h=> ?_
 ·have hkl:k<z.L.length:=by omega
  have hs:=qJY hkl
  have hr:(z.L.getD k []).length<=140737488355328:=b7 _ (by rw[qJI z.L k [] hkl];exact List.getElem_mem _)
  have hnl:((nats (z.L.getD k default)).length:Int)=((z.L.getD k []).length:Nat):=by unfold nats;rw[yG];rfl
  rw[hnl]
  refine⟨⟨oM,oM⟩,hkl,⟨oM,oM⟩,⟨oM,oM⟩,z.L.length-(k+1),oM,k+1,oM,rfl,oM,?_⟩
  rw[show q+((z.L.getD k []).length:Int)=(qK1 z:Int)+(sumK z.L (k+1):Int)by omega]
  rfl
 ·have hd : decide (q <= 600) = decide (qK2 z <= 600) := by
   refine decide_eq_decide.2 ?_
   unfold qK2
   by_cases hkl:k<z.L.length
   ·omega
   ·have:=qJZ z.L
    rw[show k=z.L.length by omega]at hq
    omega
  rw[hd]
  done
end Go.Proofs.YtecoaapkcnhlhaaGreatDoor
namespace Go.Proofs.YtecoaapkcnhlhaaGreatDoor
open Go Go.Vc Go.Ham Txt
theorem qK4{L:List (List Nat)}{ws:List Nat}(h:ws∈L):ws.length<=(L.map List.length).sum:=by
 obtain⟨a,b,rfl⟩:=List.append_of_mem h
 simp
 omega
theorem qK5{z:Odd38}(hw:qDx z.L)(h:qK2 z<=600):FrmSm z.L:=by
 unfold qK2 qK1 at h
 exact⟨hw,oM,fun ws hws=>by have:=qK4 hws;omega⟩
end Go.Proofs.YtecoaapkcnhlhaaGreatDoor
namespace Go.Proofs.YtecoaapkcnhlhaaGreatDoor
open Go Go.Vc Go.Ham Txt
mutual
def mxD{H:Type} :DataW H->Nat
 | .slice l _=>max l.length (mxDs l)
 | .agg l=>mxDs l
 |_=>0
def mxDs{H:Type} :List (DataW H)->Nat
 |[]=>0
 |d::r=>max (mxD d) (mxDs r)
end
theorem qK6{H:Type}{d:DataW H} : ∀ {l:List (DataW H)},d∈l->mxD d<=mxDs l
 | x :: r, h => by
   simp only[mxDs]
   rcases List.mem_cons.1 h with rfl|h
   ·omega
   ·have:=qK6 h;omega
theorem qK7{H:Type}{R:Nat} : ∀ {l:List (DataW H)},(∀d∈l,mxD d<=R)->mxDs l<=R
 |[],_=>by simp[mxDs]
 | x :: r, h => by
   simp only[mxDs]
   have h1:=h x (by simp)
   have h2:=qK7 (l:=r) fun d hd=>h d (by simp[hd])
   omega
theorem qK8{H:Type} :Meas (H:=H) mxD:=by
 refine⟨fun l r=> ?_,fun l r e he=> ?_,fun l e he=> ?_⟩
 ·simp only[mxD];omega
 ·have:=qK6 he
  simp only[mxD];omega
 ·have:=qK6 he
  simp only[mxD];omega
def szOk(P:Program):Nat->TypeId->Bool
 |0,_=>false
 | n + 1, t => match P.underlying t with
   |some .bool=>true
   |some (.int _)=>true
   |some (.slice e)=>decide (0<P.bytesOf e)&&szOk P n e
   |some (.struct fs)=>fs.toList.all fun f=>szOk P n f.type
   |some (.array _ e)=>szOk P n e
   |_=>false
theorem qK9{H:Type}{P:Program}{e:TypeId}{d:DataW H}{w:Nat}(hw:w∈d.weights P e): ∀ {l:List (DataW H)},d∈l->w∈DataW.weightsAll P e l
 | x :: r, h => by
   simp only[DataW.weightsAll]
   rcases List.mem_cons.1 h with rfl|h
   ·exact List.mem_append_left _ hw
   ·exact List.mem_append_right _ (qK9 hw h)
theorem qKa{H:Type}{P:Program}{t:TypeId}{d:DataW H}{w:Nat}(hw:w∈d.weights P t): ∀ {ts:List TypeId} {l:List (DataW H)} {i:Nat},ts[i]? =some t->l[i]? =some d->w∈DataW.weightsEach P ts l
 | u :: ts, x :: r, 0, h1, h2 => by
   simp at h1 h2
   subst h1;subst h2
   simp only[DataW.weightsEach]
   exact List.mem_append_left _ hw
 | u :: ts, x :: r, i + 1, h1, h2 => by
   simp only[DataW.weightsEach]
   exact List.mem_append_right _ (qKa hw (i:=i) (by simpa using h1) (by simpa using h2))
theorem qKb {H : Type} {enc : TypeId × Value -> H} {P : Program} {W : World} {base : Nat} {sp : Nat -> Bool} {hd : Bool} {R : Nat} : ∀ (n fuel : Nat) (t : TypeId) (cs : List Value) (x : DataW H × List MemPlace), szOk P n t = true -> DataW.trod enc P W base sp hd fuel t cs = some x ->
  (∀w∈x.1.weights P t,w<=R)->mxD x.1<=R:=by
 intro n
 induction n with
 |zero=>intro fuel t cs x h;simp[szOk]at h
 |succ n ih=>
   intro fuel t cs x h hx hw
   unfold szOk at h
   split at h
   ·rename_i hu
    obtain⟨b,_,rfl⟩:=DataW.trod_bool hu hx
    simp[mxD]
   ·rename_i k hu
    obtain⟨b,_,rfl,_⟩:=DataW.trod_int hu hx
    simp[mxD]
   ·rename_i e hu
    simp only[zN,decide_eq_true_eq]at h
    rcases DataW.trod_slice hu hx with⟨_,rfl⟩|⟨a,len,cap,elems,rest,m,rfl,_,rfl,_,_,_,hlen,hel,_⟩
    ·simp[mxD]
    ·simp only[DataW.weights,hu]at hw
     have h1:=hw _ zX
     have h2:(elems.map (·.1)).length<=R:=by
      refine Nat.le_trans ?_ h1
      refine Nat.le_trans (Nat.le_add_right _ _) (Nat.le_mul_of_pos_right _ h.1)
     have h3:mxDs (elems.map (·.1))<=R:=qK7 fun d hd=>by
      obtain⟨y,hy,rfl⟩:=List.mem_map.1 hd
      obtain⟨i,hi,rfl⟩:=List.getElem_of_mem hy
      have h4:=hel i oM
      rw[zL hi]at h4
      obtain⟨cs',_,h5⟩:=Option.bind_eq_some_iff.1 h4
      exact ih m e cs' _ h.2 h5 fun w hw' =>hw w (zT _ (List.mem_append_left _ (qK9 hw' hd)))
     simp only[mxD]
     omega
   ·rename_i fs hu
    obtain⟨xs,m,rfl,rfl,_,hn,hel⟩:=DataW.trod_struct hu hx
    simp only[DataW.weights,hu]at hw
    refine qK7 fun d hd=> ?_
    obtain⟨y,hy,rfl⟩:=List.mem_map.1 hd
    obtain⟨i,hi,rfl⟩:=List.getElem_of_mem hy
    have hi2:i<fs.size:=by omega
    have h4:=hel i fs[i] (Array.getElem?_eq_getElem hi2)
    rw[zL hi]at h4
    refine ih m _ _ _ (yE.1 h fs[i] (by simp)) h4 fun w hw' =>hw w (qKa hw' (i:=i) ?_ ?_)
    ·simp[hi2]
    ·simp[hi]
   ·rename_i k e hu
    obtain⟨xs,m,rfl,rfl,_,hn,hel⟩:=DataW.trod_array hu hx
    simp only[DataW.weights,hu]at hw
    refine qK7 fun d hd=> ?_
    obtain⟨y,hy,rfl⟩:=List.mem_map.1 hd
    obtain⟨i,hi,rfl⟩:=List.getElem_of_mem hy
    have h4:=hel i oM
    rw[zL hi]at h4
    exact ih m _ _ _ h h4 fun w hw' =>hw w (qK9 hw' hd)
   ·cases h
theorem qKc {H : Type} {enc : TypeId × Value -> H} {P : Program} {W : World} {sp : Nat -> Bool} {hd : Bool} {ts : List TypeId} {ds : List (DataW H)} (h : (DataW.weightsEach P ts ds).all (· <= reachBytes) = true) {i n : Nat} {t : TypeId} {d : DataW H} (ht : ts[i]? = some t) (hd' : ds[i]? = some d) {v : Value} {ps : List MemPlace}
  (hz:szOk P n t=true) (hr:DataW.Trod enc P W 0 sp hd t v d ps):Fits reachBytes d:=by
 obtain⟨fuel,hr⟩:=hr
 refine .inr ⟨mxD,qK8,qKb n fuel t _ _ hz hr fun w hw=> ?_⟩
 have:=yE.1 h w (qKa hw ht hd')
 simpa using this
theorem qKd{B:Nat}{a:List PV}(h:RowB B [] a):a=[]:=List.length_eq_zero_iff.1 h.1
theorem qKe{B:Nat}{t:Ty}{ts:List Ty}{a:List PV}(h:RowB B (t::ts) a): ∃c r,a=c::r/\CellB B t c/\RowB B ts r:=by
 obtain⟨h1,h2⟩:=h
 cases a with
 |nil=>cases h1
 |cons c r=>exact⟨c,r,rfl,h2 0 t c rfl rfl,by simpa using h1,fun j t' c' ht hc=>h2 (j+1) t' c' ht hc⟩
theorem qKf{B:Nat}{k:IntKind}{c:PV}(h:CellB B (.i k) c): ∃n:Int,c= .sc (.int k n)/\k.min<=n/\n<=k.max:=by
 cases h with|i k n h1 h2=>exact⟨n,rfl,h1,h2⟩
theorem qKg{B:Nat}{es:Nat}{ts:List Ty}{c:PV}(h:CellB B (.sl es ts) c): ∃rs:List (List PV),c= .sl true es rs/\rs.length<=B/\ ∀r∈rs,RowB B ts r:=by
 cases h with|sl es ts rs h1 h2 h3=>exact⟨rs,rfl,h1,fun r hr=>⟨h2 r hr,h3 r hr⟩⟩
theorem qKh{B:Nat}{c:PV}(h:CellB B (.sl 1 [.i .i64]) c): ∃l:List Int,c= .sl true 1 (ints l)/\l.length<=B:=by
 obtain⟨rs,rfl,h1,h2⟩:=qKg h
 obtain⟨l,rfl,_⟩:=qzt (f:=fun x:Int=>[PV.int x]) (Q:=fun _=>True) (rs:=rs) fun r hr=>by
  obtain⟨c,q,rfl,hc,h3⟩:=qKe (h2 r hr)
  obtain⟨n,rfl,hn⟩:=qKf hc
  rw[qKd h3]
  exact⟨n,rfl,trivial⟩
 simp only[rows,yG]at h1
 exact⟨l,rfl,h1⟩
theorem qKj{B:Nat}{c:PV}(h:CellB B (.sl 1 [.sl 1 [.i .u64]]) c): ∃L:List (List Nat),c= .sl true 1 (rows (frmC true) L)/\L.length<=B/\ ∀ws∈L,ws.length<=B/\ ∀w∈ws,w<2^64:=by
 obtain⟨rs,rfl,h1,h2⟩:=qKg h
 obtain⟨L,rfl,hL⟩:=qzt (f:=frmC true) (Q:=fun ws=>ws.length<=B/\ ∀w∈ws,w<2^64) (rs:=rs) fun r hr=>by
  obtain⟨c,q,rfl,hc,h3⟩:=qKe (h2 r hr)
  obtain⟨ss,rfl,h6,h4⟩:=qKg hc
  obtain⟨l,rfl,hl⟩:=qzt (f:=fun n:Nat=>[PV.sc (.int .u64 (n:Int))]) (Q:=fun n=>n<2^64) (rs:=ss) fun r hr=>by
   obtain⟨c,q,rfl,hc,h5⟩:=qKe (h4 r hr)
   obtain⟨n,rfl,hn,hm⟩:=qKf hc
   rw[qKd h5]
   have hn:(0:Int)<=n:=hn
   have hm:n<=18446744073709551615:=hm
   exact⟨n.toNat,by rw[Int.toNat_of_nonneg hn],oM⟩
  rw[qKd h3]
  simp only[rows,yG]at h6
  exact⟨l,by simp only[frmC,rows,nats,u64C,List.map_map];rfl,h6,hl⟩
 simp only[rows,yG]at h1
 exact⟨L,rfl,h1,hL⟩
end Go.Proofs.YtecoaapkcnhlhaaGreatDoor
