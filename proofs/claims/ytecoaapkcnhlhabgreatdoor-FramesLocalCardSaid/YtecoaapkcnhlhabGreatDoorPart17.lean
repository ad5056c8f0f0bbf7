/- IP IQ IR IS IT TxtS JA JB TxtT JC JD JEa JE JF JG JH JK JL JM ZW KA: lemmas -/
import Derived.Test.YtecoaapkcnhlhabGreatDoorPart16
import Derived.Test.YtecoaapkcnhlhabGreatDoorPart06
import Derived.Test.YtecoaapkcnhlhabGreatDoorChecked
import Derived.Test.YtecoaapkcnhlhabGreatDoorPart12
import Derived.MakeChecks
import Derived.FnData
import Derived.OpenShut
set_option linter.unusedSimpArgs false
set_option linter.unusedVariables false
open List renaming getD_eq_getElem?_getD->zK,getElem?_eq_getElem->zL,getElem?_map->zS,mem_cons_of_mem->zT,length_append->zU,map_cons->zW,mem_cons_self->zX,take_of_length_le->zY,take_succ_eq_append_getElem->zZ,mem_append->yC,all_eq_true->yE,length_set->yF,length_map->yG,map_append->yH
open Int renaming reduceToNat->zH,reduceNeg->zJ
open Nat renaming reduceEqDiff->zA,reduceAdd->zB,reduceSub->zC,reduceMul->zD,reduceBEq->zE,reduceLT->zF,reduceLeDiff->zG
namespace Go.Proofs.YtecoaapkcnhlhabGreatDoor
open Go Go.Vc Go.Ham Txt
theorem qIf: ∀(k j n:Nat),n<2^j->Go.Lib.bitLenAux k n<=j
 |0,_,_,_=>Nat.zero_le _
 | k + 1, j, n, h => by
   unfold Go.Lib.bitLenAux
   split
   ·exact Nat.zero_le _
   ·cases j with
    |zero=>omega
    |succ j=>
      have:=qIf k j (n/2) (by rw[Nat.pow_succ]at h;omega)
      omega
theorem qIg{g:Grid}(hg:GOk g){f:Fld}(hf:FIn g f):f.n<=61:=by
 rcases hf.key with⟨a,b,d⟩|⟨a,b,d⟩|⟨a,b,d⟩|⟨a,b,d⟩<;>rw[d]
 ·have:=qxu g hg f.i
  exact qIf 64 61 _ oM
 all_goals decide
def datA(L:List Int)(c:Cfg):List (Nat×Arr):=[(74,⟨1,3,ints L⟩),(109,⟨1,3,ints c.sel⟩),(111,⟨1,3,ints c.mode⟩),(113,⟨1,3,ints c.tab⟩),(115,⟨1,3,ints c.ram⟩)]
def kA(k:Nat):Nat:=if k=0 then 109 else if k=1 then 111 else if k=2 then 113 else 115
def cfgL(c:Cfg)(k:Nat):List Int:=if k=0 then c.sel else if k=1 then c.mode else if k=2 then c.tab else c.ram
theorem qIh(k:Nat):kA k≠74:=by
 unfold kA
 repeat' split
 all_goals decide
theorem qIi{k:Nat}(L:List Int)(c:Cfg):lk (datA L c) (kA k)=some ⟨1,3,ints (cfgL c k)⟩:=by
 unfold kA cfgL
 repeat' split
 all_goals rfl
theorem qIj{k:Nat}(L L' :List Int)(c:Cfg)(i:Nat)(v:Int):up (up (datA L c) 74 ⟨1,3,ints L'⟩) (kA k) ⟨1,3,ints ((cfgL c k).set i v)⟩=datA L' (qDh c k i v):=by
 unfold kA cfgL qDh
 repeat' split
 all_goals rfl
theorem qIk(c:Cfg)(k i:Nat):(cfgL c k).getD i default=cfgI c k i:=by
 unfold cfgL cfgI
 repeat' split
 all_goals rfl
theorem qIl{g:Grid}{c:Cfg}(h:CfgLn g c){k i:Nat}(hk:keyIn g k i):i<(cfgL c k).length:=by
 obtain⟨l1,l2,l3,l4⟩:=h.lens
 rcases hk with⟨rfl,h⟩|⟨rfl|rfl|rfl,h⟩<;>simp[cfgL]<;>omega
theorem qIm(c:Cfg)(k i:Nat)(v w:Int):qDh (qDh c k i v) k i w=qDh c k i w:=by
 unfold qDh
 by_cases h0:k=0
 ·simp[h0,List.set_set]
 ·by_cases h1:k=1
  ·simp[h1,List.set_set]
  ·by_cases h2:k=2
   ·simp[h2,List.set_set]
   ·simp[h0,h1,h2,List.set_set]
theorem qIn{g:Grid}{c:Cfg}(hc:CfgLn g c){k i:Nat}(hk:keyIn g k i):qDh c k i (cfgI c k i)=c:=by
 refine qDm (qDi hc _ _ _) hc fun k' i' h' => ?_
 rw[qDk hc hk h']
 split
 ·next h=>obtain⟨rfl,rfl⟩:=h;rfl
 ·rfl
def strB(l:List (List Nat))(x:Nat):List Bool:=unW (datF l x)
theorem qIo(l:List (List Nat))(x c:Nat):(datW ((datD l x).getD (c/57) 0)).testBit (c%57)=(strB l x).getD c false\/(datD l x).length<=c/57:=by
 by_cases h:c/57<(datD l x).length
 ·left
  unfold strB datF
  rw[qBU,zK,zK,zS]
  show _=(((datD l x)[c/57]?.map datW).getD 0).testBit _
  rw[zL h]
  rfl
 ·exact .inr oM
theorem qIp(S:List Bool)(c k:Nat)(h:c+k<S.length):(S.drop c).take (k+1)=(S.drop c).take k++[S.getD (c+k) false]:=by
 rw[zZ (by simp;omega),List.getElem_drop,zK,zL h]
 rfl
set_option maxHeartbeats 2000000 in
theorem qIq (g : Grid) {S : List (Nat × PV)} (hS : qtX 1000 S = true) (κ i x nb n : Nat) (l : List (List Nat)) (L : List Int) (c : Nat) (B : List (Nat × List PV)) (cf : Cfg)
  (h18:lk B 18=some [.clo 56 [8,17]]) (h20:lk B 1020=some [.eptr (kA κ) i 0,.int nb])
  (h8:lk B 8=some [.bv 31 1 n]) (h31:lk B 31=some (outC datW n (datD l) n)) (h17:lk B 17=some [.view 74 0 n]) (hL:L.length=n) (hc:L.getD x default=c) (hx:x<n) (hn:n<=1000) (hcl:c+nb<=57*(datD l x).length) (hcb:c+nb<2000000000)
  (hcf:CfgLn g cf) (hk:keyIn g κ i) (h0:cfgI cf κ i=0) (hnb:nb<=61) (T:List (Nat×PV)) (hT:qhn [1000,126,1018,1019,1020] T=[]) (Q:Exit->St->Prop)
  (hQ:Q .normal ⟨S++[(1018,.ptr 18 0),(1019,.int x),(1020,.ptr 1020 0),(1081,.int nb),(1082,.int nb),(1083,.bool false)],B,datA (L.set x ((c+nb:Nat):Int)) (qDh cf κ i (valB (((strB l x).drop c).take nb):Nat)),[]⟩):
  awp (Env.of Tryz.prog) ac34_r24 Q ⟨S++([(1018,.ptr 18 0),(1019,.int x),(1020,.ptr 1020 0)]++T),B,datA L cf,[]⟩:=by
 have hslen:(strB l x).length=57*(datD l x).length:=by unfold strB datF;rw[qBR,yG];rfl
 have hLs: ∀y,(L.set x y).getD x default=y:=fun y=>by rw[zK,List.getElem?_set_self oM];rfl
 have hLset: ∀y z,(L.set x y).set x z=L.set x z:=fun y z=>List.set_set ..
 have hL0:L.set x ((c:Nat):Int)=L:=by
  rw[<- hc]
  apply List.ext_getElem (by simp)
  intro j h1 h2
  rw[List.getElem_set]
  split
  ·next e=>subst e;simp[zK,h2]
  ·rfl
 simp only[ac34_r24,hT,h20,qCA hS,qCz hS,qCB hS,qCC hS,qCD hS,push_cast,reduceIte,zA,zB,zC,zD,zE,zF,zG,reduceCtorEq,zH,zJ,cNI]
 refine qoO (fun j st=> ∃k:Nat,k<=nb/\j=nb-k/\st=⟨S++[(1018,.ptr 18 0),(1019,.int x),(1020,.ptr 1020 0),(1081,.int nb),(1082,.int k)],B,datA (L.set x ((c+k:Nat):Int)) (qDh cf κ i (valB (((strB l x).drop c).take k):Nat)),[]⟩) nb ⟨_,SWk.refl _,0,oM,oM,?_⟩ ?_
 ·simp only[qCA hS,qCz hS,qCB hS,qCC hS,qCD hS,push_cast,reduceIte,zA,zB,zC,zD,zE,zF,zG,reduceCtorEq,zH,zJ,cNI]
  rw[List.take_zero,show(valB []:Nat)=0 from rfl,show((0:Nat):Int)=cfgI cf κ i from h0.symm,qIn hcf hk]
  rw[show L.set x (c:Int)=L from hL0]
 rintro j st ⟨k,hk',rfl,rfl⟩
 simp only[qCA hS,qCz hS,qCB hS,qCC hS,qCD hS,push_cast,reduceIte,zA,zB,zC,zD,zE,zF,zG,reduceCtorEq,zH,zJ,cNI]
 refine qnY (fun h=> ?_) fun h=> ?_
 ·have hkn:k<nb:=by omega
  have hln:=qDi hcf κ i (valB (((strB l x).drop c).take k):Nat)
  have hvl:=qBB (((strB l x).drop c).take k)
  have htl:(((strB l x).drop c).take k).length=k:=by rw[List.length_take,List.length_drop];omega
  rw[htl]at hvl
  have hcl2:(c+k)/57<(datD l x).length:=by omega
  simp only[ac34_r26,qCA hS,qCz hS,qCB hS,qCC hS,qCD hS,push_cast,reduceIte,zA,zB,zC,zD,zE,zF,zG,reduceCtorEq,zH,zJ,cNI]
  refine qIe (s0:=S++[(1018,.ptr 18 0),(1019,.int x),(1020,.ptr 1020 0),(1021,.int k),(1081,.int nb),(1082,.int k)]) ?_ (kA κ) i (valB (((strB l x).drop c).take k)) x k n (cfgL (qDh cf κ i (valB (((strB l x).drop c).take k):Nat)) κ) (L.set x ((c+k:Nat):Int)) (datD l) (c+k) B _ nb _ ?_ ?_ ?_ ?_ h18 h20 h8 h31 h17 rfl (by rw[yF,hL]) (hLs _) hx hn hcl2 oM (qIi _ _) (qIh κ) (qIl hln hk) ?_ hvl oM ?_
  ·rw[qCE hS _ _ oM];rfl
  ·simp only[qCB hS,push_cast,reduceIte,zA,zB,zC,zD,zE,zF,zG,reduceCtorEq,zH,zJ,cNI]
  ·simp only[qCB hS,push_cast,reduceIte,zA,zB,zC,zD,zE,zF,zG,reduceCtorEq,zH,zJ,cNI]
  ·simp only[qCB hS,push_cast,reduceIte,zA,zB,zC,zD,zE,zF,zG,reduceCtorEq,zH,zJ,cNI]
  ·simp only[qCB hS,push_cast,reduceIte,zA,zB,zC,zD,zE,zF,zG,reduceCtorEq,zH,zJ,cNI]
  ·rw[qIk,qDk hcf hk hk,if_pos ⟨rfl,rfl⟩]
  ·have hbit:(datW ((datD l x).getD ((c+k)/57) 0)).testBit ((c+k)%57)=(strB l x).getD (c+k) false:=(qIo l x (c+k)).resolve_right oM
   rw[hbit,qIj,qIm,hLset]
   have hvs:valB (((strB l x).drop c).take k)|||(((strB l x).getD (c+k) false).toNat<<<k)=valB (((strB l x).drop c).take (k+1)):=by
    rw[qIp _ _ _ oM,qBH,htl]
   rw[hvs]
   simp only[slA,xs34_27,putD,qIc,qCA hS,qCz hS,qCB hS,qCC hS,qCD hS,push_cast,reduceIte,zA,zB,zC,zD,zE,zF,zG,reduceCtorEq,zH,zJ,cNI]
   refine⟨⟨oM,oM⟩,_,SWk.refl _,nb-(k+1),oM,k+1,oM,rfl,?_⟩
   rw[show(c:Int)+k+1=((c:Int)+((k+1:Nat):Int))from by omega]
   rfl
 ·obtain rfl:k=nb:=by omega
  rw[show decide ((k:Int)<k)=false from decide_eq_false oM]
  exact hQ
end Go.Proofs.YtecoaapkcnhlhabGreatDoor
namespace Go.Proofs.YtecoaapkcnhlhabGreatDoor
open Go Go.Vc Go.Ham Txt
def cfA(c:Cfg):List (Nat×Arr):=[(109,⟨1,3,ints c.sel⟩),(111,⟨1,3,ints c.mode⟩),(113,⟨1,3,ints c.tab⟩),(115,⟨1,3,ints c.ram⟩)]
theorem qIr(g:Grid)(hg:GOk g):FnM (Env.of Tryz.prog) 55 [.agg (quX false g)] ⟨[],[],[],[]⟩ (fun v st' =>
  v= .agg [.view 109 0 (qv2 g).toNat,.view 111 0 g.kind.length,.view 113 0 g.kind.length,.view 115 0 g.kind.length]/\st' =⟨[],[],cfA (qxc g),[]⟩):=by
 have h1:=hg.count
 have h2:=hg.wh
 have h3:=hg.kind
 refine FnM.dropB 101 (FnM.dropB 102 ?_)
 refine quf 100 Tryz.func55 ok55_100 (by show 1<=_;decide) rfl (by decide) ?_
 simp only[ac55_100,rv55_100,push_cast,reduceIte,zA,zB,zC,zD,zE,zF,zG,reduceCtorEq,zH,zJ,cNI]
 refine qrx (qv5 g hg) sC rfl ?_
 refine sB ?_
 refine⟨oM,oM,oM,oM,?_,?_⟩
 ·simp
 ·simp only[cfA,qxc,List.length_replicate,push_cast,reduceIte,zA,zB,zC,zD,zE,zF,zG,reduceCtorEq,zH,zJ,cNI]
def cfP(g:Grid)(l:List (List Nat))(pre:List Fld):Cfg:=(qC3 pre (strB l)).foldl (fun c p=>qDh c p.1.kind p.1.i p.2) (qxc g)
theorem qIs(g:Grid)(l:List (List Nat)):cfP g l (qCq g)=decC g fun x=>unW (datF l x):=rfl
theorem qIt(g:Grid)(l:List (List Nat))(pre:List Fld)(f:Fld):cfP g l (pre++[f])=qDh (cfP g l pre) f.kind f.i (valB (((strB l f.x).drop (qBY pre f.x)).take f.n):Nat):=by
 unfold cfP
 rw[qC5,List.foldl_append]
 rfl
theorem qIu(g:Grid)(k i:Nat):cfgI (qxc g) k i=0:=by
 have h: ∀n:Nat,(List.replicate n (0:Int)).getD i 0=0:=fun n=>by
  rw[zK,List.getElem?_replicate];split<;>rfl
 unfold cfgI qxc
 repeat' split
 all_goals exact h _
theorem qIv(fs:List Fld)(S:Nat->List Bool):(qC3 fs S).map (fun p=>fkey p.1)=fs.map fkey:=by
 rw[show(fun p:Fld×Nat=>fkey p.1)=fkey ∘ Prod.fst from rfl,<- List.map_map,qC4]
theorem qIw{g:Grid}(hg:GOk g)(l:List (List Nat)){pre:List Fld}{f:Fld}(h:pre++[f]<+:qCq g):CfgLn g (cfP g l pre)/\cfgI (cfP g l pre) f.kind f.i=0:=by
 have hnd:=qDd hg
 obtain⟨r,hr⟩:=h
 have hin: ∀p∈qC3 pre (strB l),p.1∈qCq g:=fun p hp=>by
  have:p.1∈(qC3 pre (strB l)).map (·.1):=List.mem_map_of_mem hp
  rw[qC4]at this
  rw[<- hr]
  exact List.mem_append_left _ (List.mem_append_left _ this)
 rw[<- hr,List.append_assoc,yH,List.nodup_append]at hnd
 obtain⟨a1,_,a3⟩:=qDl (qC3 pre (strB l)) (qxc g) (qDn g) (fun p hp=>(qD8 hg (hin p hp)).keyIn) (by rw[qIv];exact hnd.1)
 refine⟨a1,?_⟩
 have hf:f∈qCq g:=by rw[<- hr];simp
 refine(a3 f.kind f.i (qD8 hg hf).keyIn ?_).trans (qIu g _ _)
 rw[qIv]
 intro hm
 exact hnd.2.2 _ hm (fkey f) (by simp) rfl
theorem qIx{g:Grid}{pre:List Fld}(h:pre<+:qCq g)(x:Nat):qBY pre x<=qDv g x:=by
 obtain⟨r,hr⟩:=h
 unfold qDv
 rw[<- hr,qC2]
 omega
theorem qIy(n:Nat):n<=57*nW n:=by unfold nW;omega
def qIz(g:Grid)(n:Nat)(C:List PV):List (Nat×List PV):=[(2,quX false g),(4,[.nil,.nil,.nil,.nil]),(8,[.bv 31 1 n]),(16,[.view 109 0 (cN g),.view 111 0 g.kind.length,.view 113 0 g.kind.length,.view 115 0 g.kind.length]),(17,[.view 74 0 n]),(18,[.clo 56 [8,17]]),(31,C)]
def qIA(g:Grid)(n:Nat)(C:List PV):List (Nat×List PV):=qIz g n C++[(102,quX false g),(103,[.ptr 16 0]),(105,[.int (qv1 g)])]
def qIB(g:Grid)(n:Nat)(C:List PV):List (Nat×List PV):=qIA g n C++[(204,[.yl 999])]
def qIC(g:Grid)(n:Nat)(C:List PV):List (Nat×List PV):=qIA g n C++[(204,[.bot])]
def decS(l:List (List Nat))(f:Int):List (Nat×PV):=[(1,.sl false 1 (rows (frmC false) l)),(2,.ptr 2 0),(4,.ptr 4 0),(7,.int f),(8,.ptr 8 0),(16,.ptr 16 0),(17,.ptr 17 0),(18,.ptr 18 0),(77,.clo 66 [103,102,105])]
theorem qID{id n:Nat}(h:id<1000):farV (.view id 0 n):=⟨fun j hj=>⟨rfl,beq_false_of_ne oM⟩,fun _ j hj=>⟨rfl,beq_false_of_ne oM⟩⟩
set_option maxHeartbeats 4000000 in
theorem qIE (g : Grid) (hg : GOk g) (l : List (List Nat)) (n : Nat) (hn : n = wN g + 1) (f : Int) (Q : Exit -> St -> Prop) (hs : ∀ x, x <= wN g -> (datD l x).length = nW (qDv g x)) (h75 : PV)
  (h29:awp (Env.of Tryz.prog) ac34_r29 Q ⟨decS l f,qIC g n (outC datW n (datD l) n),datA (qDT g (qCq g)) (cfP g l (qCq g)),[]⟩):
  awp (Env.of Tryz.prog) ac34_r21 Q ⟨[(1,.sl false 1 (rows (frmC false) l)),(2,.ptr 2 0),(4,.ptr 4 0),(7,.int f),(8,.ptr 8 0),(16,.ptr 16 0),(17,.ptr 17 0),(18,.ptr 18 0),(75,.clo 56 [8,17])],qIz g n (outC datW n (datD l) n),datA (List.replicate n 0) (qxc g),[]⟩:=by
 have hn' :=hg.n
 have hw2:=hn'.w2
 simp only[ac34_r21,qIz,push_cast,reduceIte,zA,zB,zC,zD,zE,zF,zG,reduceCtorEq,zH,zJ,cNI]
 have hF : FnM (Env.of Tryz.prog) 45 [.agg (quX false g), .ptr 16 0] ⟨[(1, .sl false 1 (rows (frmC false) l)), (2, .ptr 2 0), (4, .ptr 4 0), (7, .int f), (8, .ptr 8 0), (16, .ptr 16 0), (17, .ptr 17 0), (18, .ptr 18 0), (76, .agg (quX false g))], qIz g n (outC datW n (datD l) n), datA (List.replicate n 0) (qxc g), []⟩
   (fun v st' =>v= .clo 66 [103,102,105]/\st' =⟨[(1,.sl false 1 (rows (frmC false) l)),(2,.ptr 2 0),(4,.ptr 4 0),(7,.int f),(8,.ptr 8 0),(16,.ptr 16 0),(17,.ptr 17 0),(18,.ptr 18 0),(76,.agg (quX false g))],qIA g n (outC datW n (datD l) n),datA (List.replicate n 0) (qxc g),[]⟩):=by
  refine quf 100 Tryz.func45 ok45_100 (by show 2<=_;decide) rfl (by decide) ?_
  have ht:=hg.tracks
  simp only[ac45_100,rv45_100,qIz,qGk,push_cast,reduceIte,zA,zB,zC,zD,zE,zF,zG,reduceCtorEq,zH,zJ,cNI]
  exact⟨⟨oM,oM⟩,⟨oM,oM⟩,rfl⟩
 refine qsP hF ?_
 refine sB ?_
 have hv:=fun pre=>qIi (k:=0) (qDT g pre) (cfP g l pre)
 refine qud (st1:=⟨decS l f,qIA g n (outC datW n (datD l) n),datA (qDT g []) (cfP g l []),[]⟩) (Env.of_noY _) rfl ?_
  (qDg (s:=decS l f) rfl (by show 126<=200;decide) (fun _ _ h=>h) rfl g hg 103 102 105 16 (.view 109 0 (cN g)) (.view 111 0 g.kind.length) (.view 113 0 g.kind.length) (.view 115 0 g.kind.length) (qIA g n (outC datW n (datD l) n)) (fun _=>qIB g n (outC datW n (datD l) n)) (fun pre=>datA (qDT g pre) (cfP g l pre)) rfl rfl rfl (by simp only[decS,push_cast,reduceIte,zA,zB,zC,zD,zE,zF,zG,reduceCtorEq,zH,zJ,cNI]) ?_ (fun pre hp=>⟨rfl,rfl,rfl,rfl,rfl⟩) (fun pre hp=>⟨⟨_,_,rfl⟩,⟨_,_,rfl⟩,⟨_,_,rfl⟩,⟨_,_,rfl⟩⟩) ?_ ⟨by decide,by decide,by decide,by decide⟩ ⟨qID (by decide),qID (by decide),qID (by decide),qID (by decide)⟩ ?_) ?_
 ·simp only[qIA,qIz,qGk,decS,push_cast,reduceIte,zA,zB,zC,zD,zE,zF,zG,reduceCtorEq,zH,zJ,cNI]
  rw[qE5,<- hn]
  rfl
 ·simp only[qIA,qIz,qIB,qGk,List.cons_append,List.nil_append,push_cast,reduceIte,zA,zB,zC,zD,zE,zF,zG,reduceCtorEq,zH,zJ,cNI]
 ·have hc:=hn'.c
  have hk:=hn'.k
  exact⟨rfl,hk,hk,hk⟩
 ·intro pre fl hpf t ht h4 hft
  have hm:midL 0 126 (decS l f++t)=decS l f:=by
   simp only[decS,List.cons_append,List.nil_append,qtU]
   rw[qCT fun x hx=>by have:=h4 x hx;omega]
   rfl
  have hsl:qtX 1000 (decS l f++t)=true:=by simpa[qtX,decS]using ht
  refine qCF rfl rfl hsl ?_
  rw[hm]
  have hS: ∀j,1000<=j->farL j (decS l f++t):=by
   intro j hj
   have n1: ∀i,i<1000->(i==j)=false:=fun i hi=>beq_false_of_ne oM
   simp only[decS,qD0,n1 2 (by decide),n1 4 (by decide),n1 8 (by decide),n1 16 (by decide),n1 17 (by decide),n1 18 (by decide),n1 103 (by decide),n1 102 (by decide),n1 105 (by decide),hft j hj,push_cast,reduceIte,zA,zB,zC,zD,zE,zF,zG,reduceCtorEq,zH,zJ,cNI]
  have hg1:getL (decS l f++t) 1= .sl false 1 (rows (frmC false) l):=rfl
  have hg2:getL (decS l f++t) 2= .ptr 2 0:=rfl
  have hg4:getL (decS l f++t) 4= .ptr 4 0:=rfl
  have hg7:getL (decS l f++t) 7= .int f:=rfl
  have hg8:getL (decS l f++t) 8= .ptr 8 0:=rfl
  have hg16:getL (decS l f++t) 16= .ptr 16 0:=rfl
  have hg17:getL (decS l f++t) 17= .ptr 17 0:=rfl
  have hg18:getL (decS l f++t) 18= .ptr 18 0:=rfl
  have hg77:getL (decS l f++t) 77= .clo 66 [103,102,105]:=rfl
  have hdS:decS l f=[(1,.sl false 1 (rows (frmC false) l)),(2,.ptr 2 0),(4,.ptr 4 0),(7,.int f),(8,.ptr 8 0),(16,.ptr 16 0),(17,.ptr 17 0),(18,.ptr 18 0),(77,.clo 66 [103,102,105])]:=rfl
  clear hm ht h4
  generalize decS l f++t=S at *
  rw[hdS]
  unfold qua
  have hfi:=qD8 hg (hpf.subset (List.mem_append_right _ zX))
  have hfx:=hfi.x
  have hfn:=qIg hg hfi
  have hbd:=qE0 hg hpf fl.x
  have hnp:=qIx hpf fl.x
  rw[qC2]at hbd hnp
  simp only[qBY,if_true]at hbd hnp
  obtain⟨hcl,hc0⟩:=qIw hg l hpf
  have hD:=hs fl.x hfx
  have hnw:=qIy (qDv g fl.x)
  have hpt:qCU (cfK (.view 109 0 (cN g)) (.view 111 0 g.kind.length) (.view 113 0 g.kind.length) (.view 115 0 g.kind.length) fl.kind) fl.i= .eptr (kA fl.kind) fl.i 0:=by
   rcases hfi.key with h|h|h|h<;>rw[h.1]<;>simp[cfK,qCU,kA]
  have hkb:(kA fl.kind==1020)=false:=by
   rcases hfi.key with h|h|h|h<;>rw[h.1]<;>rfl
  rw[hpt]
  simp only[qIB,qIA,qIz,qGk,List.cons_append,List.nil_append,hg1,hg2,hg4,hg7,hg8,hg16,hg17,hg18,hg77,qCA hsl,qCz hsl,qCB hsl,qCC hsl,qCD hsl,qD4,qD1 (hS 1020 (by decide)),push_cast,reduceIte,zA,zB,zC,zD,zE,zF,zG,reduceCtorEq,zH,zJ,cNI]
  refine qIq g hsl fl.kind fl.i fl.x fl.n n l (qDT g pre) (qBY pre fl.x) _ (cfP g l pre) rfl rfl rfl rfl rfl (by rw[qE1,hn]) (qE2 hfx pre) oM oM (by rw[hD];omega) oM hcl hfi.keyIn hc0 hfn [(1079,.agg [.eptr (kA fl.kind) fl.i 0,.int fl.n])] sC _ ?_
  simp only[qCA hsl,qCz hsl,qCB hsl,qCC hsl,qCD hsl,push_cast,reduceIte,zA,zB,zC,zD,zE,zF,zG,reduceCtorEq,zH,zJ,cNI]
  refine⟨_,SWk.drop (fun i=>i !=1020) (fun _=>true),hsl,?_⟩
  rw[qIt,qE3]
  rfl
 ·rintro _ _ rfl
  simp only[decS,qIC,qIB,qIA,qIz,qGk,List.cons_append,List.nil_append,push_cast,reduceIte,zA,zB,zC,zD,zE,zF,zG,reduceCtorEq,zH,zJ,cNI]at h29 ⊢
  exact h29
set_option maxHeartbeats 4000000 in
theorem qIF (g : Grid) (hg : GOk g) (l : List (List Nat)) (n : Nat) (hn : n = wN g + 1) (hl : l.length = n) (f : Int) (T : List (Nat × PV)) (hT : qhn [0, 126, 1, 2, 4, 7, 8] T = []) (Q : Exit -> St -> Prop)
  (hs: ∀x,x<=wN g->(datD l x).length=nW (qDv g x))
  (h29:awp (Env.of Tryz.prog) ac34_r29 Q ⟨decS l f,qIC g n (outC datW n (datD l) n),datA (qDT g (qCq g)) (cfP g l (qCq g)),[]⟩):
  awp (Env.of Tryz.prog) ac34_r18 Q ⟨[(1,.sl false 1 (rows (frmC false) l)),(2,.ptr 2 0),(4,.ptr 4 0),(7,.int f),(8,.ptr 8 0)]++T,decB g n (outC datW n (datD l) n),[],[]⟩:=by
 have hn' :=hg.n
 have hw2:=hn'.w2
 have hgw:=hg.w
 simp only[ac34_r18,hT,decB,push_cast,reduceIte,zA,zB,zC,zD,zE,zF,zG,reduceCtorEq,zH,zJ,cNI]
 refine qDS [] [109,111,113,115] (qIr g hg) rfl (by simp only[qDP,St.noTo,List.all_cons,List.all_nil,qhK,qGk];rfl) rfl ?_
 simp only[cfA,qGk,hl,List.cons_append,List.nil_append,List.length_replicate,push_cast,reduceIte,zA,zB,zC,zD,zE,zF,zG,reduceCtorEq,zH,zJ,cNI]
 refine⟨⟨oM,oM,oM⟩,?_⟩
 exact qIE g hg l n hn f Q hs .bot h29
end Go.Proofs.YtecoaapkcnhlhabGreatDoor
namespace Go.Proofs.YtecoaapkcnhlhabGreatDoor
open Go Go.Vc Go.Ham Txt
def qIG:PV:= .tup [.agg (cfgC true cfg0),.int 0,.int 380]
def cfV(g:Grid):List PV:=[.view 109 0 (cN g),.view 111 0 g.kind.length,.view 113 0 g.kind.length,.view 115 0 g.kind.length]
def qIH(g:Grid)(n:Nat)(C:List PV):List (Nat×List PV):=[(2,quX false g),(4,cfV g),(8,[.bv 31 1 n]),(16,cfV g),(17,[.view 74 0 n]),(18,[.clo 56 [8,17]]),(31,C),(102,quX false g),(103,[.ptr 16 0]),(105,[.int (qv1 g)]),(204,[.bot])]
theorem qII{l:List Int}{n:Nat}(h:l.length=n):l.take n=l:=zY oM
set_option maxHeartbeats 4000000 in
theorem qIJ (g : Grid) (hg : GOk g) (c : Cfg) (hc : CfgLn g c) (f : Int) (T : List (Nat × PV)) (hT : qhn [0, 126, 2, 4, 7, 16] T = []) (n : Nat) (C : List PV) (hC : ∀ pb pa, anyT pb pa C = false) (L : List Int) (Q : Exit -> St -> Prop)
  (hE:validE g c≠0-> ∀T B A,lk B 4=some [.nil,.nil,.nil,.nil]->Q .ret ⟨(4,.ptr 4 0)::(5,.int 0)::(6,.int 380)::T,B,A,[]⟩)
  (hQ:validE g c=0->Q .ret ⟨[(4,.ptr 4 0),(5,.int f),(6,.int 0),(7,.int f),(16,.ptr 16 0),(124,.agg (cfV g)),(125,.int f)],qIH g n C,datA L c,[]⟩):
  awp (Env.of Tryz.prog) ac34_r36 Q ⟨[(2,.ptr 2 0),(4,.ptr 4 0),(7,.int f),(8,.ptr 8 0),(16,.ptr 16 0)]++T,qIC g n C,datA L c,[]⟩:=by
 obtain⟨l1,l2,l3,l4⟩:=hc.lens
 have hv:=qyD g hg c (by have hw:=hg.wh;have hk:=hg.kind;have hc0:=hg.count;have hn:=hg.n;have hcc:=hn.c;exact⟨oM,oM,oM,oM⟩)
 simp only[ac34_r36,hT,qIC,qIA,qIz,datA,qII l1,qII l2,qII l3,qII l4,push_cast,reduceIte,zA,zB,zC,zD,zE,zF,zG,reduceCtorEq,zH,zJ,cNI]
 refine qrv hv (by exact⟨.refl _,.refl _,trivial⟩) ?_
 refine sB ?_
 refine qnY (fun h=> ?_) fun h=> ?_
 ·exact hE h _ _ _ rfl
 ·exact hQ (Classical.not_not.1 h)
set_option maxHeartbeats 4000000 in
theorem qIL (g : Grid) (hg : GOk g) (l : List (List Nat)) (n x : Nat) (hn : n = wN g + 1) (hx : x < n) (f : Int) (c : Cfg) (L : List Int) (hL : L.length = n) (hLx : L.getD x default = qDv g x) (hs : (datD l x).length = nW (qDv g x)) (Q : Exit -> St -> Prop)
  (hE: ¬qCd (datF l x) (qDv g x)-> ∀T B A,lk B 4=some [.nil,.nil,.nil,.nil]->Q .ret ⟨(4,.ptr 4 0)::(5,.int 0)::(6,.int 380)::T,B,A,[]⟩)
  (hQ:qCd (datF l x) (qDv g x)-> ∀T y,qhn [0,126,2,4,7,8,16,17,18,98,99] T=[]->Q .normal ⟨[(2,.ptr 2 0),(4,.ptr 4 0),(7,.int f),(8,.ptr 8 0),(16,.ptr 16 0),(17,.ptr 17 0),(18,.ptr 18 0),(22,.int x),(98,.int n),(99,.int x)]++T,qIC g n (outC datW n (datD l) n),datA (L.set x y) c,[]⟩) (T:List (Nat×PV)) (hT:qhn [0,126,2,4,7,8,16,17,18,98,99] T=[]):
  awp (Env.of Tryz.prog) ac34_r31 Q ⟨[(2,.ptr 2 0),(4,.ptr 4 0),(7,.int f),(8,.ptr 8 0),(16,.ptr 16 0),(17,.ptr 17 0),(18,.ptr 18 0),(98,.int n),(99,.int x)]++T,qIC g n (outC datW n (datD l) n),datA L c,[]⟩:=by
 have hw2:=hg.n.w2
 have hbd:qDv g x<=1000000000:=qE0 hg List.prefix_rfl x
 have hnw:=qIy (qDv g x)
 have hnw2:nW (qDv g x)<=100000000:=by unfold nW;omega
 have hnw3:57*nW (qDv g x)<=1000000056:=by unfold nW;omega
 have hcl:(outC datW n (datD l) n).length=n:=qGe _ _ _
 have hLs: ∀y,(L.set x y).getD x default=y:=fun y=>by rw[zK,List.getElem?_set_self oM];rfl
 have hLset: ∀y z,(L.set x y).set x z=L.set x z:=fun y z=>List.set_set ..
 have hL0:L.set x ((qDv g x:Nat):Int)=L:=by
  rw[<- hLx]
  apply List.ext_getElem (by simp)
  intro j h1 h2
  rw[List.getElem_set]
  split
  ·next e=>subst e;simp[zK,h2]
  ·rfl
 simp only[ac34_r31,hT,push_cast,reduceIte,zA,zB,zC,zD,zE,zF,zG,reduceCtorEq,zH,zJ,cNI]
 refine qoO (fun j st=> ∃p:Nat,qDv g x<=p/\p<=57*nW (qDv g x)/\j=57*nW (qDv g x)-p/\(∀q,qDv g x<=q->q<p->(unW (datF l x)).getD q false=false)/\st=⟨[(2,.ptr 2 0),(4,.ptr 4 0),(7,.int f),(8,.ptr 8 0),(16,.ptr 16 0),(17,.ptr 17 0),(18,.ptr 18 0),(22,.int x),(98,.int n),(99,.int x)],qIC g n (outC datW n (datD l) n),datA (L.set x p) c,[]⟩) (57*nW (qDv g x)-qDv g x) ⟨_,SWk.refl _,qDv g x,oM,oM,rfl,fun q h1 h2=>by omega,by simp only[push_cast,reduceIte,zA,zB,zC,zD,zE,zF,zG,reduceCtorEq,zH,zJ,cNI];rw[hL0]⟩ ?_
 rintro j st ⟨p,hp1,hp2,rfl,hz,rfl⟩
 have hcell:(outC datW n (datD l) n).getD x .bot=outP datW (datD l) x:=by
  simp only[outC,zK,zS,List.getElem?_range hx,Option.map_some,Option.getD_some,if_pos hx]
 have hlenV:lenV (outP datW (datD l) x)=(True,.int (nW (qDv g x):Nat)):=by
  unfold outP
  split
  ·next h=>rw[<- hs,h];rfl
  ·rw[<- hs];simp only[qF3,yG,push_cast,reduceIte,zA,zB,zC,zD,zE,zF,zG,reduceCtorEq,zH,zJ,cNI]
 simp only[qIC,qIA,qIz,datA,hcl,hcell,hlenV,hLs,hL,yF,List.cons_append,List.nil_append,Nat.mul_one,qFk,push_cast,reduceIte,zA,zB,zC,zD,zE,zF,zG,reduceCtorEq,zH,zJ,cNI]
 refine⟨⟨oM,oM⟩,hx,⟨oM,oM⟩,oM,⟨oM,oM⟩,qnY (fun h=> ?_) fun h=> ?_⟩
 ·have hp3:p<57*nW (qDv g x):=by omega
  have hq57:p/57<(datD l x).length:=by omega
  have hbit:(datW ((datD l x).getD (p/57) 0)).testBit (p%57)=(unW (datF l x)).getD p false:=(qIo l x p).resolve_right oM
  have hnx:=qIb (E:=Env.of Tryz.prog) rfl (Nat.zero_le _) (fun _ _ h=>h) (s:=[(2,.ptr 2 0),(4,.ptr 4 0),(7,.int f),(8,.ptr 8 0),(16,.ptr 16 0),(17,.ptr 17 0),(18,.ptr 18 0),(22,.int x),(98,.int n),(99,.int x),(113,.clo 56 [8,17]),(114,.int x)]) rfl n x hx oM (datD l) (qIC g n (outC datW n (datD l) n)) (datA (L.set x p) c) (L.set x p) [] rfl rfl rfl rfl (by rw[yF,hL]) p (hLs _) hq57 oM
  rw[hbit,hLset]at hnx
  refine qsP hnx ?_
  cases hv:(unW (datF l x)).getD p false with
  |false=>
    simp only[Bool.toNat_false,push_cast,reduceIte,zA,zB,zC,zD,zE,zF,zG,reduceCtorEq,zH,zJ,cNI]
    refine qnY (fun h=>absurd rfl h) fun _=> ?_
    refine⟨_,SWk.refl _,57*nW (qDv g x)-(p+1),oM,p+1,oM,oM,rfl,fun q h1 h2=> ?_,rfl⟩
    by_cases e:q=p
    ·rw[e];exact hv
    ·exact hz q h1 oM
  |true=>
    simp only[Bool.toNat_true,qIC,qIA,qIz,List.cons_append,List.nil_append,push_cast,reduceIte,zA,zB,zC,zD,zE,zF,zG,reduceCtorEq,zH,zJ,cNI]
    refine qnY (fun _=> ?_) fun h=>absurd (by decide) h
    refine hE (fun hr=> ?_) _ _ _ rfl
    have:=hr p hp1
    rw[hv]at this
    cases this
 ·obtain rfl:p=57*nW (qDv g x):=by omega
  refine hQ (fun q hq=> ?_) [(102,.view 74 0 n),(103,.int x),(104,.eptr 74 x 0),(105,.int (57*nW (qDv g x):Nat)),(106,.bv 31 1 n),(107,.int x),(108,.ptr 31 x),(109,outP datW (datD l) x),(110,.int (nW (qDv g x):Nat)),(111,.int (57*(nW (qDv g x):Nat))),(112,.bool (decide (((57*nW (qDv g x):Nat):Int)<57*(nW (qDv g x):Nat))))] _ rfl
  by_cases h2:q<57*nW (qDv g x)
  ·exact hz q hq h2
  ·rw[zK,List.getElem?_eq_none (by rw[qBR];unfold datF;rw[yG];have:(l.getD x []).length=nW (qDv g x):=hs;omega)]
   rfl
end Go.Proofs.YtecoaapkcnhlhabGreatDoor
namespace Go.Proofs.YtecoaapkcnhlhabGreatDoor
open Go Go.Vc Go.Ham Txt
set_option maxHeartbeats 400000 in
theorem qIM (g : Grid) (hg : GOk g) (l : List (List Nat)) (n : Nat) (hn : n = wN g + 1) (hl : l.length = n) (f : Int) (c : Cfg) (hc : CfgLn g c) (L : List Int) (hL : L.length = n) (hLx : ∀ x, x < n -> L.getD x default = qDv g x) (hs : ∀ x, x <= wN g -> (datD l x).length = nW (qDv g x)) (Q : Exit -> St -> Prop)
  (hE: ¬((∀x,x<wN g+1->qCd (datF l x) (qDv g x))/\validE g c=0)-> ∀T B A,lk B 4=some [.nil,.nil,.nil,.nil]->Q .ret ⟨(4,.ptr 4 0)::(5,.int 0)::(6,.int 380)::T,B,A,[]⟩)
  (hQ:(∀x,x<wN g+1->qCd (datF l x) (qDv g x))->validE g c=0-> ∀L',Q .ret ⟨[(4,.ptr 4 0),(5,.int f),(6,.int 0),(7,.int f),(16,.ptr 16 0),(124,.agg (cfV g)),(125,.int f)],qIH g n (outC datW n (datD l) n),datA L' c,[]⟩):
  awp (Env.of Tryz.prog) ac34_r29 Q ⟨decS l f,qIC g n (outC datW n (datD l) n),datA L c,[]⟩:=by
 have hw2:=hg.n.w2
 simp only[ac34_r29,decS,hl,push_cast,reduceIte,zA,zB,zC,zD,zE,zF,zG,reduceCtorEq,zH,zJ,cNI]
 refine qoO (fun j st=> ∃(k:Nat) (L' :List Int),k<=n/\j=n-k/\L'.length=n/\(∀x,k<=x->x<n->L'.getD x default=qDv g x)/\(∀x,x<k->qCd (datF l x) (qDv g x))/\st=⟨[(2,.ptr 2 0),(4,.ptr 4 0),(7,.int f),(8,.ptr 8 0),(16,.ptr 16 0),(17,.ptr 17 0),(18,.ptr 18 0),(98,.int n),(99,.int k)],qIC g n (outC datW n (datD l) n),datA L' c,[]⟩) n ⟨_,SWk.refl _,0,L,oM,oM,hL,fun x _ h=>hLx x h,fun x h=>absurd h (Nat.not_lt_zero _),by simp only[push_cast,reduceIte,zA,zB,zC,zD,zE,zF,zG,reduceCtorEq,zH,zJ,cNI]⟩ ?_
 rintro j st ⟨k,L',hk,rfl,hL',hLk,hz,rfl⟩
 refine sB ?_
 refine qnY (fun h=> ?_) fun h=> ?_
 ·have hk' :k<n:=by omega
  have e1:=hLk k oM hk'
  have e2:=hs k oM
  refine qIL g hg l n k hn hk' f c L' hL' e1 e2 _ ?_ ?_ [(100,.bool (decide ((k:Int)<n)))] ?_
  ·exact fun hr T B A h=>hE (fun hh=>hr (hh.1 k oM)) T B A h
  ·intro hr T y hT
   simp only[List.cons_append,List.nil_append,qhr,hT,push_cast,reduceIte,zA,zB,zC,zD,zE,zF,zG,reduceCtorEq,zH,zJ,cNI]
   refine⟨⟨oM,oM⟩,_,SWk.refl _,n-(k+1),oM,k+1,L'.set k y,oM,rfl,by rw[yF,hL'],fun x h1 h2=> ?_,fun x h1=> ?_,rfl⟩
   ·have:=hLk x oM h2
    rw[zK,List.getElem?_set_ne oM,<- zK]
    exact this
   ·by_cases e:x=k
    ·rw[e];exact hr
    ·exact hz x oM
  ·exact sC
 ·obtain rfl:k=n:=by omega
  refine qIJ g hg c hc f [(17,.ptr 17 0),(18,.ptr 18 0),(98,.int k),(99,.int k),(100,.bool (decide ((k:Int)<k)))] sC k _ (fun _ _=>qGk _ _ _ _) L' Q (fun hv T B A h=>hE (fun hh=>hv hh.2) T B A h) fun hv=> ?_
  exact hQ (fun x hx=>hz x oM) hv L'
end Go.Proofs.YtecoaapkcnhlhabGreatDoor
namespace Go.Proofs.YtecoaapkcnhlhabGreatDoor
open Go Go.Vc Go.Ham Txt
def qIN(g:Grid)(l:List (List Nat)):PV:= .tup [.agg (cfgC true (decC g fun x=>unW (datF l x))),.int (cntF l:Nat),.int 0]
theorem qIO(g:Grid)(l:List (List Nat)):qGR l=(qDw g).map Int.ofNat ↔ l.map List.length=qDw g:=by
 have e:qGR l=(l.map List.length).map Int.ofNat:=by unfold qGR;rw[List.map_map];rfl
 rw[e]
 constructor
 ·intro h
  have hi:Function.Injective Int.ofNat:=fun a b h=>Int.ofNat.inj h
  exact(List.map_inj_right fun a b h=>hi h).1 h
 ·intro h;rw[h]
theorem qIP(g:Grid):(qDw g).length=wN g+1:=by simp[qDw]
theorem qIQ{g:Grid}{l:List (List Nat)}(h:l.map List.length=qDw g){x:Nat}(hx:x<=wN g):(datD l x).length=nW (qDv g x):=by
 have hl:l.length=wN g+1:=by have:=congrArg List.length h;simpa[qDw]using this
 have:=congrArg (fun l=>l[x]?) h
 simp only[qDw,zS,List.getElem?_range (show x<wN g+1 by omega),Option.map_some]at this
 rw[zL oM]at this
 unfold datD
 rw[zK,zL oM]
 simpa using this
theorem qIR{g:Grid}(hg:GOk g)(l:List (List Nat)):CfgLn g (cfP g l (qCq g)):=(qDr hg (strB l)).1
set_option maxHeartbeats 1000000 in
theorem qIS(g:Grid)(hg:GOk g)(l:List (List Nat))(hl:FrmSm l)(r:PV)(hp:r=qIN g l\/r=qIG)(h1:Dec38 g l->r=qIN g l)(h2: ¬Dec38 g l->r=qIG):FnEq Tryz.prog 34 [.agg (quX false g),.sl false 1 (rows (frmC false) l)] r:=by
 have hsz:=qEd g hg
 have hw2:=hg.n.w2
 have heq:=qGU l hl ((qDw g).map Int.ofNat) (by rw[yG,qIP];omega)
 have hP:Perm r:=by
  rcases hp with rfl|rfl
  ·unfold qIN;simp only[push_cast,reduceIte,zA,zB,zC,zD,zE,zF,zG,reduceCtorEq,zH,zJ,cNI];exact⟨fun _ _=>trivial,fun _ _=>trivial,fun _ _=>trivial,fun _ _=>trivial⟩
  ·unfold qIG;simp only[cfg0,push_cast,reduceIte,zA,zB,zC,zD,zE,zF,zG,reduceCtorEq,zH,zJ,cNI];simp
 refine FnEq.of_awp Tryz.func34 ok34 (by show 2<=_;decide) hP ?_
 have hE: ¬Dec38 g l-> ∀T B A,lk B 4=some [.nil,.nil,.nil,.nil]->retK [RV.cell 4 true 4,RV.tmp 5,RV.tmp 6] (fun x=>Sub x r) .ret ⟨(4,.ptr 4 0)::(5,.int 0)::(6,.int 380)::T,B,A,[]⟩:=by
  intro hn T B A hB
  rw[h2 hn]
  unfold qIG
  simp only[cfg0,hB,push_cast,reduceIte,zA,zB,zC,zD,zE,zF,zG,reduceCtorEq,zH,zJ,cNI]
  done
 simp only[ac34,rv34,push_cast,reduceIte,zA,zB,zC,zD,zE,zF,zG,reduceCtorEq,zH,zJ,cNI]
 refine qrv hsz sC ?_
 refine sB ?_
 refine qrv heq sC ?_
 refine sB ?_
 refine qnX (fun h=> ?_) fun h=> ?_
 ·have hne: ¬qGR l=(qDw g).map Int.ofNat:=by simpa using h
  rw[h2 fun h=>hne ((qIO g l).2 h.size)]
  unfold qIG
  simp only[cfg0,push_cast,reduceIte,zA,zB,zC,zD,zE,zF,zG,reduceCtorEq,zH,zJ,cNI]
 ·have hss:l.map List.length=qDw g:=(qIO g l).1 (by simpa using h)
  have hlen:l.length=wN g+1:=by have:=congrArg List.length hss;simpa[qDw]using this
  have hat:=fun x hx=>qIQ (g:=g) hss (x:=x) hx
  have hdn:=hlen
  refine qHR g l hl _ (fun hb C' A=> ?_) ?_ [(23,.sl false 1 (rows (frmC false) l)),(24,.agg (quX false g)),(25,.sl true 1 (ints ((qDw g).map Int.ofNat))),(26,.bool (decide (qGR l=(qDw g).map Int.ofNat))),(27,.bool (!decide (qGR l=(qDw g).map Int.ofNat)))] rfl
  ·refine hE (fun hd=> ?_) [(54,.agg [.nil,.nil,.nil,.nil])] _ _ ?_
   ·obtain⟨ws,hw,hx⟩:=List.all_eq_false.1 hb
    exact hx (hd.ok ws hw)
   ·rfl
  ·intro hok T hT
   rw[hlen]
   refine qIF g hg l (wN g+1) rfl hlen (cntF l:Nat) T hT _ (fun x hx=>hat x hx) ?_
   refine qIM g hg l (wN g+1) rfl hlen (cntF l:Nat) (cfP g l (qCq g)) (qIR hg l) (qDT g (qCq g)) (qE1 g _) (fun x hx=>qE2 oM _) (fun x hx=>hat x hx) _ ?_ ?_
   ·intro hn T B A hB
    exact hE (fun hd=>hn ⟨hd.rest,hd.valid⟩) T B A hB
   ·intro hr hv L'
    have hD:Dec38 g l:=⟨hss,fun ws hw=>yE.1 hok ws hw,hr,hv⟩
    obtain⟨l1,l2,l3,l4⟩:=(qIR hg l).lens
    rw[h1 hD]
    unfold qIN
    rw[<- qIs]
    simp only[qIH,cfV,datA,qII l1,qII l2,qII l3,qII l4,qGk,push_cast,reduceIte,zA,zB,zC,zD,zE,zF,zG,reduceCtorEq,zH,zJ,cNI]
    exact⟨fun _ _=>trivial,fun _ _=>trivial,fun _ _=>trivial,fun _ _=>trivial⟩
end Go.Proofs.YtecoaapkcnhlhabGreatDoor
namespace Go.Proofs.YtecoaapkcnhlhabGreatDoor.Txt
open Go Go.Vc
set_option maxRecDepth 100000
def ac9:AC:=
 (.seq (.reg [0,16,0,1] [
 (aO 2 (.box (.t 0))),(aO 3 (.box (.t 1))),(aO 4 (.alc [.nil,zI]))])
 (.seq (.reg [0,16,2,3,4] [
 (aO 8 (.ld true 5 (.t 2))),(aO 9 (.ld true 4 (.t 3))),(aO 10 (.cal 26 [(.t 8),(.t 9)])),(aO 7 (.mv (.t 10))),(aO 11 (.ext (.t 7) 0)),(aO 12 (.ext (.t 7) 1)),(aO 5 (.mv (.t 11))),(aO 6 (.mv (.t 12)))])
 (.seq (.reg [0,16,4,5,6] [
 (aO 13 (.mv (.t 5))),(aO 14 (.mv (.t 6))),(aO 15 (.bld [.nil,zI] [(0,1,(.t 13)),(1,1,(.t 14))])),(aN (.sto 2 (.t 4) (.t 15)))])
 .ret)))
def rv9:List RV:=[.cell 4 true 2]
theorem ok9:fnOk Tryz.prog ac9 rv9 Tryz.f9=true:=by kernel_rfl

def ac15:AC:=
 (.seq (.reg [0,19,0,1] [
 (aO 2 (.box (.t 0))),(aO 4 (.alc [.nil,.nil,.nil,.nil,zI,zI]))])
 (.seq (.reg [0,19,1,2,4] [
 (aO 9 (.ld true 5 (.t 2))),(aO 10 (.mv (.t 1))),(aO 11 (.cal 34 [(.t 9),(.t 10)])),(aO 8 (.mv (.t 11))),(aO 12 (.ext (.t 8) 0)),(aO 13 (.ext (.t 8) 1)),(aO 14 (.ext (.t 8) 2)),(aO 5 (.alc [.nil,.nil,.nil,.nil])),(aN (.sto 4 (.t 5) (.t 12))),(aO 6 (.mv (.t 13))),(aO 7 (.mv (.t 14)))])
 (.seq (.reg [0,19,4,5,6,7] [
 (aO 15 (.ld true 4 (.t 5))),(aO 16 (.mv (.t 6))),(aO 17 (.mv (.t 7))),(aO 18 (.bld [.nil,.nil,.nil,.nil,zI,zI] [(0,4,(.t 15)),(4,1,(.t 16)),(5,1,(.t 17))])),(aN (.sto 6 (.t 4) (.t 18)))])
 .ret)))
def rv15:List RV:=[.cell 4 true 6]
theorem ok15:fnOk Tryz.prog ac15 rv15 Tryz.f15=true:=by kernel_rfl

def ac18:AC:=
 (.seq (.reg [0,16,0,1] [
 (aO 3 (.box (.t 1))),(aO 4 (.alc [.nil,zI]))])
 (.seq (.reg [0,16,0,3,4] [
 (aO 8 (.mv (.t 0))),(aO 9 (.ld true 3 (.t 3))),(aO 10 (.cal 37 [(.t 8),(.t 9)])),(aO 7 (.mv (.t 10))),(aO 11 (.ext (.t 7) 0)),(aO 12 (.ext (.t 7) 1)),(aO 5 (.mv (.t 11))),(aO 6 (.mv (.t 12)))])
 (.seq (.reg [0,16,4,5,6] [
 (aO 13 (.mv (.t 5))),(aO 14 (.mv (.t 6))),(aO 15 (.bld [.nil,zI] [(0,1,(.t 13)),(1,1,(.t 14))])),(aN (.sto 2 (.t 4) (.t 15)))])
 .ret)))
def rv18:List RV:=[.cell 4 true 2]
theorem ok18:fnOk Tryz.prog ac18 rv18 Tryz.f18=true:=by kernel_rfl

def ac19:AC:=
 (.seq (.reg [0,16,0] [
 (aO 2 (.alc [.nil,zI,.nil]))])
 (.seq (.reg [0,16,0,2] [
 (aO 7 (.mv (.t 0))),(aO 8 (.cal 38 [(.t 7)])),(aO 6 (.mv (.t 8))),(aO 9 (.ext (.t 6) 0)),(aO 10 (.ext (.t 6) 1)),(aO 11 (.ext (.t 6) 2)),(aO 3 (.mv (.t 9))),(aO 4 (.mv (.t 10))),(aO 5 (.mv (.t 11)))])
 (.seq (.reg [0,16,2,3,4,5] [
 (aO 12 (.mv (.t 3))),(aO 13 (.mv (.t 4))),(aO 14 (.mv (.t 5))),(aO 15 (.bld [.nil,zI,.nil] [(0,1,(.t 12)),(1,1,(.t 13)),(2,1,(.t 14))])),(aN (.sto 3 (.t 2) (.t 15)))])
 .ret)))
def rv19:List RV:=[.cell 2 true 3]
theorem ok19:fnOk Tryz.prog ac19 rv19 Tryz.f19=true:=by kernel_rfl

def ac5:AC:=
 (.seq (.reg [0,19,0] [
 (aO 1 (.box (.t 0))),(aO 2 (.mv (.c (.sc (.bool false)))))])
 (.seq (.rgs [
 ([0,19,1],[
 (aO 3 (.fa 0 (.t 1))),(aO 4 (.ld false 1 (.t 3))),(aO 5 (.dvd .rem true .u8 (.t 4) (.c (.sc (.int .u8 4))))),(aO 6 (.cmp .lss .u8 (.t 5) (.c (.sc (.int .u8 3))))),(aO 7 (.mv (.t 6))),⟨some 8,some (7,true),.fa 1 (.t 1)⟩,⟨some 9,some (7,true),.ld false 1 (.t 8)⟩,⟨some 10,some (7,true),.dvd .rem true .u8 (.t 9) (.c (.sc (.int .u8 4)))⟩,⟨some 11,some (7,true),.cmp .lss .u8 (.t 10) (.c (.sc (.int .u8 3)))⟩,(aO 12 (.pick (.t 7) (.t 11) (.c (.sc (.bool false))))),(aO 13 (.mv (.t 12))),⟨some 14,some (13,true),.fa 4 (.t 1)⟩]),([0,19,13,14],[
 ⟨some 15,some (13,true),.ld false 1 (.t 14)⟩,⟨some 16,some (13,true),.len (.t 15)⟩,⟨some 17,some (13,true),.cmp .leq .i64 (.t 16) (kI 40)⟩,(aO 18 (.pick (.t 13) (.t 17) (.c (.sc (.bool false))))),(aO 2 (.mv (.t 18)))])])
 .ret))
def rv5:List RV:=[.tmp 2]
theorem ok5:fnOk Tryz.prog ac5 rv5 Tryz.f5=true:=by kernel_rfl
end Go.Proofs.YtecoaapkcnhlhabGreatDoor.Txt
namespace Go.Proofs.YtecoaapkcnhlhabGreatDoor
open Go Go.Vc Go.Ham Txt
def fmdC(q:Bool)(L:List (List Nat))(e:Int):List PV:=[.sl q 1 (rows (frmC q) L),.int e]
@[push_cast] theorem qIT(q:Bool)(L:List (List Nat))(e:Int):fmdC q L e=[.sl q 1 (rows (frmC q) L),.int e]:=rfl
noncomputable def encL (g:Grid) (c:Cfg):List (List Nat):=if validE g c=0 then qDx g c else[]
noncomputable def encE (g:Grid) (c:Cfg):Int:=if validE g c=0 then 0 else 310
theorem qIU(g:Grid)(hg:GOk g)(c:Cfg)(hs:CfgSm c):FnEq Tryz.prog 9 [.agg (quX false g),.agg (cfgC false c)] (.agg (fmdC true (encL g c) (encE g c))):=by
 unfold encL encE
 by_cases h:validE g c=0
 ·rw[if_pos h,if_pos h]
  have he:=qGv g hg c hs h
  refine FnEq.of_awp Tryz.func9 ok9 (by show 2<=_;decide) (by simp only[push_cast,reduceIte,zA,zB,zC,zD,zE,zF,zG,reduceCtorEq,zH,zJ,cNI];simp) ?_
  simp only[ac9,rv9,push_cast,reduceIte,zA,zB,zC,zD,zE,zF,zG,reduceCtorEq,zH,zJ,cNI]
  refine qrv he sC ?_
  refine sB ?_
  exact fun _ _ _ _=>trivial
 ·rw[if_neg h,if_neg h]
  have he:=qFF g hg c hs h
  refine FnEq.of_awp Tryz.func9 ok9 (by show 2<=_;decide) (by simp only[push_cast,reduceIte,zA,zB,zC,zD,zE,zF,zG,reduceCtorEq,zH,zJ,cNI];simp) ?_
  simp only[ac9,rv9,push_cast,reduceIte,zA,zB,zC,zD,zE,zF,zG,reduceCtorEq,zH,zJ,cNI]
  refine qrv he sC ?_
  simp only[rows,List.map_nil,push_cast,reduceIte,zA,zB,zC,zD,zE,zF,zG,reduceCtorEq,zH,zJ,cNI]
def fldF(l:List (List Nat))(f:FlipA):List (List Nat):=if qHz l f then qHe l f.x.toNat f.k.toNat f.b.toNat else[]
def fldE(l:List (List Nat))(f:FlipA):Int:=if qHz l f then 0 else 1
theorem qIV(l:List (List Nat))(hl:FrmSm l)(f:FlipA):FnEq Tryz.prog 18 [.sl false 1 (rows (frmC false) l),.agg (qHx f)] (.agg (fmdC true (fldF l f) (fldE l f))):=by
 have he:=qHB l hl f
 unfold qHA at he
 unfold fldF fldE
 refine FnEq.of_awp Tryz.func18 ok18 (by show 2<=_;decide) (by simp only[push_cast,reduceIte,zA,zB,zC,zD,zE,zF,zG,reduceCtorEq,zH,zJ,cNI];simp) ?_
 simp only[ac18,rv18,push_cast,reduceIte,zA,zB,zC,zD,zE,zF,zG,reduceCtorEq,zH,zJ,cNI]
 split at he
 ·next h=>
  simp only[if_pos h]
  refine qrv he sC ?_
  refine sB ?_
  exact fun _ _ _ _=>trivial
 ·next h=>
  simp only[if_neg h]
  refine qrv he sC ?_
  simp only[rows,List.map_nil,push_cast,reduceIte,zA,zB,zC,zD,zE,zF,zG,reduceCtorEq,zH,zJ,cNI]
def scdC(q:Bool)(L:List (List Nat))(n:Int)(bad:List Int):List PV:=[.sl q 1 (rows (frmC q) L),.int n,.sl q 1 (ints bad)]
@[push_cast] theorem qIW(q:Bool)(L:List (List Nat))(n:Int)(bad:List Int):scdC q L n bad=[.sl q 1 (rows (frmC q) L),.int n,.sl q 1 (ints bad)]:=rfl
theorem qIX(l:List (List Nat))(hl:FrmSm l):FnEq Tryz.prog 19 [.sl false 1 (rows (frmC false) l)] (.agg (scdC true (scrF l) (cntF l:Nat) (badN l l.length))):=by
 have he:=qI9 l hl
 unfold scrV at he
 refine FnEq.of_awp Tryz.func19 ok19 (by show 1<=_;decide) (by simp only[push_cast,reduceIte,zA,zB,zC,zD,zE,zF,zG,reduceCtorEq,zH,zJ,cNI];simp) ?_
 simp only[ac19,rv19,push_cast,reduceIte,zA,zB,zC,zD,zE,zF,zG,reduceCtorEq,zH,zJ,cNI]
 refine qrv he sC ?_
 refine sB ?_
 exact⟨fun _ _ _ _=>trivial,fun _ _=>trivial⟩
def dcdC(q:Bool)(c:Cfg)(n e:Int):List PV:=cfgC q c++[.int n,.int e]
@[push_cast] theorem qIY(q:Bool)(c:Cfg)(n e:Int):dcdC q c n e=[.sl q 1 (ints c.sel),.sl q 1 (ints c.mode),.sl q 1 (ints c.tab),.sl q 1 (ints c.ram),.int n,.int e]:=rfl
def decG(g:Grid)(l:List (List Nat)):Cfg:=decC g fun x=>unW (datF l x)
theorem qIZ(g:Grid)(hg:GOk g)(l:List (List Nat))(hl:FrmSm l)(h:Dec38 g l):FnEq Tryz.prog 15 [.agg (quX false g),.sl false 1 (rows (frmC false) l)] (.agg (dcdC true (decG g l) (cntF l:Nat) 0)):=by
 have he:=qIS g hg l hl (qIN g l) (.inl rfl) (fun _=>rfl) (fun hn=>absurd h hn)
 unfold qIN at he
 refine FnEq.of_awp Tryz.func15 ok15 (by show 2<=_;decide) (by simp only[push_cast,reduceIte,zA,zB,zC,zD,zE,zF,zG,reduceCtorEq,zH,zJ,cNI];simp) ?_
 simp only[ac15,rv15,push_cast,reduceIte,zA,zB,zC,zD,zE,zF,zG,reduceCtorEq,zH,zJ,cNI]
 refine qrv he sC ?_
 refine sB ?_
 unfold decG
 exact⟨⟨fun _ _=>trivial,fun _ _=>trivial,fun _ _=>trivial,fun _ _=>trivial⟩,.refl _,.refl _,.refl _,.refl _⟩
theorem qJ0(g:Grid)(hg:GOk g)(l:List (List Nat))(hl:FrmSm l)(h: ¬Dec38 g l):FnEq Tryz.prog 15 [.agg (quX false g),.sl false 1 (rows (frmC false) l)] (.agg (dcdC true cfg0 0 380)):=by
 have he:=qIS g hg l hl qIG (.inr rfl) (fun hn=>absurd hn h) (fun _=>rfl)
 unfold qIG at he
 refine FnEq.of_awp Tryz.func15 ok15 (by show 2<=_;decide) (by simp only[cfg0,push_cast,reduceIte,zA,zB,zC,zD,zE,zF,zG,reduceCtorEq,zH,zJ,cNI];simp) ?_
 simp only[ac15,rv15,push_cast,reduceIte,zA,zB,zC,zD,zE,zF,zG,reduceCtorEq,zH,zJ,cNI]
 refine qrv he (by simp only[cfg0,push_cast,reduceIte,zA,zB,zC,zD,zE,zF,zG,reduceCtorEq,zH,zJ,cNI]) ?_
 simp only[cfg0,push_cast,reduceIte,zA,zB,zC,zD,zE,zF,zG,reduceCtorEq,zH,zJ,cNI]
 exact fun _ _=>trivial
theorem qJ1(x:RawG)(hx:x.By):FnEq Tryz.prog 5 [.agg (qyQ false x)] (.bool (decide (x.w%4<3/\x.h%4<3/\x.kind.length<=40))):=by
 have h1:=hx.w
 have h2:=hx.h
 refine FnEq.of_awp Tryz.func5 ok5 (by show 1<=_;decide) (by simp only[push_cast,reduceIte,zA,zB,zC,zD,zE,zF,zG,reduceCtorEq,zH,zJ,cNI]<;>first|exact fun _ _=>trivial|simp) ?_
 simp only[ac5,rv5,push_cast,reduceIte,zA,zB,zC,zD,zE,zF,zG,reduceCtorEq,zH,zJ,cNI]
 refine⟨⟨h1.1,h1.2,by decide⟩,?_⟩
 refine qrz rfl (fun h3=> ?_) fun h3=> ?_<;>simp only[push_cast,reduceIte,zA,zB,zC,zD,zE,zF,zG,reduceCtorEq,zH,zJ,cNI]
 ·refine⟨⟨h2.1,h2.2,by decide⟩,?_⟩
  refine qrz rfl (fun h4=> ?_) fun h4=> ?_<;>simp only[push_cast,reduceIte,zA,zB,zC,zD,zE,zF,zG,reduceCtorEq,zH,zJ,cNI]
  ·congr 1;rw[decide_eq_decide];omega
  ·rw[decide_eq_false oM]
 ·rw[decide_eq_false oM]
end Go.Proofs.YtecoaapkcnhlhabGreatDoor
namespace Go.Proofs.YtecoaapkcnhlhabGreatDoor
open Go Go.Vc Go.Ham Txt
theorem qJ2{g:Grid}(hg:GOk g){c:Cfg}(hc:validE g c=0):Dec38 g (qDx g c)/\decG g (qDx g c)=c:=
 qDH hg hc (qDJ g c) (fun ws hws=>yE.2 fun w hw=>by rw[qDM hws hw];rfl) fun x hx=>qDN hx
theorem qJ3{g:Grid}(hg:GOk g){c:Cfg}(hc:validE g c=0){m:List (List Nat)}(h:Near (qDx g c) m):Dec38 g m/\decG g m=c/\scrF m=qDx g c/\ ∀ws∈m,qDy ws=true:=by
 obtain⟨h1,h2,h3⟩:=qHw (qDL g c) (fun ws hws w hw=>qDM hws hw) h
 obtain⟨a,b⟩:=qDH hg hc (l:=m) (by rw[h.size];exact qDJ g c) h1 fun x hx=>by rw[h2 x];exact qDN hx
 exact⟨a,b,h3,h1⟩
theorem qJ4{l:List (List Nat)}(h: ∀ws∈l,qDy ws=true):badN l l.length=[]:=by
 unfold badN
 have:(List.range l.length).filter (fun x=> !qDy (l.getD x []))=[]:=by
  rw[List.filter_eq_nil_iff]
  intro x hx
  have hx:=List.mem_range.1 hx
  rw[zK,zL hx]
  simp[h _ (List.getElem_mem hx)]
 rw[this];rfl
def gE:Grid:=⟨1,1,1,0,[1]⟩
def cE0:Cfg:=⟨[0,0,0,0,0,0,0,0],[0],[0],[0]⟩
def cE1:Cfg:=⟨[0,0,1,0,0,0,0,0],[0],[0],[0]⟩
theorem qJ5:GOk gE:=⟨by decide,by decide,by decide,by decide,by decide⟩
theorem rE:(List.range 8).map (fun n:Nat=>(rdrF gE (n:Int)).length)=[0,0,2,2,2,2,3,3]:=by decide+kernel
theorem nbE:(List.range 8).map (fun n:Nat=>qCj gE n)=[0,0,2,2,2,2,2,2]:=by
 have h:(fun n:Nat=>qCj gE n)=fun n:Nat=>Go.Lib.bitLen (rdrF gE (n:Int)).length:=by
  funext n;unfold qCj;rw[qy3 qJ5]
 rw[h,show(fun n:Nat=>Go.Lib.bitLen (rdrF gE (n:Int)).length)=Go.Lib.bitLen ∘ fun n:Nat=>(rdrF gE (n:Int)).length from rfl,<- List.map_map,rE]
 decide
def fE:List Fld:=[⟨0,0,0,0⟩,⟨0,0,1,0⟩,⟨0,0,2,2⟩,⟨0,0,3,2⟩,⟨0,0,4,2⟩,⟨0,0,5,2⟩,⟨0,0,6,2⟩,⟨0,0,7,2⟩,⟨0,1,0,2⟩,⟨0,2,0,16⟩,⟨0,3,0,8⟩]
theorem qJ6:qCk gE 0 0 8=[⟨0,0,0,0⟩,⟨0,0,1,0⟩,⟨0,0,2,2⟩,⟨0,0,3,2⟩,⟨0,0,4,2⟩,⟨0,0,5,2⟩,⟨0,0,6,2⟩,⟨0,0,7,2⟩]:=by
 have h:=nbE
 simp only[List.range,List.range.loop,zW,List.map_nil,List.cons.injEq]at h
 obtain⟨h0,h1,h2,h3,h4,h5,h6,h7,-⟩:=h
 simp only[qCk,List.range,List.range.loop,zW,List.map_nil,Nat.zero_add,h0,h1,h2,h3,h4,h5,h6,h7]
theorem qJ7:qCq gE=fE:=by
 have h:qCq gE=qCk gE 0 0 8++qCl 0 0:=by
  show qCo gE 1++qCk gE 1 8 0=_
  rw[show qCo gE 1=qCn gE 0 1 from by simp[qCo,List.range_succ,show hN gE=1 from rfl],show qCn gE 0 1=qCm gE 0 0 from by simp[qCn,List.range_succ],qCm]
  rfl
 rw[h,qJ6];rfl
theorem vE{c:Cfg}(h0:qyw gE c)(h1: ∀i,i<c.sel.length->c.sel.getD i 0≠0->i=2/\c.sel.getD 2 0=1)(h2: ∀t,t<gE.kind.length->qyy gE c t):validE gE c=0:=
 qyz h0 (fun i hi h=>by
  obtain⟨rfl,h3⟩:=h1 i hi h
  rw[h3,qy3 qJ5]
  decide+kernel) h2
theorem vE0:validE gE cE0=0:=vE (by decide+kernel) (by decide) (by decide)
theorem vE1:validE gE cE1=0:=vE (by decide+kernel) (by decide) (by decide)
theorem vEn:validE gE cfg0≠0:=by rw[qyA (by decide+kernel)];decide
theorem eE0:qDx gE cE0=[[0],[]]:=by
 unfold qDx
 rw[qJ7]
 decide+kernel
theorem eE1:qDx gE cE1=[[15],[]]:=by
 unfold qDx
 rw[qJ7]
 decide+kernel
theorem szE:qDw gE=[1,0]:=by
 unfold qDw qDv
 rw[qJ7]
 decide+kernel
theorem qJ8:Near [[15],[]] [[9223372036854775823],[]]:=by
 have h:=(Near.refl [[15],[]]).flip (x:=0) (k:=0) (b:=63) ⟨by decide,by decide⟩ (by decide) rfl
 exact h
theorem dgE:digF [[0],[]]≠digF [[15],[]]:=by decide+kernel
theorem dfE:qGz [[0],[]] [[15],[]]=[0]:=by decide
end Go.Proofs.YtecoaapkcnhlhabGreatDoor
namespace Go.Proofs.YtecoaapkcnhlhabGreatDoor.Txt
open Go Go.Vc
set_option maxRecDepth 100000
def ac4:AC:=
 (.seq (.reg [0,171] [
 (aO 0 (.mv (.c (.sc (.bool false)))))])
 (.seq (.reg [0,171] [
 (aO 10 (.bsl 1 3 [zI] 1 [(0,(kI 1))])),(aO 11 (.bld [zI,zI,zI,zI,.nil] [(0,1,(kI 1)),(1,1,(kI 1)),(2,1,(kI 1)),(4,1,(.t 10))])),(aO 1 (.alc [zI,zI,zI,zI,.nil])),(aN (.sto 5 (.t 1) (.t 11)))])
 (.seq (.reg [0,171,1] [
 (aO 12 (.mks 1 3 8 [zI] (kI 8) (kI 8))),(aO 13 (.bsl 1 3 [zI] 1 [(0,(kI 0))])),(aO 14 (.bsl 1 3 [zI] 1 [(0,(kI 0))])),(aO 15 (.bsl 1 3 [zI] 1 [(0,(kI 0))])),(aO 16 (.bld [.nil,.nil,.nil,.nil] [(0,1,(.t 12)),(1,1,(.t 13)),(2,1,(.t 14)),(3,1,(.t 15))])),(aO 2 (.alc [.nil,.nil,.nil,.nil])),(aN (.sto 4 (.t 2) (.t 16)))])
 (.seq (.reg [0,171,1,2] [
 (aO 17 (.ld true 5 (.t 1))),(aO 18 (.ld true 4 (.t 2))),(aO 19 (.cal 9 [(.t 17),(.t 18)])),(aO 3 (.alc [.nil,zI])),(aN (.sto 2 (.t 3) (.t 19)))])
 (.seq (.reg [0,171,1,2,3] [
 (aO 20 (.bsl 1 3 [zI] 8 [(0,(kI 0)),(1,(kI 0)),(2,(kI 1)),(3,(kI 0)),(4,(kI 0)),(5,(kI 0)),(6,(kI 0)),(7,(kI 0))])),(aO 21 (.fa 0 (.t 2))),(aN (.sto 1 (.t 21) (.t 20)))])
 (.seq (.reg [0,171,1,2,3] [
 (aO 22 (.ld true 5 (.t 1))),(aO 23 (.ld true 4 (.t 2))),(aO 24 (.cal 9 [(.t 22),(.t 23)])),(aO 4 (.alc [.nil,zI])),(aN (.sto 2 (.t 4) (.t 24)))])
 (.seq (.reg [0,171,1,2,3,4] [
 (aO 25 (.ld true 5 (.t 1))),(aO 26 (.fa 0 (.t 4))),(aO 27 (.ld false 1 (.t 26))),(aO 28 (.cal 15 [(.t 25),(.t 27)])),(aO 5 (.alc [.nil,.nil,.nil,.nil,zI,zI])),(aN (.sto 6 (.t 5) (.t 28)))])
 (.seq (.seq (.rgs [
 ([0,171,1,2,3,4,5],[
 (aO 29 (.fa 1 (.t 3))),(aO 30 (.ld false 1 (.t 29))),(aO 31 (.cmp .neq .i64 (.t 30) (kI 0))),(aO 32 (.mv (.t 31))),⟨some 33,some (32,false),.fa 0 (.t 3)⟩,⟨some 34,some (32,false),.ld false 1 (.t 33)⟩,⟨some 35,some (32,false),.bsl 1 52 [.sc (.int .u64 0)] 1 [(0,(.c (.sc (.int .u64 0))))]⟩,⟨some 36,some (32,false),.bld [.nil] [(0,1,(.t 35))]⟩,⟨some 37,some (32,false),.bld [.nil] []⟩,⟨some 38,some (32,false),.bsl 1 55 [.nil] 2 [(0,(.t 36)),(1,(.t 37))]⟩,⟨some 39,some (32,false),.cal 11 [(.t 34),(.t 38)]⟩,⟨some 40,some (32,false),.not (.t 39)⟩]),([0,171,1,2,3,4,5,32,40],[
 (aO 41 (.pick (.t 32) (.c (.sc (.bool true))) (.t 40))),(aO 42 (.mv (.t 41))),⟨some 43,some (42,false),.fa 1 (.t 4)⟩,⟨some 44,some (42,false),.ld false 1 (.t 43)⟩,⟨some 45,some (42,false),.cmp .neq .i64 (.t 44) (kI 0)⟩,(aO 46 (.pick (.t 42) (.c (.sc (.bool true))) (.t 45))),(aO 47 (.mv (.t 46))),⟨some 48,some (47,false),.fa 0 (.t 4)⟩,⟨some 49,some (47,false),.ld false 1 (.t 48)⟩,⟨some 50,some (47,false),.bsl 1 52 [.sc (.int .u64 0)] 1 [(0,(.c (.sc (.int .u64 15))))]⟩,⟨some 51,some (47,false),.bld [.nil] [(0,1,(.t 50))]⟩,⟨some 52,some (47,false),.bld [.nil] []⟩]),([0,171,1,2,3,4,5,47,49,51,52],[
 ⟨some 53,some (47,false),.bsl 1 55 [.nil] 2 [(0,(.t 51)),(1,(.t 52))]⟩,⟨some 54,some (47,false),.cal 11 [(.t 49),(.t 53)]⟩,⟨some 55,some (47,false),.not (.t 54)⟩,(aO 56 (.pick (.t 47) (.c (.sc (.bool true))) (.t 55))),(aO 57 (.mv (.t 56))),⟨some 58,some (57,false),.fa 5 (.t 5)⟩,⟨some 59,some (57,false),.ld false 1 (.t 58)⟩,⟨some 60,some (57,false),.cmp .neq .i64 (.t 59) (kI 0)⟩,(aO 61 (.pick (.t 57) (.c (.sc (.bool true))) (.t 60))),(aO 62 (.mv (.t 61))),⟨some 63,some (62,false),.fa 4 (.t 5)⟩,⟨some 64,some (62,false),.ld false 1 (.t 63)⟩]),([0,171,1,2,3,4,5,62,64],[
 ⟨some 65,some (62,false),.cmp .neq .i64 (.t 64) (kI 0)⟩,(aO 66 (.pick (.t 62) (.c (.sc (.bool true))) (.t 65))),(aO 67 (.mv (.t 66))),⟨some 68,some (67,false),.fa 0 (.t 5)⟩,⟨some 69,some (67,false),.ld true 4 (.t 68)⟩,⟨some 70,some (67,false),.ld true 4 (.t 2)⟩,⟨some 71,some (67,false),.cal 16 [(.t 69),(.t 70)]⟩,⟨some 72,some (67,false),.not (.t 71)⟩,(aO 73 (.pick (.t 67) (.c (.sc (.bool true))) (.t 72))),(aO 74 (.mv (.t 73))),⟨some 75,some (74,false),.ld true 5 (.t 1)⟩,⟨some 76,some (74,false),.cal 17 [(.t 75)]⟩]),([0,171,1,3,4,74,76],[
 ⟨some 77,some (74,false),.bsl 1 3 [zI] 2 [(0,(kI 1)),(1,(kI 0))]⟩,⟨some 78,some (74,false),.cal 13 [(.t 76),(.t 77)]⟩,⟨some 79,some (74,false),.not (.t 78)⟩,(aO 80 (.pick (.t 74) (.c (.sc (.bool true))) (.t 79)))])])
 (.cut [0,171,1,3,4,80] (.cond (.t 80)
 (.seq (.reg [0,171] [
 (aO 0 (.mv (.c (.sc (.bool false)))))])
 .ret)
 .skip)))
 (.seq (.reg [0,171,1,3,4] [
 (aO 81 (.fa 0 (.t 4))),(aO 82 (.ld false 1 (.t 81))),(aO 83 (.bld [zI,zI,zI] [(2,1,(kI 63))])),(aO 84 (.cal 18 [(.t 82),(.t 83)])),(aO 6 (.alc [.nil,zI])),(aN (.sto 2 (.t 6) (.t 84)))])
 (.seq (.reg [0,171,1,3,4,6] [
 (aO 85 (.fa 0 (.t 6))),(aO 86 (.ld false 1 (.t 85))),(aO 87 (.cal 19 [(.t 86)])),(aO 7 (.alc [.nil,zI,.nil])),(aN (.sto 3 (.t 7) (.t 87)))])
 (.seq (.reg [0,171,1,3,4,6,7] [
 (aO 88 (.ld true 5 (.t 1))),(aO 89 (.fa 0 (.t 6))),(aO 90 (.ld false 1 (.t 89))),(aO 91 (.cal 15 [(.t 88),(.t 90)])),(aO 8 (.alc [.nil,.nil,.nil,.nil,zI,zI])),(aN (.sto 6 (.t 8) (.t 91)))])
 (.seq (.reg [0,171,1,3,4,6,7,8] [
 (aO 92 (.ld true 5 (.t 1))),(aO 93 (.bld [.nil,.nil,.nil,.nil] [])),(aO 94 (.cal 9 [(.t 92),(.t 93)])),(aO 9 (.alc [.nil,zI])),(aN (.sto 2 (.t 9) (.t 94)))])
 (.seq (.drw [0,171,1,3,4,6,7,8,9] [
 (eF 95 (.fa 1 (.t 6))),(eF 96 (.ld false 1 (.t 95))),(eF 97 (.cmp .eql .i64 (.t 96) (kI 0))),(eF 98 (.mv (.t 97))),⟨⟨some 99,some (98,true),.fa 5 (.t 8)⟩,[],[],false⟩,⟨⟨some 100,some (98,true),.ld false 1 (.t 99)⟩,[],[],false⟩,⟨⟨some 101,some (98,true),.cmp .eql .i64 (.t 100) (kI 0)⟩,[],[],false⟩,(eF 102 (.pick (.t 98) (.t 101) (.c (.sc (.bool false))))),(eF 103 (.mv (.t 102))),⟨⟨some 104,some (103,true),.fa 4 (.t 8)⟩,[],[],false⟩,⟨⟨some 105,some (103,true),.ld false 1 (.t 104)⟩,[],[],false⟩,⟨⟨some 106,some (103,true),.cmp .eql .i64 (.t 105) (kI 1)⟩,[],[],false⟩,(eF 107 (.pick (.t 103) (.t 106) (.c (.sc (.bool false))))),(eF 108 (.mv (.t 107))),⟨⟨some 109,some (108,true),.fa 1 (.t 7)⟩,[],[],false⟩,⟨⟨some 110,some (108,true),.ld false 1 (.t 109)⟩,[],[],false⟩,⟨⟨some 111,some (108,true),.cmp .eql .i64 (.t 110) (kI 1)⟩,[],[],false⟩,(eF 112 (.pick (.t 108) (.t 111) (.c (.sc (.bool false))))),(eF 113 (.mv (.t 112))),⟨⟨some 114,some (113,true),.fa 2 (.t 7)⟩,[],[],false⟩,⟨⟨some 115,some (113,true),.ld false 1 (.t 114)⟩,[],[],false⟩,⟨⟨some 116,some (113,true),.len (.t 115)⟩,[],[],false⟩,⟨⟨some 117,some (113,true),.cmp .eql .i64 (.t 116) (kI 0)⟩,[],[],false⟩,(eF 118 (.pick (.t 113) (.t 117) (.c (.sc (.bool false))))),(eF 119 (.mv (.t 118))),⟨⟨some 120,some (119,true),.fa 0 (.t 7)⟩,[],[],true⟩,⟨⟨some 121,some (119,true),.ld false 1 (.t 120)⟩,[],[],true⟩,⟨⟨some 122,some (119,true),.fa 0 (.t 4)⟩,[],[],true⟩,⟨⟨some 123,some (119,true),.ld false 1 (.t 122)⟩,[],[],true⟩,⟨⟨some 124,some (119,true),.cal 11 [(.t 121),(.t 123)]⟩,[],[],false⟩,(eF 125 (.pick (.t 119) (.t 124) (.c (.sc (.bool false))))),(eF 126 (.mv (.t 125))),⟨⟨some 127,some (126,true),.fa 1 (.t 9)⟩,[],[],false⟩,⟨⟨some 128,some (126,true),.ld false 1 (.t 127)⟩,[],[],false⟩,⟨⟨some 129,some (126,true),.cmp .eql .i64 (.t 128) (kI 310)⟩,[],[],false⟩,(eF 130 (.pick (.t 126) (.t 129) (.c (.sc (.bool false))))),(eF 131 (.mv (.t 130))),⟨⟨some 132,some (131,true),.ld true 5 (.t 1)⟩,[],[],true⟩,⟨⟨some 133,some (131,true),.fa 0 (.t 4)⟩,[],[],true⟩,⟨⟨some 134,some (131,true),.ld false 1 (.t 133)⟩,[],[],true⟩,⟨⟨some 135,some (131,true),.slc 1 (.t 134) none (some (kI 1))⟩,[],[],true⟩,⟨⟨some 136,some (131,true),.cal 15 [(.t 132),(.t 135)]⟩,[],[],false⟩,⟨⟨some 137,some (131,true),.fl false 5 1 (.t 136)⟩,[],[],false⟩,⟨⟨some 138,some (131,true),.cmp .eql .i64 (.t 137) (kI 380)⟩,[],[],false⟩,(eF 139 (.pick (.t 131) (.t 138) (.c (.sc (.bool false))))),(eF 140 (.mv (.t 139))),⟨⟨some 141,some (140,true),.fa 0 (.t 4)⟩,[],[],true⟩,⟨⟨some 142,some (140,true),.ld false 1 (.t 141)⟩,[],[],true⟩,⟨⟨some 143,some (140,true),.bld [zI,zI,zI] [(0,1,(kI 1))]⟩,[],[],true⟩,⟨⟨some 144,some (140,true),.cal 18 [(.t 142),(.t 143)]⟩,[],[],false⟩,⟨⟨some 145,some (140,true),.fl false 1 1 (.t 144)⟩,[],[],false⟩,⟨⟨some 146,some (140,true),.cmp .eql .i64 (.t 145) (kI 1)⟩,[],[],false⟩,(eF 147 (.pick (.t 140) (.t 146) (.c (.sc (.bool false))))),(eF 148 (.mv (.t 147))),⟨⟨some 149,some (148,true),.ld true 5 (.t 1)⟩,[],[],false⟩,⟨⟨some 150,some (148,true),.cal 12 [(.t 149),(kI 8)]⟩,[],[],false⟩,⟨⟨some 151,some (148,true),.cmp .eql .i64 (.t 150) (kI (-1))⟩,[],[],false⟩,(eF 152 (.pick (.t 148) (.t 151) (.c (.sc (.bool false))))),(eF 153 (.mv (.t 152))),⟨⟨some 154,some (153,true),.fa 0 (.t 3)⟩,[],[159],true⟩,⟨⟨some 155,some (153,true),.ld false 1 (.t 154)⟩,[],[159],true⟩,⟨⟨some 156,some (153,true),.fa 0 (.t 4)⟩,[],[159],true⟩,⟨⟨some 157,some (153,true),.ld false 1 (.t 156)⟩,[],[159],true⟩,⟨⟨some 158,some (153,true),.cal 14 [(.t 155),(.t 157)]⟩,[],[159],true⟩,⟨⟨some 159,some (153,true),.bsl 1 3 [zI] 1 [(0,(kI 0))]⟩,[159],[],true⟩,⟨⟨some 160,some (153,true),.cal 13 [(.t 158),(.t 159)]⟩,[],[],false⟩,(eF 161 (.pick (.t 153) (.t 160) (.c (.sc (.bool false))))),(eF 162 (.mv (.t 161))),⟨⟨some 163,some (162,true),.fa 0 (.t 3)⟩,[],[],true⟩,⟨⟨some 164,some (162,true),.ld false 1 (.t 163)⟩,[],[],true⟩,⟨⟨some 165,some (162,true),.cal 20 [(.t 164)]⟩,[],[],true⟩,⟨⟨some 166,some (162,true),.fa 0 (.t 4)⟩,[],[],true⟩,⟨⟨some 167,some (162,true),.ld false 1 (.t 166)⟩,[],[],true⟩,⟨⟨some 168,some (162,true),.cal 20 [(.t 167)]⟩,[],[],false⟩,⟨⟨some 169,some (162,true),.cmp .neq .u64 (.t 165) (.t 168)⟩,[],[],false⟩,(eF 170 (.pick (.t 162) (.t 169) (.c (.sc (.bool false))))),(eF 0 (.mv (.t 170)))])
 .ret)))))))))))))
def rv4:List RV:=[.tmp 0]
theorem ok4:fnOk Tryz.prog ac4 rv4 Tryz.f4=true:=by kernel_rfl
end Go.Proofs.YtecoaapkcnhlhabGreatDoor.Txt
namespace Go.Proofs.YtecoaapkcnhlhabGreatDoor
open Go Go.Vc Go.Ham Txt
theorem frm2(w:Nat)(h:w<2^64):FrmSm [[w],[]]:=by
 refine⟨fun ws hws v hv=> ?_,by simp,fun ws hws=> ?_⟩
 ·rcases List.mem_cons.1 hws with rfl|hws
  ·obtain rfl:v=w:=by simpa using hv
   exact h
  ·obtain rfl:ws=[]:=by simpa using hws
   cases hv
 ·rcases List.mem_cons.1 hws with rfl|hws
  ·simp
  ·obtain rfl:ws=[]:=by simpa using hws
   simp
theorem smE(c:Cfg)(h:c.sel.length<=10/\c.mode.length<=10/\c.tab.length<=10/\c.ram.length<=10):CfgSm c:=⟨oM,oM,oM,oM⟩
theorem frm1(w:Nat)(h:w<2^64):FrmSm [[w]]:=by
 refine⟨fun ws hws v hv=> ?_,by simp,fun ws hws=> ?_⟩
 ·obtain rfl:ws=[w]:=by simpa using hws
  obtain rfl:v=w:=by simpa using hv
  exact h
 ·obtain rfl:ws=[w]:=by simpa using hws
  simp
theorem qJ9(q:Bool)(l:List (List Nat)):Sub (.sl q 1 (rows (frmC q) l)) (.sl false 1 (rows (frmC false) l)):=by
 unfold rows
 exact qG6 _ _ (fun h=>by cases h) (fun _ _=>rfl) fun ws _=>⟨.slp _ _ _ _ (fun h=>by cases h),trivial⟩
theorem qJa{p:Bool}{a b c d:PV}(h1:Sub a c)(h2:Sub b d):Sub (.sl p 1 [[a],[b]]) (.sl false 1 [[c],[d]]):=by
 refine .sl _ _ _ _ _ (fun h=>by cases h) rfl (fun i x y hx hy=> ?_) fun i x y j u v hx hy hu hv=> ?_
 ·match i,hx,hy with
  |0,hx,hy=>simp at hx hy;subst hx;subst hy;rfl
  |1,hx,hy=>simp at hx hy;subst hx;subst hy;rfl
  |i+2,hx,hy=>simp at hx
 ·match i,hx,hy with
  |0,hx,hy=>
    simp at hx hy;subst hx;subst hy
    match j,hu,hv with
    |0,hu,hv=>simp at hu hv;subst hu;subst hv;exact h1
    |j+1,hu,hv=>simp at hu
  |1,hx,hy=>
    simp at hx hy;subst hx;subst hy
    match j,hu,hv with
    |0,hu,hv=>simp at hu hv;subst hu;subst hv;exact h2
    |j+1,hu,hv=>simp at hu
  |i+2,hx,hy=>simp at hx
def qJb:List DO:=[⟨⟨some 160,some (153,true),.cal 13 [(.t 158),(.t 159)]⟩,[],[],false⟩,
 ⟨⟨some 161,none,.pick (.t 153) (.t 160) (.c (.sc (.bool false)))⟩,[],[],false⟩,
 ⟨⟨some 162,none,.mv (.t 161)⟩,[],[],false⟩,
 ⟨⟨some 163,some (162,true),.fa 0 (.t 3)⟩,[],[],true⟩,
 ⟨⟨some 164,some (162,true),.ld false 1 (.t 163)⟩,[],[],true⟩,
 ⟨⟨some 165,some (162,true),.cal 20 [(.t 164)]⟩,[],[],true⟩,
 ⟨⟨some 166,some (162,true),.fa 0 (.t 4)⟩,[],[],true⟩,
 ⟨⟨some 167,some (162,true),.ld false 1 (.t 166)⟩,[],[],true⟩,
 ⟨⟨some 168,some (162,true),.cal 20 [(.t 167)]⟩,[],[],false⟩,
 ⟨⟨some 169,some (162,true),.cmp .neq .u64 (.t 165) (.t 168)⟩,[],[],false⟩,
 ⟨⟨some 170,none,.pick (.t 162) (.t 169) (.c (.sc (.bool false)))⟩,[],[],false⟩,
 ⟨⟨some 0,none,.mv (.t 170)⟩,[],[],false⟩]
def qJc:List DO:=⟨⟨some 159,some (153,true),.bsl 1 3 [.sc (.int .i64 0)] 1 [(0,(.c (.sc (.int .i64 0))))]⟩,[159],[],true⟩::qJb
def qJd:List DO:=⟨⟨some 158,some (153,true),.cal 14 [(.t 155),(.t 157)]⟩,[],[159],true⟩::qJc
def qJe:List DO:=⟨⟨some 157,some (153,true),.ld false 1 (.t 156)⟩,[],[159],true⟩::qJd
def qJf:List DO:=⟨⟨some 156,some (153,true),.fa 0 (.t 4)⟩,[],[159],true⟩::qJe
def qJg:List DO:=⟨⟨some 155,some (153,true),.ld false 1 (.t 154)⟩,[],[159],true⟩::qJf
set_option maxRecDepth 8000 in
set_option maxHeartbeats 1000000 in
theorem qJh:FnEq Tryz.prog 4 [] (.bool true):=by
 have h1:=qIU gE qJ5 cE0 (smE _ (by decide))
 have h2:=qIU gE qJ5 cE1 (smE _ (by decide))
 have h3:=qIU gE qJ5 cfg0 (smE _ (by decide))
 obtain⟨d1,d2⟩:=qJ2 qJ5 vE1
 obtain⟨n1,n2,n3,n4⟩:=qJ3 qJ5 vE1 (m:=[[9223372036854775823],[]]) (by rw[eE1];exact qJ8)
 unfold encL encE at h1 h2 h3
 rw[if_pos vE0,if_pos vE0,eE0]at h1
 rw[if_pos vE1,if_pos vE1,eE1]at h2
 rw[if_neg vEn,if_neg vEn]at h3
 rw[eE1]at d1 d2 n3
 have f15:=frm2 15 (by decide)
 have f0:=frm2 0 (by decide)
 have fb:=frm2 9223372036854775823 (by decide)
 have h4:=qIZ gE qJ5 [[15],[]] f15 d1
 rw[d2,show cntF [[15],[]]=0 from by decide+kernel]at h4
 have h5:=qGF [[0],[]] [[0],[]] f0 f0
 have h6:=qGF [[15],[]] [[15],[]] f15 f15
 have h7:=qyJ cE1 cE1 (smE _ (by decide)) (smE _ (by decide))
 have h8:=qEd gE qJ5
 rw[szE]at h8
 have h9:=qGy [1,0] [1,0] (by decide) (by decide)
 have h10:=qIV [[15],[]] f15 ⟨0,0,63⟩
 rw[show fldF [[15],[]] ⟨0,0,63⟩=[[9223372036854775823],[]]from by decide,show fldE [[15],[]] ⟨0,0,63⟩=0 from by decide]at h10
 have h11:=qIX [[9223372036854775823],[]] fb
 rw[n3,show cntF [[9223372036854775823],[]]=1 from by decide+kernel,qJ4 n4]at h11
 have h12:=qIZ gE qJ5 [[9223372036854775823],[]] fb n1
 rw[n2,show cntF [[9223372036854775823],[]]=1 from by decide+kernel]at h12
 have h13:=qJ0 gE qJ5 [[15]] (frm1 15 (by decide)) (fun h=>by have:=h.size;rw[szE]at this;revert this;decide)
 have h14:=qIV [[15],[]] f15 ⟨1,0,0⟩
 rw[show fldF [[15],[]] ⟨1,0,0⟩=[]from by decide,show fldE [[15],[]] ⟨1,0,0⟩=1 from by decide]at h14
 have h15:=qF6 gE qJ5 8 (by decide)
 rw[show colF gE 8= -1 from by decide]at h15
 have h16:=qGK [[0],[]] [[15],[]] f0 f15
 rw[dfE]at h16
 have h17:=qGy [0] [0] (by decide) (by decide)
 have h18:=qF5 [[0],[]] f0
 have h19:=qF5 [[15],[]] f15
 have hdg:=dgE
 generalize digF [[0],[]]=D0 at *
 generalize digF [[15],[]]=D1 at *
 refine FnEq.of_awp Tryz.func4 ok4 (by show 0<=_;decide) sC ?_
 simp only[ac4,rv4,push_cast,reduceIte,zA,zB,zC,zD,zE,zF,zG,reduceCtorEq,zH,zJ,cNI]
 repeat (refine And.intro (by decide) ?_)
 refine qrv h1 (by exact⟨.refl _,.refl _,trivial⟩) ?_
 refine sB ?_
 repeat (refine And.intro (by decide) ?_)
 refine qrv h2 (by exact⟨.refl _,.refl _,trivial⟩) ?_
 refine sB ?_
 repeat (refine And.intro (by decide) ?_)
 refine qrv h4 (by exact⟨.refl _,qJ9 true _,trivial⟩) ?_
 refine sB ?_
 repeat (refine And.intro (by decide) ?_)
 refine qrA rfl (fun e=>absurd e (by decide)) fun _=> ?_
 refine sB ?_
 repeat (refine And.intro (by decide) ?_)
 refine qrv h5 (by exact⟨qJ9 true _,qJa (.slp _ _ _ _ (fun h=>by cases h)) (.nil _ _),trivial⟩) ?_
 refine sB ?_
 repeat (refine And.intro (by decide) ?_)
 refine qrA rfl (fun e=>absurd e (by decide)) fun _=> ?_
 refine sB ?_
 repeat (refine And.intro (by decide) ?_)
 refine qrv h6 (by exact⟨qJ9 true _,qJa (.slp _ _ _ _ (fun h=>by cases h)) (.nil _ _),trivial⟩) ?_
 refine sB ?_
 repeat (refine And.intro (by decide) ?_)
 refine qrA rfl (fun e=>absurd e (by decide)) fun _=> ?_
 refine sB ?_
 repeat (refine And.intro (by decide) ?_)
 refine qrA rfl (fun e=>absurd e (by decide)) fun _=> ?_
 refine sB ?_
 repeat (refine And.intro (by decide) ?_)
 refine qrv h7 (by exact⟨Sub.aggL ⟨.slp _ _ _ _ (fun h=>by cases h),.slp _ _ _ _ (fun h=>by cases h),.slp _ _ _ _ (fun h=>by cases h),.slp _ _ _ _ (fun h=>by cases h),trivial⟩,.refl _,trivial⟩) ?_
 refine sB ?_
 repeat (refine And.intro (by decide) ?_)
 refine qrv h8 (by exact⟨.refl _,trivial⟩) ?_
 refine sB ?_
 repeat (refine And.intro (by decide) ?_)
 refine qrv h9 (by exact⟨.slp _ _ _ _ (fun h=>by cases h),.slp _ _ _ _ (fun h=>by cases h),trivial⟩) ?_
 refine sB ?_
 repeat (refine And.intro (by decide) ?_)
 refine qrv h10 (by exact⟨qJ9 true _,.refl _,trivial⟩) ?_
 refine sB ?_
 repeat (refine And.intro (by decide) ?_)
 refine qrv h11 (by exact⟨qJ9 true _,trivial⟩) ?_
 refine sB ?_
 repeat (refine And.intro (by decide) ?_)
 refine qrv h12 (by exact⟨.refl _,qJ9 true _,trivial⟩) ?_
 refine sB ?_
 repeat (refine And.intro (by decide) ?_)
 refine qrv h3 (by exact⟨.refl _,Sub.aggL ⟨.nil _ _,.nil _ _,.nil _ _,.nil _ _,trivial⟩,trivial⟩) ?_
 refine sB ?_
 repeat (refine And.intro (by decide) ?_)
 refine qrv h6 (by exact⟨qJ9 true _,qJ9 true _,trivial⟩) ?_
 refine sB ?_
 repeat (refine And.intro (by decide) ?_)
 refine qrv h13 (by exact⟨.refl _,qJ9 true [[15]],trivial⟩) ?_
 refine sB ?_
 repeat (refine And.intro (by decide) ?_)
 refine qrv h14 (by exact⟨qJ9 true _,.refl _,trivial⟩) ?_
 refine sB ?_
 repeat (refine And.intro (by decide) ?_)
 refine qrv h15 (by exact⟨.refl _,.refl _,trivial⟩) ?_
 generalize hKK:(fun st' :St=>dsK _ _ (st'.put (some 153) (st'.get 152)) _)=KK
 refine sB ?_
 subst hKK
 show dsK _ (⟨⟨some 154,some (153,true),.fa 0 (.t 3)⟩,[],[159],true⟩::qJg) _ _
 refine sB ?_
 rw[qJg]
 refine sB ?_
 rw[qJf]
 refine sB ?_
 rw[qJe]
 refine sB ?_
 rw[qJd]
 refine sB ?_
 refine qrx h16 (by exact⟨qJ9 true _,qJ9 true _,trivial⟩) rfl ?_
 rw[qJc]
 refine sB ?_
 repeat (refine And.intro (by decide) ?_)
 rw[qJb]
 refine sB ?_
 refine qrv h17 (by exact⟨.slp _ _ _ _ (fun h=>by cases h),.refl _,trivial⟩) ?_
 refine sB ?_
 refine qrx h18 (by exact⟨qJ9 true _,trivial⟩) rfl ?_
 refine sB ?_
 first|refine qrx h19 (by exact⟨qJ9 true _,trivial⟩) rfl ?_|refine qrv h19 (by exact⟨qJ9 true _,trivial⟩) ?_
 refine sB ?_
 exact congrArg Value.bool (decide_eq_true (fun e:(D0:Int)=D1=>hdg (Int.ofNat.inj e)))
end Go.Proofs.YtecoaapkcnhlhabGreatDoor
namespace Go.Proofs.YtecoaapkcnhlhabGreatDoor
open Go Go.Vc Go.Ham Txt
theorem qJi{g:Grid}(hg:GOk g){c:Cfg}(h:qyw g c):CfgSm c:=by
 have hw:=hg.wh
 have hk:=hg.kind
 have hc0:=hg.count
 obtain⟨h1,h2,h3,h4⟩:=h
 exact⟨oM,oM,oM,oM⟩
set_option maxHeartbeats 1000000 in
theorem qJj(g:Grid)(hg:GOk g)(c:Cfg)(h: ¬qyw g c):FnEq Tryz.prog 44 [.agg (quX false g),.agg (cfgC false c)] (.int 310):=by
 have hc:=hg.count
 refine FnEq.of_awp Tryz.func44 ok44 (by show 2<=_;decide) (by simp only[push_cast,reduceIte,zA,zB,zC,zD,zE,zF,zG,reduceCtorEq,zH,zJ,cNI]<;>first|exact fun _ _=>trivial|simp) ?_
 simp only[ac44,rv44,push_cast,reduceIte,zA,zB,zC,zD,zE,zF,zG,reduceCtorEq,zH,zJ,cNI]
 refine qrx (qv5 g hg) sC rfl ?_
 refine sB ?_
 refine qrI ⟨[(2,.ptr 2 0),(3,.ptr 3 0),(39,.bool true)],[(2,quX false g),(3,cfgC false c)],[],[]⟩ ?_ ?_
 ·unfold qyw at h
  repeat' (first
   |(refine qrE rfl (fun _=> ?_) fun _=> ?_<;>simp only[push_cast,reduceIte,zA,zB,zC,zD,zE,zF,zG,reduceCtorEq,zH,zJ,cNI])
   |(refine qrD rfl (fun _=> ?_) fun _=> ?_<;>simp only[push_cast,reduceIte,zA,zB,zC,zD,zE,zF,zG,reduceCtorEq,zH,zJ,cNI]))
  all_goals (rw[decide_eq_true oM])
 ·exact sC
theorem qJl(g:Grid)(hg:GOk g)(c:Cfg)(h: ¬qyw g c):FnEq Tryz.prog 26 [.agg (quX false g),.agg (cfgC false c)] (.tup [.nil,.int 310]):=by
 have hv:=qJj g hg c h
 refine FnEq.of_awp Tryz.func26 ok26 (by show 2<=_;decide) (by simp only[push_cast,reduceIte,zA,zB,zC,zD,zE,zF,zG,reduceCtorEq,zH,zJ,cNI]<;>first|exact fun _ _=>trivial|simp) ?_
 simp only[ac26,rv26,push_cast,reduceIte,zA,zB,zC,zD,zE,zF,zG,reduceCtorEq,zH,zJ,cNI]
 refine qrv hv (by exact⟨.refl _,.refl _,trivial⟩) ?_
 simp only[qFD,push_cast,reduceIte,zA,zB,zC,zD,zE,zF,zG,reduceCtorEq,zH,zJ,cNI]
 exact qnY (fun _=>trivial) fun h=>absurd (by decide) h
theorem qJm(g:Grid)(hg:GOk g)(c:Cfg):FnEq Tryz.prog 9 [.agg (quX false g),.agg (cfgC false c)] (.agg (fmdC true (encL g c) (encE g c))):=by
 by_cases h:qyw g c
 ·exact qIU g hg c (qJi hg h)
 ·have hn:validE g c≠0:=by rw[qyA h];decide
  unfold encL encE
  rw[if_neg hn,if_neg hn]
  have he:=qJl g hg c h
  refine FnEq.of_awp Tryz.func9 ok9 (by show 2<=_;decide) (by simp only[push_cast,reduceIte,zA,zB,zC,zD,zE,zF,zG,reduceCtorEq,zH,zJ,cNI];simp) ?_
  simp only[ac9,rv9,push_cast,reduceIte,zA,zB,zC,zD,zE,zF,zG,reduceCtorEq,zH,zJ,cNI]
  refine qrv he sC ?_
  simp only[rows,List.map_nil,push_cast,reduceIte,zA,zB,zC,zD,zE,zF,zG,reduceCtorEq,zH,zJ,cNI]
def k3C(x:Int×Int×Int):List PV:=[.sc (.int .u8 x.1),.sc (.int .u8 x.2.1),.sc (.int .u8 x.2.2)]
@[push_cast] theorem qJn(x:Int×Int×Int):k3C x=[.sc (.int .u8 x.1),.sc (.int .u8 x.2.1),.sc (.int .u8 x.2.2)]:=rfl
structure Odd38 where
 L:List (List Nat)
 c:Cfg
 f:FlipA
 n:Int
 K:List (Int×Int×Int)
def qJo(q:Bool)(z:Odd38):List PV:=[.sl q 1 (rows (frmC q) z.L),.sl q 1 (ints z.c.sel),.sl q 1 (ints z.c.mode),.sl q 1 (ints z.c.tab),.sl q 1 (ints z.c.ram),.int z.f.x,.int z.f.k,.int z.f.b,.int z.n,.sl q 3 (rows k3C z.K)]
@[push_cast] theorem qJp(q:Bool)(z:Odd38):qJo q z=[.sl q 1 (rows (frmC q) z.L),.sl q 1 (ints z.c.sel),.sl q 1 (ints z.c.mode),.sl q 1 (ints z.c.tab),.sl q 1 (ints z.c.ram),.int z.f.x,.int z.f.k,.int z.f.b,.int z.n,.sl q 3 (rows k3C z.K)]:=rfl
end Go.Proofs.YtecoaapkcnhlhabGreatDoor
namespace Go.Proofs.YtecoaapkcnhlhabGreatDoor
open Go Go.Vc Txt
theorem qJq{g:Grid}{c:Cfg}(hl:CfgLn g c){t0:Nat}{b:Int}(hb:0<=b/\b<=255)(h: ∀t,t<g.kind.length->qyy g c t): ∀t,t<g.kind.length->qyy g (qyW g c t0 b) t:=by
 obtain⟨l1,l2,l3,l4⟩:=hl
 intro t ht
 have h0:=h t ht
 unfold qyW
 split
 ·exact h0
 ·rename_i hk
  split
  ·unfold qyy
   simp only[qz5]
   by_cases e:t0=t
   ·subst e
    rw[if_pos ⟨rfl,oM⟩,if_pos ⟨rfl,oM⟩,if_pos ⟨rfl,oM⟩]
    refine⟨oM,?_,by simp;omega,by simp⟩
    unfold qwY
    rw[if_neg hk]
    split<;>simp
   ·rw[if_neg (fun q=>e q.1),if_neg (fun q=>e q.1),if_neg (fun q=>e q.1)]
    exact h0
  ·split
   ·unfold qyy
    simp only[qz5]
    by_cases e:t0=t
    ·subst e
     rw[if_pos ⟨rfl,oM⟩,if_pos ⟨rfl,oM⟩,if_pos ⟨rfl,oM⟩]
     refine⟨oM,?_,by simp;omega,by simp;omega⟩
     unfold qwY
     rw[if_neg hk]
     split<;>simp
    ·rw[if_neg (fun q=>e q.1),if_neg (fun q=>e q.1),if_neg (fun q=>e q.1)]
     exact h0
   ·exact h0
theorem qJr{g:Grid}{l:List Int}(hb: ∀x∈l,0<=x/\x<=255): ∀j t,t<g.kind.length->qyy g (qyY g l j) t
 | 0, t, ht => by
   have e: ∀n i,(List.replicate n (0:Int)).getD i 0=0:=fun n i=>by
    rw[zK,List.getElem?_replicate]
    split<;>rfl
   unfold qyy
   simp only[qyY,qxc,e]
   refine⟨oM,?_,by simp,by simp⟩
   unfold qwY
   split
   ·simp
   ·split<;>simp
 | j + 1, t, ht => by
   have hx: ∀i,0<=l.getD i 0/\l.getD i 0<=255:=fun i=>by
    by_cases h:i<l.length
    ·exact hb _ (qyI h)
    ·rw[zK,List.getElem?_eq_none oM];decide
   have hs: ∀t,t<g.kind.length->qyy g (selW g (qyY g l j) ((7*((2*j:Nat):Int)+l.getD (2*j) 0)%((qyY g l j).sel.length:Int)) (l.getD (2*j+1) 0)) t:=fun t ht=>by
    have:=qJr hb j t ht
    unfold selW
    split
    ·exact this
    ·exact this
   exact qJq (qz0 (qz3 g l j)) (hx _) hs t ht
theorem qJs{g:Grid}(hg:GOk g){l:List Int}(hb: ∀x∈l,0<=x/\x<=255):validE g (qyZ g l)=0:=
 qyz (qz3 g l _) (qz9 hg l).sel (qJr hb _)
end Go.Proofs.YtecoaapkcnhlhabGreatDoor
namespace Go.Proofs.YtecoaapkcnhlhabGreatDoor
open Go Go.Vc Go.Ham Txt
theorem qJt(x:RawG)(c:Cfg):FrmSm (qDx (qyS x) c):=by
 have hg:=(qyU x).1
 have hn:=hg.n
 have hw:wN (qyS x)<=5:=by unfold wN qyS;simp only;omega
 have hh:hN (qyS x)<=5:=by unfold hN qyS;simp only;omega
 have he:eN (qyS x)<=14:=by unfold eN qv1 qyS;simp only;omega
 refine⟨qDL _ c,by rw[qDx,yG,List.length_range];omega,fun ws hws=> ?_⟩
 obtain⟨y,hy,rfl⟩:=List.mem_map.1 hws
 rw[qDI]
 have h1:hN (qyS x)*(eN (qyS x)+3)<=5*17:=Nat.mul_le_mul hh oM
 have h2:wN (qyS x)*(hN (qyS x)*(eN (qyS x)+3))<=5*(5*17):=Nat.mul_le_mul hw h1
 have h3:(qCq (qyS x)).length<=473:=by
  rw[qCq,zU,qDX,qCp,qDV]
  have:=hn.ce
  have hp:(2*(qyS x).pads).toNat=48:=rfl
  omega
 have h4:=qDU (m:=64) y (qCq (qyS x)) fun f hf=>qGd (qD8 hg hf)
 unfold nW
 omega
end Go.Proofs.YtecoaapkcnhlhabGreatDoor
namespace Go.Proofs.YtecoaapkcnhlhabGreatDoor
open Go Go.Vc Go.Ham Txt
theorem spot_mem{l:List (List Nat)}{p:Nat×Nat} :p∈qGO l ↔ p.1<l.length/\p.2<(l.getD p.1 []).length:=by
 unfold qGO qGN
 rw[List.mem_flatMap]
 constructor
 ·rintro⟨i,hi,hp⟩
  have hi:=List.mem_range.1 hi
  unfold qGM at hp
  obtain⟨k,hk,rfl⟩:=List.mem_map.1 hp
  exact⟨hi,List.mem_range.1 hk⟩
 ·rintro⟨h1,h2⟩
  refine⟨p.1,List.mem_range.2 h1,?_⟩
  unfold qGM
  exact List.mem_map.2 ⟨p.2,List.mem_range.2 h2,rfl⟩
theorem qJv(l:List (List Nat)):(qGO l).Nodup:=by
 unfold qGO
 have key: ∀n,(qGN l n).Nodup/\ ∀p∈qGN l n,p.1<n:=by
  intro n
  induction n with
  |zero=>exact⟨by simp[qGN],by simp[qGN]⟩
  |succ n ih=>
    rw[qGP]
    have h2: ∀p∈qGM l n,p.1=n:=by
     intro p hp
     unfold qGM at hp
     obtain⟨k,_,rfl⟩:=List.mem_map.1 hp
     rfl
    refine⟨List.nodup_append.2 ⟨ih.1,?_,fun a ha b hb e=> ?_⟩,fun p hp=> ?_⟩
    ·unfold qGM
     exact List.Pairwise.map _ (fun a b h e=>h (Prod.mk.inj e).2) List.nodup_range
    ·have h3:=ih.2 a ha
     have h4:=h2 b hb
     rw[e]at h3;omega
    ·rcases yC.1 hp with h|h
     ·have:=ih.2 p h;omega
     ·have:=h2 p h;omega
 exact(key _).1
theorem Near.sm{F m:List (List Nat)}(h:Near F m)(hF:FrmSm F):FrmSm m:=by
 have hl:m.length=F.length:=by have:=congrArg List.length h.size;simpa using this
 refine⟨fun ws hws w hw=> ?_,by have:=hF.n;omega,fun ws hws=> ?_⟩
 ·obtain⟨x,k,hi,rfl⟩:=qHo hws hw
  have hiF:inW F x k:=(qHn h.size x k).1 hi
  obtain⟨ws',hw',hm'⟩:=qHp hiF
  have hb:=hF.ok ws' hw' _ hm'
  rcases h.at' x k hiF with e|⟨b,hb2,e⟩
  ·rw[e];exact hb
  ·rw[e];exact Nat.xor_lt_two_pow hb (Nat.pow_lt_pow_right (by decide) hb2)
 ·obtain⟨x,hx,rfl⟩:=List.mem_iff_getElem.1 hws
  have e:=congrArg (fun l=>l[x]?) h.size
  simp only[zS,zL hx,zL (show x<F.length by omega),Option.map_some,Option.some.injEq]at e
  rw[e]
  exact hF.len _ (List.getElem_mem _)
structure CorSt (F m:List (List Nat)) (dn:List Bool) (n:Nat):Prop where
 near:Near F m
 cnt:cntF m=n
 len:dn.length=(qGO F).length
 no: ∀i,i<(qGO F).length->dn.getD i default=false->atW m ((qGO F).getD i default).1 ((qGO F).getD i default).2=atW F ((qGO F).getD i default).1 ((qGO F).getD i default).2
theorem qJw{F:List (List Nat)}{i:Nat}(h:i<(qGO F).length):inW F ((qGO F).getD i default).1 ((qGO F).getD i default).2:=by
 rw[zK,zL h]
 exact spot_mem.1 (List.getElem_mem h)
theorem CorSt.step {F m : List (List Nat)} {dn : List Bool} {n i b : Nat} (hc : ∀ ws ∈ F, ∀ w ∈ ws, chkW w = 0) (h : CorSt F m dn n) (hi : i < (qGO F).length) (hd : dn.getD i default = false) (hb : b < 64) :
  CorSt F (qHe m ((qGO F).getD i default).1 ((qGO F).getD i default).2 b) (dn.set i true) (n+1):=by
 have hin:=qJw hi
 have he:=h.no i hi hd
 have him:inW m ((qGO F).getD i default).1 ((qGO F).getD i default).2:=(qHn h.near.size _ _).2 hin
 obtain⟨ws,hw1,hw2⟩:=qHp hin
 have h0:=hc ws hw1 _ hw2
 refine⟨h.near.flip hin hb he,?_,by rw[yF,h.len],fun j hj hdj=> ?_⟩
 ·have hf:=qHt (b:=b) him
  rw[he,h0,(qAe h0 hb).1]at hf
  have hcn:=h.cnt
  simp only[show ¬(0=1)from by decide,if_false,if_true]at hf
  show qHq _=_
  have:qHq m=n:=hcn
  omega
 ·have hji:j≠i:=by
   rintro rfl
   rw[zK,List.getElem?_set_self (by rw[h.len];exact hi)]at hdj
   cases hdj
  have hdj2:dn.getD j default=false:=by
   rw[zK,List.getElem?_set_ne (Ne.symm hji),<- zK]at hdj
   exact hdj
  rw[qHh him,if_neg]
  ·exact h.no j hj hdj2
  ·rintro⟨e1,e2⟩
   have e:(qGO F).getD i default=(qGO F).getD j default:=Prod.ext e1 e2
   rw[zK,zK,zL hi,zL hj]at e
   exact hji ((List.getElem_inj (qJv F)).1 e).symm
end Go.Proofs.YtecoaapkcnhlhabGreatDoor
namespace Go.Proofs.YtecoaapkcnhlhabGreatDoor
open Go Go.Vc Go.Ham Txt
end Go.Proofs.YtecoaapkcnhlhabGreatDoor
namespace Go.Proofs.YtecoaapkcnhlhabGreatDoor
open Go Go.Vc Go.Ham Txt
theorem qJy {P : Program} {w : World} {g t e : Nat} {D : DataW Unit} (hg : P.globalNamed "math/bits.deBruijn64tab" = some g) (ht : (P.globals[g]?).map (·.type) = some t) (hu : P.underlying t = some (.array 64 e)) (he : P.underlying e = some (.int .u8)) (hc : P.cellsOf e = 1)
  (hn : D.handleName?.isNone = true) (hD : D = .agg (tzTab.map fun n => .lit (.int .u8 (n : Nat)))) (h : laidMetH P [("math/bits.deBruijn64tab", D)] w) : GL P w := by
 rw[MakeChecks.laidMetH_plain _ _ _ (by simp[hn])]at h
 obtain⟨ps,⟨g0,t0,cs0,f0,p0,q0,hg0,ht0,hv0,hd0,_,_⟩,_,_⟩:=h
 obtain rfl:=Option.some.inj (hg.symm.trans hg0)
 obtain rfl:=Option.some.inj (ht.symm.trans ht0)
 obtain⟨xs,m1,rfl,hx1,hlen,hn3,hel⟩:=DataW.trod_array hu hd0
 intro g' hg' j hj
 obtain rfl:=Option.some.inj (hg.symm.trans hg')
 have h0:=hel j hj
 rw[hc]at h0
 have hjx:j<xs.length:=by omega
 rw[zL hjx]at h0
 obtain⟨k,e1,e2,_⟩:=DataW.trod_int he h0
 simp only[Prod.mk.injEq]at hx1
 have hx:=hx1.1
 rw[hD]at hx
 injection hx with hx
 have h2:(xs.map (·.1))[j]? =some (.lit (.int .u8 k)):=by
  rw[zS,zL hjx,e2];rfl
 rw[<- hx]at h2
 have hjt:j<tzTab.length:=hj
 rw[zS,zL hjt]at h2
 have hk:k=(tzTab[j]:Nat):=by simpa using h2.symm
 rw[World.var?_cell hg hv0 j,zK,zL hjt]
 have h3:=congrArg (·[0]?) e1
 simp[List.getElem?_take,List.getElem?_drop]at h3
 rw[h3,hk]
 rfl
theorem qJD(x:RawG):Sub (.agg (qyQ true x)) (.agg (qyQ false x)):=Sub.aggL ⟨.refl _,.refl _,.refl _,.refl _,.slp _ _ _ _ (fun h=>by cases h),trivial⟩
end Go.Proofs.YtecoaapkcnhlhabGreatDoor
namespace Go.Proofs.YtecoaapkcnhlhabGreatDoor
open Go Go.Vc Go.Ham Txt
structure Det (F T m:List (List Nat)) (x k:Nat):Prop where
 size:m.map List.length=F.map List.length
 bad:chkW (atW m x k)=2
 same:atW m x k=atW T x k
 rest: ∀x' k',inW F x' k' -> ¬(x=x' /\k=k')->atW T x' k' =atW F x' k' /\(atW m x' k' =atW F x' k' \/ ∃b,b<64/\atW m x' k' =atW F x' k' ^^^2^b)
end Go.Proofs.YtecoaapkcnhlhabGreatDoor
namespace Go.Proofs.YtecoaapkcnhlhabGreatDoor
open Go Go.Vc Go.Ham Txt
theorem FrmSm.flip{l:List (List Nat)}(h:FrmSm l){x k b:Nat}(hi:inW l x k)(hb:b<64):FrmSm (qHe l x k b):=(Near.flip (Near.refl l) hi hb rfl).sm h
end Go.Proofs.YtecoaapkcnhlhabGreatDoor
namespace Go.Proofs.YtecoaapkcnhlhabGreatDoor
open Go Go.Vc Go.Ham Txt
theorem qJS{a b:List (List Nat)}{x N:Nat}(h: ∀y,y<N->(difB a b y=true ↔ y=x)): ∀n,n<=N->difN a b n=if x<n then[(x:Int)]else[]
 |0,_=>by simp[difN]
 | n + 1, hn => by
   rw[qGA,qJS h n oM]
   by_cases hx:n=x
   ·subst hx
    rw[if_pos ((h n oM).2 rfl),if_neg oM,if_pos oM];rfl
   ·rw[if_neg (fun e=>hx ((h n oM).1 e))]
    by_cases h2:x<n
    ·rw[if_pos h2,if_pos oM]
    ·rw[if_neg h2,if_neg oM]
end Go.Proofs.YtecoaapkcnhlhabGreatDoor
namespace Go.Proofs.YtecoaapkcnhlhabGreatDoor
open Go Go.Vc Txt
theorem qJZ{p q:Nat->Bool} : ∀k,(∀i,i<k->p i=q i)->idxF p k=idxF q k
 |0,_=>rfl
 |k+1,h=>by rw[idxF,idxF,qJZ k fun i hi=>h i oM,h k oM]
theorem qK0: ∀k,idxF (fun _=>false) k=[]
 |0=>rfl
 |k+1=>by rw[idxF,qK0 k];rfl
theorem qK1(j:Nat): ∀k,idxF (fun i=>decide (i=j)) k=if j<k then[(j:Int)]else[]
 |0=>rfl
 | k + 1 => by
   rw[idxF,qK1 j k]
   by_cases h:j<k
   ·rw[if_pos h,if_pos (show j<k+1 by omega),if_neg (show ¬decide (k=j)=true by simp;omega)];rfl
   ·rw[if_neg h]
    by_cases e:k=j
    ·subst e;simp
    ·rw[if_neg (show ¬decide (k=j)=true by simpa using e),if_neg (show ¬j<k+1 by omega)];rfl
theorem qK2(a:List Int):qyg a a=[]:=by
 unfold qyg
 rw[Nat.max_self,qJZ (q:=fun _=>false) _ fun i hi=> ?_,qK0]
 unfold unF
 exact decide_eq_false oM
theorem qK3(l:List Int)(i j:Nat)(v:Int):(l.set i v).getD j 0=if i=j/\i<l.length then v else l.getD j 0:=by
 rw[zK,List.getElem?_set,zK]
 by_cases h:i=j
 ·subst h
  by_cases h2:i<l.length<;>simp[h2]
 ·simp[h]
theorem qK4(a:List Int){j:Nat}(hj:j<a.length)(v:Int):qyg a (a.set j v)=if a.getD j 0=v then[]else[(j:Int)]:=by
 unfold qyg
 rw[yF,Nat.max_self]
 by_cases e:a.getD j 0=v
 ·rw[if_pos e,qJZ (q:=fun _=>false) _ fun i hi=> ?_,qK0]
  unfold unF
  rw[qK3,yF]
  refine decide_eq_false fun h=> ?_
  rcases h with h|h|h
  ·omega
  ·omega
  ·split at h
   ·rename_i h2;rw[<- h2.1]at h;exact h e
   ·exact h rfl
 ·rw[if_neg e,qJZ (q:=fun i=>decide (i=j)) _ fun i hi=> ?_,qK1,if_pos hj]
  unfold unF
  rw[qK3,yF,decide_eq_decide]
  constructor
  ·rintro(h|h|h)
   ·omega
   ·omega
   ·split at h
    ·rename_i h2;exact h2.1.symm
    ·exact absurd rfl h
  ·rintro rfl
   rw[if_pos ⟨rfl,hj⟩]
   exact .inr (.inr e)
theorem qK5(a:List Int){j:Nat}(hj:j<a.length){v:Int} :a=a.set j v ↔ a.getD j 0=v:=by
 constructor
 ·intro h
  rw[h,qK3,if_pos ⟨rfl,hj⟩]
 ·intro h
  refine(List.ext_getElem? fun i=> ?_)
  rw[List.getElem?_set]
  by_cases e:j=i
  ·subst e
   rw[if_pos rfl,if_pos hj,<- h,zK,zL hj]
   rfl
  ·rw[if_neg e]
theorem qKc:qvR []=[]:=List.mergeSort_nil
theorem qKe(c:Cfg):qyo c c=([],[]):=by
 unfold qyo qyn
 simp only[qK2,List.append_nil,qKc];rfl
end Go.Proofs.YtecoaapkcnhlhabGreatDoor
namespace Go.Proofs.YtecoaapkcnhlhabGreatDoor
open Go Go.Vc Go.Ham Txt
theorem qKg{g:Grid}(hg:GOk g){f f' :Fld}(h:f∈qCq g)(h' :f' ∈qCq g)(hk:f.kind=f'.kind)(hi:f.i=f'.i):f=f' :=by
 have hn:=qDd hg
 obtain⟨i,hi1,e1⟩:=List.getElem_of_mem h
 obtain⟨j,hj1,e2⟩:=List.getElem_of_mem h'
 have e:((qCq g).map fkey)[i]'(by simpa using hi1)=((qCq g).map fkey)[j]'(by simpa using hj1):=by
  rw[List.getElem_map,List.getElem_map,e1,e2]
  unfold fkey
  rw[hk,hi]
 have:=(List.getElem_inj hn).1 e
 subst this
 rw[<- e1,<- e2]
theorem qKh(c d:Nat->Nat->Nat)(x:Nat): ∀fs:List Fld,(∀f∈fs,f.x=x->c f.kind f.i=d f.kind f.i)->qBX fs c x=qBX fs d x
 |[],_=>rfl
 | f :: r, h => by
   rw[qC1,qC1,qKh c d x r fun f hf=>h f (zT _ hf)]
   by_cases e:f.x=x
   ·rw[if_pos e,if_pos e,h f zX e]
   ·rw[if_neg e,if_neg e]
theorem qKi{c d:Nat->Nat->Nat}{x:Nat}{fs:List Fld}(h: ∀f∈fs,f.x=x->c f.kind f.i=d f.kind f.i):rowB fs c x=rowB fs d x:=by
 unfold rowB qCb
 rw[qKh c d x fs h]
theorem qKj {g : Grid} (hg : GOk g) {c d : Cfg} (hc : validE g c = 0) (hd : validE g d = 0) {col : Nat} (hcol : col < wN g + 1) (h : ∀ f ∈ qCq g, f.x ≠ col -> cfgV c f.kind f.i = cfgV d f.kind f.i) :
  (c=d->qDx g c=qDx g d)/\(c≠d->qGz (qDx g c) (qDx g d)=[(col:Int)]):=by
 refine⟨fun e=>by rw[e],fun hne=> ?_⟩
 have lc:(qDx g c).length=wN g+1:=by simp[qDx]
 have ld:(qDx g d).length=wN g+1:=by simp[qDx]
 have hrow: ∀y,y<wN g+1->y≠col->(qDx g c).getD y []=(qDx g d).getD y []:=fun y hy hyc=>by
  rw[qDG hy,qDG hy]
  exact qKi fun f hf e=>h f hf (by rw[e];exact hyc)
 have hcolne:(qDx g c).getD col []≠(qDx g d).getD col []:=fun e=>by
  refine hne ?_
  have he:qDx g c=qDx g d:=by
   refine List.ext_getElem (by rw[lc,ld]) fun y h1 h2=> ?_
   have e2:(qDx g c).getD y []=(qDx g d).getD y []:=by
    by_cases hy:y=col
    ·subst hy;exact e
    ·exact hrow y oM hy
   rw[zK,zK,zL h1,zL h2]at e2
   exact e2
  rw[<- (qJ2 hg hc).2,<- (qJ2 hg hd).2,he]
 have key: ∀y,y<wN g+1->(difB (qDx g c) (qDx g d) y=true ↔ y=col):=fun y hy=>by
  unfold difB
  rw[lc,ld,decide_eq_false oM,Bool.false_or,Bool.false_or,Bool.not_eq_true',decide_eq_false_iff_not]
  show ¬((qDx g c).getD y []=(qDx g d).getD y []) ↔ y=col
  constructor
  ·intro hn
   exact Classical.byContradiction fun e=>hn (hrow y hy e)
  ·rintro rfl;exact hcolne
 unfold qGz
 rw[lc,ld,Nat.max_self,qJS key (wN g+1) (Nat.le_refl _),if_pos hcol]
def chgN(c:Cfg)(n:Nat)(v:Int):Cfg:= { c with sel:=c.sel.set n v }
theorem qKk{g:Grid}{c:Cfg}(h:validE g c=0){n:Nat}{v:Int}(hv:0<=v/\v<=(qwb g n).length):validE g (chgN c n v)=0:=by
 obtain⟨⟨l1,l2,l3,l4⟩,h2,h3⟩:=(qDs g c).1 h
 refine(qDs g _).2 ⟨⟨by simp only[chgN,yF];exact l1,l2,l3,l4⟩,fun i hi=> ?_,h3⟩
 unfold qyx
 show(c.sel.set n v).getD i 0≠0->_
 simp only[chgN]
 rw[qK3]
 split
 ·rename_i e
  obtain⟨rfl,_⟩:=e
  intro h0
  omega
 ·exact h2 i (by simpa[chgN]using hi)
def qKl(g:Grid)(n:Nat):Nat:=if n<wN g*hN g*eN g then n/eN g%wN g else wN g
theorem qKm{g:Grid}(hg:GOk g)(c:Cfg){n:Nat}(hn:n<cN g)(v:Int){f:Fld}(hf:f∈qCq g)(hx:f.x≠qKl g n):cfgV c f.kind f.i=cfgV (chgN c n v) f.kind f.i:=by
 unfold cfgV cfgI chgN
 by_cases hk:f.kind=0
 ·rw[if_pos hk,if_pos hk]
  have hi:f.i≠n:=fun e=>by
   obtain⟨f',h1,h2,h3,h4⟩:=qD9 hg hn
   have:=qKg hg hf h1 (by rw[hk,h2]) (by rw[e,h3])
   exact hx (by rw[this,h4];rfl)
  show _=((c.sel.set n v).getD f.i 0).toNat
  rw[qK3,if_neg (fun e=>hi e.1.symm)]
 ·rw[if_neg hk,if_neg hk]
theorem qKn{g:Grid}(hg:GOk g)(n:Nat):qKl g n<wN g+1:=by
 have:=hg.n.w1
 unfold qKl
 split
 ·have:=Nat.mod_lt (n/eN g) (show wN g>0 by omega);omega
 ·omega
theorem qKo(c:Cfg){n:Nat}(hn:n<c.sel.length)(v:Int):(c=chgN c n v/\qyo c (chgN c n v)=([],[]))\/(c≠chgN c n v/\qyo c (chgN c n v)=([(n:Int)],[])):=by
 obtain⟨sel,mode,tab,ram⟩:=c
 have hn:n<sel.length:=hn
 unfold chgN qyo qyn
 simp only[qK2,qK4 sel hn,List.append_nil,qKc]
 by_cases e:sel.getD n 0=v
 ·refine .inl ⟨?_,by rw[if_pos e];rfl⟩
  rw[<- (qK5 sel hn).2 e]
 ·refine .inr ⟨fun h=>e ((qK5 sel hn).1 (congrArg Cfg.sel h)),by rw[if_neg e];rfl⟩
def chgT(c:Cfg)(t:Nat)(b:Int):Cfg:= { c with mode:=c.mode.set t 2,tab:=c.tab.set t (257*b),ram:=c.ram.set t b }
theorem qKp{g:Grid}{c:Cfg}(h:validE g c=0){t:Nat}{b:Int}(hb:0<=b/\b<=255)(hk:g.kind.getD t 0≠0):validE g (chgT c t b)=0:=by
 obtain⟨⟨l1,l2,l3,l4⟩,h2,h3⟩:=(qDs g c).1 h
 refine(qDs g _).2 ⟨⟨l1,by simp only[chgT,yF];exact l2,by simp only[chgT,yF];exact l3,by simp only[chgT,yF];exact l4⟩,h2,fun i hi=> ?_⟩
 unfold qyy
 simp only[chgT]
 rw[qK3,qK3,qK3]
 by_cases e:t=i
 ·subst e
  rw[if_pos ⟨rfl,oM⟩,if_pos ⟨rfl,oM⟩,if_pos ⟨rfl,oM⟩]
  refine⟨oM,?_,by simp;omega,by simp;omega⟩
  unfold qwY
  rw[if_neg hk]
  split<;>simp
 ·rw[if_neg (fun q=>e q.1),if_neg (fun q=>e q.1),if_neg (fun q=>e q.1)]
  exact h3 i hi
theorem qKq{g:Grid}(hg:GOk g)(c:Cfg){t:Nat}(ht:t<g.kind.length)(b:Int){f:Fld}(hf:f∈qCq g)(hx:f.x≠t%wN g):cfgV c f.kind f.i=cfgV (chgT c t b) f.kind f.i:=by
 have hi:f.kind=1\/f.kind=2\/f.kind=3->f.i≠t:=fun hk e=>by
  obtain⟨f',h1,h2,h3,h4⟩:=qDa hg ht hk
  have:=qKg hg hf h1 (by rw[h2]) (by rw[e,h3])
  exact hx (by rw[this,h4])
 unfold cfgV cfgI chgT
 rcases(qD8 hg hf).key with h|h|h|h<;>have hk:=h.1<;>rw[hk]
 ·rfl
 ·show(c.mode.getD f.i 0).toNat=((c.mode.set t 2).getD f.i 0).toNat
  rw[qK3,if_neg (fun e=>hi (.inl hk) e.1.symm)]
 ·show(c.tab.getD f.i 0).toNat=((c.tab.set t (257*b)).getD f.i 0).toNat
  rw[qK3,if_neg (fun e=>hi (.inr (.inl hk)) e.1.symm)]
 ·show(c.ram.getD f.i 0).toNat=((c.ram.set t b).getD f.i 0).toNat
  rw[qK3,if_neg (fun e=>hi (.inr (.inr hk)) e.1.symm)]
theorem qKr (c : Cfg) {t : Nat} (h1 : t < c.mode.length) (h2 : t < c.tab.length) (h3 : t < c.ram.length) (b : Int) :
  (qyo c (chgT c t b)).1=[]/\((qyo c (chgT c t b)).2=[] ↔ c=chgT c t b):=by
 obtain⟨sel,mode,tab,ram⟩:=c
 have h1:t<mode.length:=h1
 have h2:t<tab.length:=h2
 have h3:t<ram.length:=h3
 have hs: ∀l:List Int,qvR l=[] ↔ l=[]:=fun l=>by
  have:=List.length_mergeSort (le:=fun a b=>decide (a<=b)) l
  constructor
  ·intro e
   have e2:(qvR l).length=l.length:=by unfold qvR;first|exact List.length_mergeSort l|simp
   rw[e]at e2
   exact List.eq_nil_of_length_eq_zero e2.symm
  ·rintro rfl;exact qKc
 have hcn: ∀l:List Int,Go.Lib.compact l=[] ↔ l=[]:=fun l=>by
  cases l with
  |nil=>exact⟨fun _=>rfl,fun _=>rfl⟩
  |cons x r=>
    refine⟨fun h=> ?_,fun h=>by cases h⟩
    have h0:0∈(List.range (x::r).length).filter (Go.Lib.keeps (x::r).toArray):=List.mem_filter.2 ⟨List.mem_range.2 (by simp),Go.Lib.keeps_lt_one _ 0 oM⟩
    have h' :=List.map_eq_nil_iff.1 (show((List.range (x::r).length).filter (Go.Lib.keeps (x::r).toArray)).map _=[]from h)
    rw[h']at h0
    cases h0
 unfold chgT qyo qyn
 simp only[qK2,qK4 mode h1,qK4 tab h2,qK4 ram h3,hcn,hs,true_and]
 have m1:=qK5 mode h1 (v:=2)
 have m2:=qK5 tab h2 (v:=257*b)
 have m3:=qK5 ram h3 (v:=b)
 constructor
 ·intro e
  simp only[List.append_eq_nil_iff]at e
  obtain⟨⟨e1,e2⟩,e3⟩:=e
  have f1:mode.getD t 0=2:=by
   refine Classical.byContradiction fun q=> ?_
   rw[if_neg q]at e1;cases e1
  have f2:tab.getD t 0=257*b:=by
   refine Classical.byContradiction fun q=> ?_
   rw[if_neg q]at e2;cases e2
  have f3:ram.getD t 0=b:=by
   refine Classical.byContradiction fun q=> ?_
   rw[if_neg q]at e3;cases e3
  rw[<- m1.2 f1,<- m2.2 f2,<- m3.2 f3]
 ·intro e
  have g1:=m1.1 (congrArg Cfg.mode e)
  have g2:=m2.1 (congrArg Cfg.tab e)
  have g3:=m3.1 (congrArg Cfg.ram e)
  rw[if_pos g1,if_pos g2,if_pos g3];rfl
theorem qKs{g:Grid}(hg:GOk g){n:Nat}(hn:n<cN g):colF g (n:Int)=(qKl g n:Nat):=by
 have q:=hg.n
 have e1:(n:Int)/qv1 g=((n/eN g:Nat):Int):=by rw[<- q.e];rfl
 have e2:g.w*g.h=((wN g*hN g:Nat):Int):=by rw[Int.natCast_mul,q.w,q.h]
 have hlt:n/eN g<wN g*hN g ↔ n<wN g*hN g*eN g:=Nat.div_lt_iff_lt_mul (by have:=q.e1;omega)
 unfold colF qKl
 rw[if_neg (by rw[<- q.c];omega),e1,e2]
 by_cases h:n<wN g*hN g*eN g
 ·have:=hlt.2 h
  rw[if_pos h,if_neg oM,<- q.w];rfl
 ·have h2: ¬n/eN g<wN g*hN g:=fun e=>h (hlt.1 e)
  rw[if_neg h,if_pos oM,q.w]
end Go.Proofs.YtecoaapkcnhlhabGreatDoor
