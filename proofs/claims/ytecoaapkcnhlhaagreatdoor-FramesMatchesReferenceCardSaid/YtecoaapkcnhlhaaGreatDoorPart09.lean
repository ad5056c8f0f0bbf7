/- J K L TxtB M N VcZp TxtE VcZq O P Q DA S R DB DC DD: lemmas -/
import Derived.Test.YtecoaapkcnhlhaaGreatDoorPart08
import Derived.Test.YtecoaapkcnhlhaaGreatDoorPart05
import Derived.Test.YtecoaapkcnhlhaaGreatDoorChecked
import Derived.Recover
set_option linter.unusedSimpArgs false
set_option linter.unusedVariables false
open Array renaming getD_eq_getD_getElem? ->zO
open Bool renaming and_eq_true->zN
open List renaming getElem?_eq_some_iff->zM,mem_cons_of_mem->zT,length_append->zU,mem_cons_self->zX,take_succ_eq_append_getElem->zZ,mem_append->yC,all_eq_true->yE
open Int renaming reduceToNat->zH,reduceNeg->zJ
open Nat renaming reduceEqDiff->zA,reduceAdd->zB,reduceSub->zC,reduceMul->zD,reduceBEq->zE,reduceLT->zF,reduceLeDiff->zG
namespace Go.Proofs.YtecoaapkcnhlhaaGreatDoor
open Go Go.Vc Txt
theorem qw6 (b : Int) {z : List (Nat × PV)} (hz : z = [(0, .ptr 2 0), (1, .ptr 5 0), (2, .ptr 7 0), (3, .ptr 18 0), (4, .ptr 103 0)]) {bx : List (Nat × List PV)} (hb : lk bx 103 = some [.int b]) :
  FnM (Env.of Tryz.prog) 110 [.nil,.clo 111 [103]] ⟨z,bx,[],[]⟩ (fun r st' =>r= .nil/\st' =⟨z,bx,[],[]⟩):=by
 subst hz
 refine quf 150 Tryz.func110 ok110_150 (by show 2<=_;decide) rfl (by show 0<=150;decide) ?_
 simp only[hb,ac110_150,rv110_150,push_cast,reduceIte,zA,zB,zC,zD,zE,zF,zG,reduceCtorEq,zH,zJ,cNI]
 have hI:=qvY [] (fun x=>decide (x=b)) 111 [.iptr false [.int b] 0] (by kernel_rfl) (fun x _=>qvZ x b) (by simp)
 rw[show fidx (fun x=>decide (x=b)) []= -1 from rfl]at hI
 refine qrv hI ⟨.nil _ _,.refl _,trivial⟩ ?_
 exact sC
theorem qw7 {id ty n : Nat} {zs : List Int} (hn : n = zs.length) {s : List (Nat × PV)} {b : List (Nat × List PV)} {a : List (Nat × Arr)} {m : List (Nat × Mp)} (hA : lk a id = some ⟨1, ty, ints zs⟩) (hl : zs.length < 4611686018427387904) :
  FnM (Env.of Tryz.prog) 108 [.view id 0 n] ⟨s,b,a,m⟩ fun r st' =>r= .tup []/\st' =⟨s,b,up a id ⟨1,ty,ints (qvR zs)⟩,m⟩:=by subst hn;exact qvS hA hl
theorem qw8 {id ty n : Nat} {zs : List Int} (hn : n = zs.length) {s : List (Nat × PV)} {b : List (Nat × List PV)} {a : List (Nat × Arr)} {m : List (Nat × Mp)} (hA : lk a id = some ⟨1, ty, ints zs⟩) (hl : zs.length <= 9223372036854775807) :
  FnM (Env.of Tryz.prog) 109 [.view id 0 n] ⟨s,b,a,m⟩ fun r st' =>r= .view id 0 (Go.Lib.compact zs).length/\st' =⟨s,b,up a id ⟨1,ty,ints (Go.Lib.compact zs++List.replicate (zs.length-(Go.Lib.compact zs).length) 0)⟩,m⟩:=by
 subst hn;exact qvU hA hl
def qw9(l:List Int)(b:Int):List Int:=delF (Go.Lib.compact (qvR l)) b
def SRes(l:List Int)(b:Int)(r:PV)(a:List (Nat×Arr)):Prop:=
 (r= .nil/\qw9 l b=[]/\a=[])\/ ∃ys:List Int,r= .view 434 0 (qw9 l b).length/\ys.take (qw9 l b).length=qw9 l b/\a=[(434,⟨1,3,ints ys⟩)]
theorem qwa (g : Grid) (s : Spot) (l : List Int) (hl : (l.length : Int) <= 1000000) (b : Int) :
  FnM (Env.of Tryz.prog) 102 [.ptr 18 0,.int b] (stX P4 g s l []) (fun r st' => ∃b' a',st' =⟨P4,b',a',[]⟩/\SRes l b r a'):=by
 by_cases hn:l=[]
 ·subst hn
  rw[qvv,qvL]
  refine quf 100 Tryz.func102 ok102_100 (by show 2<=_;decide) rfl (by show 0<=100;decide) ?_
  simp only[ac102_100,rv102_100,push_cast,reduceIte,zA,zB,zC,zD,zE,zF,zG,reduceCtorEq,zH,zJ,cNI]
  refine qsP qvP ?_
  refine sB ?_
  refine qsP qvQ ?_
  refine sB ?_
  refine qsO (Q:=fun r st' =>r= .nil/\ ∃b',st' =⟨[(0,.ptr 2 0),(1,.ptr 5 0),(2,.ptr 7 0),(3,.ptr 18 0)],b',[],[]⟩) (FnM.frame [(0,.ptr 2 0),(1,.ptr 5 0),(2,.ptr 7 0),(3,.ptr 18 0),(4,.ptr 103 0)] [(0,.ptr 2 0),(1,.ptr 5 0),(2,.ptr 7 0),(3,.ptr 18 0)] rfl rfl sC (FnM.mono (qw6 b rfl rfl) fun r st' hq=> ?_)) ?_
  ·exact⟨_,_,_,hq.2,hq.1,_,rfl⟩
  ·rintro r st' ⟨rfl,b',rfl⟩
   refine sB ?_
   exact⟨_,_,rfl,.inl ⟨rfl,by simp[qw9,qvR,Go.Lib.compact,Go.Lib.compactUpTo,delF],rfl⟩⟩
 ·rw[qvv,qvL,qvq hn,qvr hn]
  refine quf 100 Tryz.func102 ok102_100 (by show 2<=_;decide) rfl (by show 0<=100;decide) ?_
  simp only[ac102_100,rv102_100,push_cast,reduceIte,zA,zB,zC,zD,zE,zF,zG,reduceCtorEq,zH,zJ,cNI]
  refine qsP (qw7 rfl rfl oM) ?_
  refine sB ?_
  refine qsP (qw8 (by rw[qvR,List.length_mergeSort]) rfl (by rw[qvR,List.length_mergeSort];omega)) ?_
  refine sB ?_
  have hlc:=qvT (qvR l)
  have hls:(qvR l).length=l.length:=by rw[qvR,List.length_mergeSort]
  have hdel:=qw5 g s (Go.Lib.compact (qvR l)++List.replicate ((qvR l).length-(Go.Lib.compact (qvR l)).length) 0) (Go.Lib.compact (qvR l)).length (by simp) (by simp;omega) b .bot
  rw[List.take_left' rfl]at hdel
  refine qsO (Q:=fun r st' => ∃ys:List Int,r= .view 434 0 (qw9 l b).length/\ys.take (qw9 l b).length=qw9 l b/\st' =⟨[(0,.ptr 2 0),(1,.ptr 5 0),(2,.ptr 7 0),(3,.ptr 18 0)],[(2,quX false g),(5,quY s),(7,[.ptr 18 0]),(18,[.int g.w,.int g.h,.int g.tracks,.int g.pads,.sl false 1 (ints g.kind),.view 434 0 (Go.Lib.compact (qvR l)).length]),(103,[.int b])],[(434,⟨1,3,ints ys⟩)],[]⟩)
   (FnM.frame [(0,.ptr 2 0),(1,.ptr 5 0),(2,.ptr 7 0),(3,.ptr 18 0),(4,.ptr 103 0)] [(0,.ptr 2 0),(1,.ptr 5 0),(2,.ptr 7 0),(3,.ptr 18 0)] rfl rfl sC (FnM.mono hdel fun r st' hq=> ?_)) ?_
  ·obtain⟨ys,q1,q2,q3,q4⟩:=hq
   exact⟨_,_,_,q4,ys,q1,q3,rfl⟩
  ·rintro r st' ⟨ys,rfl,q2,rfl⟩
   refine sB ?_
   exact⟨rfl,_,_,rfl,.inr ⟨ys,rfl,q2,rfl⟩⟩
def rawD(g:Grid)(s:Spot):List Int:=
 if s.kind=3 then(if s.i=3 then addF g (allF g [] s.x s.y) ⟨1,s.x,s.y-1,0⟩else allF g [] s.x s.y)
 else if s.kind=7 then allF g [] (g.w-1) s.y
 else if s.kind=4\/s.kind=5 then qvJ g s []
 else[]
def qwb(g:Grid)(n:Int):List Int:=if(qv9 g n).2=0 then qw9 (rawD g (qv9 g n).1) n else[]
theorem qwc{g:Grid}(hg:GOk g){n:Int}(h: ¬(n<0\/qv2 g<=n)):SOk (qv8 g n)/\(0<=(qv8 g n).i/\(qv8 g n).i<=1000)/\((qv8 g n).kind<=5->(0<=(qv8 g n).x/\(qv8 g n).x<g.w)/\(0<=(qv8 g n).y/\(qv8 g n).y<g.h)/\(qv8 g n).i<=64)/\(0<=(qv8 g n).y/\(qv8 g n).y<g.h):=by
 have h1:=hg.all
 have h2:=hg.each
 have h4:=hg.pads
 have hw:=hg.w
 have hh:=hg.h
 have ht:=hg.tracks
 have hc:qv2 g=allI g+2*g.pads:=rfl
 have e4:qv1 g=6+2*g.tracks:=rfl
 have e2:=Int.emod_nonneg n (show qv1 g≠0 by omega)
 have e3:=Int.emod_lt_of_pos n (show 0<qv1 g by omega)
 unfold qv8
 split
 ·have:=Int.emod_nonneg (n-allI g-g.pads) (show g.h≠0 by omega)
  have:=Int.emod_lt_of_pos (n-allI g-g.pads) (show 0<g.h by omega)
  exact⟨⟨by simp only;omega,by simp only;omega,by simp only;omega⟩,by simp only;omega,fun h=>absurd h (by simp only;omega),by simp only;omega⟩
 ·split
  ·have:=Int.emod_nonneg (n-allI g) (show g.h≠0 by omega)
   have:=Int.emod_lt_of_pos (n-allI g) (show 0<g.h by omega)
   exact⟨⟨by simp only;omega,by simp only;omega,by simp only;omega⟩,by simp only;omega,fun h=>absurd h (by simp only;omega),by simp only;omega⟩
  ·have x1:=Int.emod_nonneg (n/qv1 g) (show g.w≠0 by omega)
   have x2:=Int.emod_lt_of_pos (n/qv1 g) (show 0<g.w by omega)
   have y0:0<=n/qv1 g:=Int.ediv_nonneg oM oM
   have y1:0<=n/qv1 g/g.w:=Int.ediv_nonneg y0 oM
   have y2:n/qv1 g/g.w<g.h:=by
    rw[Int.ediv_lt_iff_lt_mul oM,Int.ediv_lt_iff_lt_mul oM,Int.mul_comm g.h g.w]
    show n<allI g
    omega
   simp only
   generalize n/qv1 g/g.w=Y at y1 y2 ⊢
   generalize n/qv1 g%g.w=X at x1 x2 ⊢
   generalize n%qv1 g=I at e2 e3 ⊢
   split
   ·exact⟨⟨by simp only;omega,by simp only;omega,by simp only;omega⟩,by simp only;omega,fun _=>by simp only;omega,by simp only;omega⟩
   ·split
    ·exact⟨⟨by simp only;omega,by simp only;omega,by simp only;omega⟩,by simp only;omega,fun _=>by simp only;omega,by simp only;omega⟩
    ·split
     ·exact⟨⟨by simp only;omega,by simp only;omega,by simp only;omega⟩,by simp only;omega,fun _=>by simp only;omega,by simp only;omega⟩
     ·split<;>exact⟨⟨by simp only;omega,by simp only;omega,by simp only;omega⟩,by simp only;omega,fun _=>by simp only;omega,by simp only;omega⟩
theorem qwd {f : Nat} {args : List PV} {z : List (Nat × PV)} (t : List (Nat × PV)) {g : Grid} {s : Spot} {l l' : List Int} {xs : List (Nat × List PV)} (hz : frT z P4 t) (h : FnM (Env.of Tryz.prog) f args (stX P4 g s l xs) (fun r st' => r = .tup [] /\ st' = stX P4 g s l' xs)) :
  FnM (Env.of Tryz.prog) f args (stX z g s l xs) (fun r st' =>r= .tup []/\st' =stX t g s l' xs):=
 FnM.frame P4 t rfl rfl hz (FnM.mono h fun r st' hq=>by
  obtain⟨rfl,rfl⟩:=hq
  exact⟨_,_,_,rfl,rfl,rfl⟩)
theorem qwe (g : Grid) (s : Spot) (l : List Int) (hl : (l.length : Int) <= 1000000) (n : Int) (st : St) (hst : st.keepS [0, 58, 1, 7] = stX [(1, .int n), (7, .ptr 7 0)] g s l []) (Q : PV -> Prop)
  (hq: ∀v,Sub v (.sl true 1 (ints (qw9 l n)))->Q v):awp (Env.of Tryz.prog) ac80_r15 (retK [RV.tmp 4] Q) st:=by
 simp only[ac80_r15,push_cast,reduceIte,zA,zB,zC,zD,zE,zF,zG,reduceCtorEq,zH,zJ,cNI,hst,qvv]
 refine qsO (Q:=fun r st' => ∃b' a',st' =⟨[(1,.int n),(7,.ptr 7 0)],b',a',[]⟩/\SRes l n r a')
  (FnM.frame P4 [(1,.int n),(7,.ptr 7 0)] rfl rfl sC (FnM.mono (qwa g s l hl n) fun r st' hq=> ?_)) ?_
 ·obtain⟨b',a',rfl,h⟩:=hq
  exact⟨b',a',[],rfl,b',a',rfl,h⟩
 ·rintro r st' ⟨b',a',rfl,⟨rfl,h2,rfl⟩|⟨ys,rfl,h2,rfl⟩⟩
  ·refine sB ?_
   exact hq _ (by rw[h2];exact .nil true 1)
  ·refine sB ?_
   exact⟨fun _ _=>trivial,hq _ (by rw[h2];exact .refl _)⟩
theorem qwf(g:Grid)(hg:GOk g)(n:Int)(hn: -1000000000<=n/\n<=1000000000):FnEq Tryz.prog 80 [.agg (quX false g),.int n] (.sl true 1 (ints (qwb g n))):=by
 refine FnEq.of_awp Tryz.func80 ok80 (by show 2<=_;decide) (by simp only[push_cast,reduceIte,zA,zB,zC,zD,zE,zF,zG,reduceCtorEq,zH,zJ,cNI]<;>first|exact fun _ _=>trivial|simp) ?_
 simp only[ac80,rv80,push_cast,reduceIte,zA,zB,zC,zD,zE,zF,zG,reduceCtorEq,zH,zJ,cNI]
 have hD:=qvb g hg n hn
 by_cases hE:n<0\/qv2 g<=n
 ·have e:qv9 g n=(⟨0,0,0,0⟩,1):=by rw[qv9,if_pos hE]
  have e2:qwb g n=[]:=by rw[qwb,e];rfl
  rw[e]at hD
  refine qrv hD sC ?_
  simp only[qva,push_cast,reduceIte,zA,zB,zC,zD,zE,zF,zG,reduceCtorEq,zH,zJ,cNI]
  refine qnY (fun _=> ?_) fun h=>absurd (by decide) h
  exact e2
 have e:qv9 g n=(qv8 g n,0):=by rw[qv9,if_neg hE]
 obtain⟨r1,r2,r3,r4⟩:=qwc hg hE
 have e2:qwb g n=qw9 (rawD g (qv8 g n)) n:=by rw[qwb,e];rfl
 rw[e]at hD
 refine qrv hD sC ?_
 simp only[qva,push_cast,reduceIte,zA,zB,zC,zD,zE,zF,zG,reduceCtorEq,zH,zJ,cNI]
 rw[e2]
 generalize qv8 g n=s at r1 r2 r3 r4 ⊢
 have hw:=hg.w
 have hh:=hg.h
 have ht:=hg.tracks
 have hal: ∀x y,(allF g [] x y).length<=256:=fun x y=>by
  have:=qvA g x y [] g.tracks.toNat
  rw[allF]
  simp only[List.length_nil]at this
  omega
 refine qnY (fun h=>absurd rfl h) fun _=> ?_
 refine qnY (fun k3=> ?_) fun k3=> ?_
 ·obtain⟨⟨x1,x2⟩,⟨y1,y2⟩,i1⟩:=r3 oM
  refine qsP (qvE [(1,.int n),(5,.ptr 5 0),(7,.ptr 7 0)] ?_ (qvB g hg s [] (by simp) s.x s.y oM)) ?_
  ·exact sC
  simp only[qvv,push_cast,reduceIte,zA,zB,zC,zD,zE,zF,zG,reduceCtorEq,zH,zJ,cNI]
  refine qnY (fun k4=> ?_) fun k4=> ?_
  ·refine⟨oM,?_⟩
   refine qsP (qvE [(1,.int n),(7,.ptr 7 0)] ?_ (qvt g hg s (allF g [] s.x s.y) (by have:=hal s.x s.y;omega) [] (fun i=>rfl) ⟨1,s.x,s.y-1,0⟩ ⟨by show -1<=s.x/\s.x<=65;omega,by show -1<=s.y-1/\s.y-1<=65;omega,by show(-1:Int)<=0/\(0:Int)<=2000;omega⟩)) ?_
   ·exact sC
   simp only[qvv,push_cast,reduceIte,zA,zB,zC,zD,zE,zF,zG,reduceCtorEq,zH,zJ,cNI]
   have hr:rawD g s=addF g (allF g [] s.x s.y) ⟨1,s.x,s.y-1,0⟩:=by rw[rawD,if_pos k3,if_pos k4]
   rw[<- hr]
   refine qwe g s (rawD g s) (by rw[hr];have:=qvs g (allF g [] s.x s.y) ⟨1,s.x,s.y-1,0⟩;have:=hal s.x s.y;omega) n _ (by simp only[qvv,push_cast,reduceIte,zA,zB,zC,zD,zE,zF,zG,reduceCtorEq,zH,zJ,cNI]) _ fun v hv=>hv
  ·have hr:rawD g s=allF g [] s.x s.y:=by rw[rawD,if_pos k3,if_neg k4]
   rw[<- hr]
   refine qwe g s (rawD g s) (by rw[hr];have:=hal s.x s.y;omega) n _ (by simp only[qvv,push_cast,reduceIte,zA,zB,zC,zD,zE,zF,zG,reduceCtorEq,zH,zJ,cNI]) _ fun v hv=>hv
 refine qnY (fun k7=> ?_) fun k7=> ?_
 ·refine⟨oM,?_⟩
  refine qsP (qvE [(1,.int n),(7,.ptr 7 0)] ?_ (qvB g hg s [] (by simp) (g.w-1) s.y oM)) ?_
  ·exact sC
  simp only[qvv,push_cast,reduceIte,zA,zB,zC,zD,zE,zF,zG,reduceCtorEq,zH,zJ,cNI]
  have hr:rawD g s=allF g [] (g.w-1) s.y:=by rw[rawD,if_neg k3,if_pos k7]
  rw[<- hr]
  refine qwe g s (rawD g s) (by rw[hr];have:=hal (g.w-1) s.y;omega) n _ (by simp only[qvv,push_cast,reduceIte,zA,zB,zC,zD,zE,zF,zG,reduceCtorEq,zH,zJ,cNI]) _ fun v hv=>hv
 have key:(s.kind=4\/s.kind=5)->FnM (Env.of Tryz.prog) 99 [.agg (quX false g),.agg (quY s),.clo 100 [7,5,2]] (stX P4 g s [] []) (fun r st' =>r= .tup []/\st' =stX P4 g s (qvJ g s []) []):=fun h=>by
  obtain⟨⟨x1,x2⟩,⟨y1,y2⟩,i1⟩:=r3 oM
  exact qvN g hg s r1 oM ⟨⟨x1,x2⟩,y1,y2⟩ [] (by simp)
 have hle:((qvJ g s []).length:Int)<=1000000:=by
  have h1:=qvF g hg s [] s.x s.y
  have h2:=fun x y=>qvF g hg s (endF g s [] s.x s.y) x y
  simp only[List.length_nil]at h1
  have e:qvJ g s []=qvM g s (endF g s [] s.x s.y):=rfl
  rw[e,qvM]
  split<;>split<;>first|omega|(have:=h2 (s.x+1) s.y;omega)|(have:=h2 s.x (s.y+1);omega)
 refine qnY (fun k4=>qnY (fun _=> ?_) fun h=>absurd k4 h) fun k4=> ?_
 ·skip
  refine qsP (qwd [(1,.int n),(7,.ptr 7 0)] ?_ (key (.inl k4))) ?_
  ·exact sC
  simp only[qvv,push_cast,reduceIte,zA,zB,zC,zD,zE,zF,zG,reduceCtorEq,zH,zJ,cNI]
  have hr:rawD g s=qvJ g s []:=by rw[rawD,if_neg k3,if_neg k7,if_pos (.inl k4)]
  rw[<- hr]
  refine qwe g s (rawD g s) (by rw[hr];exact hle) n _ (by simp only[qvv,push_cast,reduceIte,zA,zB,zC,zD,zE,zF,zG,reduceCtorEq,zH,zJ,cNI]) _ fun v hv=>hv
 refine qnY (fun k5=> ?_) fun k5=> ?_
 ·skip
  refine qsP (qwd [(1,.int n),(7,.ptr 7 0)] ?_ (key (.inr k5))) ?_
  ·exact sC
  simp only[qvv,push_cast,reduceIte,zA,zB,zC,zD,zE,zF,zG,reduceCtorEq,zH,zJ,cNI]
  have hr:rawD g s=qvJ g s []:=by rw[rawD,if_neg k3,if_neg k7,if_pos (.inr k5)]
  rw[<- hr]
  refine qwe g s (rawD g s) (by rw[hr];exact hle) n _ (by simp only[qvv,push_cast,reduceIte,zA,zB,zC,zD,zE,zF,zG,reduceCtorEq,zH,zJ,cNI]) _ fun v hv=>hv
 ·have hr:rawD g s=[]:=by rw[rawD,if_neg k3,if_neg k7,if_neg (fun h=>h.elim k4 k5)]
  rw[hr]
  refine qwe g s [] (by simp) n _ (by simp only[qvv,lv,la,push_cast,reduceIte,zA,zB,zC,zD,zE,zF,zG,reduceCtorEq,zH,zJ,cNI]) _ fun v hv=>hv
def Adj(g:Grid)(w:Spot)(x y:Int):Prop:=
 ¬(x<0\/g.w<=x\/y<0\/g.h<=y)/\(((w.kind=4\/w.kind=5)/\w.x=x/\w.y=y)\/(w.kind=4/\w.x+1=x/\w.y=y)\/(w.kind=5/\w.x=x/\w.y+1=y))
instance (g:Grid) (w:Spot) (x y:Int):Decidable (Adj g w x y):=by unfold Adj;infer_instance
set_option maxHeartbeats 2000000 in
set_option maxRecDepth 10000 in
theorem qwg(g:Grid)(w:Spot)(hw:SOk w)(x y:Int):FnEq Tryz.prog 93 [.agg (quX false g),.agg (quY w),.int x,.int y] (.bool (decide (Adj g w x y))):=by
 have hx:=hw.x
 have hy:=hw.y
 obtain⟨k,wx,wy,wi⟩:=w
 simp only at hx hy
 refine FnEq.of_awp Tryz.func93 ok93 (by show 4<=_;decide) (by simp only[push_cast,reduceIte,zA,zB,zC,zD,zE,zF,zG,reduceCtorEq,zH,zJ,cNI]<;>first|exact fun _ _=>trivial|simp) ?_
 simp only[ac93,rv93,push_cast,reduceIte,zA,zB,zC,zD,zE,zF,zG,reduceCtorEq,zH,zJ,cNI]
 refine qrH ⟨[(2,.int x),(3,.int y),(5,.ptr 5 0),(26,.bool (decide (x<0\/g.w<=x\/y<0\/g.h<=y)))],[(4,quX false g),(5,quY ⟨k,wx,wy,wi⟩)],[],[]⟩ ?_ ?_
 ·refine qrA rfl (fun h=> ?_) fun h=> ?_<;>simp only[push_cast,reduceIte,zA,zB,zC,zD,zE,zF,zG,reduceCtorEq,zH,zJ,cNI]
  ·simp[h]
  refine qrA rfl (fun h2=> ?_) fun h2=> ?_<;>simp only[push_cast,reduceIte,zA,zB,zC,zD,zE,zF,zG,reduceCtorEq,zH,zJ,cNI]
  ·simp[h,h2]
  refine qrA rfl (fun h3=> ?_) fun h3=> ?_<;>simp only[push_cast,reduceIte,zA,zB,zC,zD,zE,zF,zG,reduceCtorEq,zH,zJ,cNI]
  ·simp[h,h2,h3]
  simp[h,h2,h3]
 have hA: ¬(x<0\/g.w<=x\/y<0\/g.h<=y)->decide (Adj g ⟨k,wx,wy,wi⟩ x y)=((decide (k=4)||decide (k=5))&&decide (wx=x)&&decide (wy=y)||decide (k=4)&&decide (wx+1=x)&&decide (wy=y)||decide (k=5)&&decide (wx=x)&&decide (wy+1=y)):=fun h=>by
  rw[Bool.eq_iff_iff]
  simp[Adj,h]
  constructor
  ·rintro(⟨h1,h2,h3⟩|⟨h1,h2,h3⟩|⟨h1,h2,h3⟩)
   ·exact .inl (.inl ⟨⟨h1,h2⟩,h3⟩)
   ·exact .inl (.inr ⟨⟨h1,h2⟩,h3⟩)
   ·exact .inr ⟨⟨h1,h2⟩,h3⟩
  ·rintro((⟨⟨h1,h2⟩,h3⟩|⟨⟨h1,h2⟩,h3⟩)|⟨⟨h1,h2⟩,h3⟩)
   ·exact .inl ⟨h1,h2,h3⟩
   ·exact .inr (.inl ⟨h1,h2,h3⟩)
   ·exact .inr (.inr ⟨h1,h2,h3⟩)
 refine sB ?_
 refine qnY (fun h=> ?_) fun h=> ?_
 ·exact congrArg Value.bool (decide_eq_false (fun hh=>hh.1 h)).symm
 have hA:=hA h
 cases h4:decide (k=4)
 ·cases h5:decide (k=5)
  ·rw[h4,h5]at hA
   simp only[h4,h5,push_cast,reduceIte,zA,zB,zC,zD,zE,zF,zG,reduceCtorEq,zH,zJ,cNI]
   first|exact congrArg Value.bool hA.symm|exact⟨oM,congrArg Value.bool hA.symm⟩|exact⟨oM,oM,congrArg Value.bool hA.symm⟩
  ·cases hD : decide (wy = y) <;> cases hC : decide (wx = x) <;> cases hF : decide (wy + 1 = y) <;> rw [h4, h5, hC, hD, hF] at hA <;> simp only [h4, h5, hC, hD, hF, push_cast, reduceIte, zA, zB, zC, zD, zE, zF, zG, reduceCtorEq, zH, zJ, cNI] <;>
    first|exact congrArg Value.bool hA.symm|exact⟨oM,congrArg Value.bool hA.symm⟩|exact⟨oM,oM,congrArg Value.bool hA.symm⟩
 ·have h5:decide (k=5)=false:=by simp at h4 ⊢;omega
  cases hD:decide (wy=y)<;>cases hC:decide (wx=x)<;>cases hE:decide (wx+1=x)<;>rw[h4,h5,hC,hD,hE]at hA<;>simp only[h4,h5,hC,hD,hE,push_cast,reduceIte,zA,zB,zC,zD,zE,zF,zG,reduceCtorEq,zH,zJ,cNI]<;>
   first|exact congrArg Value.bool hA.symm|exact⟨oM,congrArg Value.bool hA.symm⟩|exact⟨oM,oM,congrArg Value.bool hA.symm⟩
end Go.Proofs.YtecoaapkcnhlhaaGreatDoor
namespace Go.Proofs.YtecoaapkcnhlhaaGreatDoor.Txt
open Go Go.Vc
set_option maxRecDepth 100000
def ac78b_r10:AC:=
 (.seq (.seq (.reg [0,107,3,4,5] [
 uE 62 4 5,aO 63 (.cal 94 [(.t 62)])])
 (.cond (.t 63)
 (.seq (.reg [0,107,3,4,5] [
 uE 64 4 4,uE 65 4 5,aO 66 (.eqa true 4 (.t 64) (.t 65)),mT 67 66,uB 68 67 (.fa 3 (.t 4)),uB 69 67 (.ld false 1 (.t 68)),uB 70 67 (.fa 3 (.t 5)),uB 71 67 (.ld false 1 (.t 70)),uB 72 67 (.cmp .eql .i64 (.t 69) (.t 71)),aO 73 (pF 67 72),mT 74 73,uB 75 74 (.ld true 5 (.t 3)),uB 76 74 (.ld true 4 (.t 4)),uB 77 74 (.ld true 4 (.t 5)),uB 78 74 (.cal 95 [(.t 75),(.t 76),(.t 77)]),aO 79 (pF 74 78),mT 6 79])
 .ret)
 .skip))
 (.seq (.reg [0,107,3,4,5] [
 fA 80 0 5,lF 81 1 80,eK 82 81 3,mT 83 82,uB 84 83 (.ld true 5 (.t 3)),uB 85 83 (.ld true 4 (.t 4)),uB 86 83 (.fa 1 (.t 5)),uB 87 83 (.ld false 1 (.t 86)),uB 88 83 (.fa 2 (.t 5)),uB 89 83 (.ld false 1 (.t 88)),uB 90 83 (.cal 93 [(.t 84),(.t 85),(.t 87),(.t 89)]),aO 91 (pF 83 90),mT 92 91,uA 93 92 (.fa 0 (.t 5)),uA 94 92 (.ld false 1 (.t 93)),uA 95 92 (.cmp .eql .i64 (.t 94) (kI 7)),uA 96 92 (.mv (.t 95)),uB 97 96 (.ld true 5 (.t 3)),uB 98 96 (.ld true 4 (.t 4)),uB 99 96 (.fa 0 (.t 3)),uB 100 96 (.ld false 1 (.t 99)),uB 101 96 (.ari .sub true .i64 (.t 100) (kI 1)),uB 102 96 (.fa 2 (.t 5)),uB 103 96 (.ld false 1 (.t 102)),uB 104 96 (.cal 93 [(.t 97),(.t 98),(.t 101),(.t 103)]),uA 105 92 (pF 96 104),aO 106 (uG 92 105),mT 6 106])
 .ret))
def ac78b:AC:=
 (.seq (.reg [0,107,0,1,2] [
 xT 3 0,xT 4 1,xT 5 2,aO 6 (.mv bF)])
 (.seq (.seq (.reg [0,107,3,4,5] [
 fA 7 0 4,lF 8 1 7])
 (.block 0
 (.seq (.reg [0,107,3,4,5,8] [
 eK 10 8 1,mT 9 10])
 (.cond (.t 9)
 (.seq (.reg [0,107,3,4,5] [
 uE 11 5 3,uE 12 4 5,fA 13 1 4,lF 14 1 13,fA 15 2 4,lF 16 1 15,aO 17 (.cal 93 [(.t 11),(.t 12),(.t 14),(.t 16)]),mT 18 17,uA 19 18 (.fa 0 (.t 5)),uA 20 18 (.ld false 1 (.t 19)),uA 21 18 (.cmp .eql .i64 (.t 20) (kI 3)),uA 22 18 (.mv (.t 21)),uB 23 22 (.fa 3 (.t 5)),uB 24 22 (.ld false 1 (.t 23)),uB 25 22 (.cmp .eql .i64 (.t 24) (kI 3)),uA 26 18 (pF 22 25),uA 27 18 (.mv (.t 26)),uB 28 27 (.fa 1 (.t 5)),uB 29 27 (.ld false 1 (.t 28)),uB 30 27 (.fa 1 (.t 4)),uB 31 27 (.ld false 1 (.t 30)),uB 32 27 (.cmp .eql .i64 (.t 29) (.t 31)),uA 33 18 (pF 27 32),uA 34 18 (.mv (.t 33)),uB 35 34 (.fa 2 (.t 5)),uB 36 34 (.ld false 1 (.t 35)),uB 37 34 (.fa 2 (.t 4)),uB 38 34 (.ld false 1 (.t 37)),uB 39 34 (.ari .add true .i64 (.t 38) (kI 1)),uB 40 34 (.cmp .eql .i64 (.t 36) (.t 39)),uA 41 18 (pF 34 40),aO 42 (uG 18 41),mT 6 42])
 .ret)
 (.seq (.reg [0,107,3,4,5,8] [
 eK 44 8 2,mT 43 44])
 (.cond (.t 43)
 (.seq (.reg [0,107,3,4,5] [
 uE 45 5 3,uE 46 4 5,fA 47 1 4,lF 48 1 47,fA 49 2 4,lF 50 1 49,aO 51 (.cal 93 [(.t 45),(.t 46),(.t 48),(.t 50)]),mT 6 51])
 .ret)
 (.seq (.reg [0,107,3,4,5,8] [
 eK 53 8 6,mT 52 53])
 (.cond (.t 52)
 (.seq (.reg [0,107,3,4,5] [
 uE 54 5 3,uE 55 4 5,fA 56 2 4,lF 57 1 56,aO 58 (.cal 93 [(.t 54),(.t 55),(kI 0),(.t 57)]),mT 6 58])
 .ret)
 (.seq (.seq (.reg [0,107,3,4,5,8] [
 eK 60 8 4,mT 59 60])
 (.cond (.t 59)
 .skip
 (.reg [0,107,3,4,5,8] [
 eK 61 8 5,mT 59 61])))
 (.cond (.t 59)
 ac78b_r10
 .skip))))))))))
 (.seq (.reg [0,107] [
 aO 6 (.mv bF)])
 .ret)))
def rv78b:List RV:=[.tmp 6]
theorem ok78b:fnOk Tryz.prog ac78b rv78b Tryz.f78=true:=by kernel_rfl
end Go.Proofs.YtecoaapkcnhlhaaGreatDoor.Txt
namespace Go.Proofs.YtecoaapkcnhlhaaGreatDoor
open Go Go.Vc Txt
def Meet(g:Grid)(a b:Spot):Prop:=Adj g b a.x a.y\/(a.kind=4/\Adj g b (a.x+1) a.y)\/(a.kind=5/\Adj g b a.x (a.y+1))
instance (g:Grid) (a b:Spot):Decidable (Meet g a b):=by unfold Meet;infer_instance
theorem qwh(s:Spot):FnEq Tryz.prog 94 [.agg (quY s)] (.bool (decide (s.kind=4\/s.kind=5))):=by
 obtain⟨k,x,y,i⟩:=s
 refine FnEq.of_awp Tryz.func94 ok94 (by show 1<=_;decide) (by simp only[push_cast,reduceIte,zA,zB,zC,zD,zE,zF,zG,reduceCtorEq,zH,zJ,cNI]<;>first|exact fun _ _=>trivial|simp) ?_
 simp only[ac94,rv94,push_cast,reduceIte,zA,zB,zC,zD,zE,zF,zG,reduceCtorEq,zH,zJ,cNI]
 refine qrA rfl (fun h=> ?_) fun h=> ?_<;>simp only[push_cast,reduceIte,zA,zB,zC,zD,zE,zF,zG,reduceCtorEq,zH,zJ,cNI]
 ·simp[h]
 ·simp[h]
theorem qwi(g:Grid)(a b:Spot)(ha:SOk a)(hb:SOk b):FnEq Tryz.prog 95 [.agg (quX false g),.agg (quY a),.agg (quY b)] (.bool (decide (Meet g a b))):=by
 have hx:=ha.x
 have hy:=ha.y
 have c1:=qwg g b hb a.x a.y
 have c2:=qwg g b hb (a.x+1) a.y
 have c3:=qwg g b hb a.x (a.y+1)
 obtain⟨k,x,y,i⟩:=a
 simp only at hx hy c1 c2 c3
 refine FnEq.of_awp Tryz.func95 ok95 (by show 3<=_;decide) (by simp only[push_cast,reduceIte,zA,zB,zC,zD,zE,zF,zG,reduceCtorEq,zH,zJ,cNI]<;>first|exact fun _ _=>trivial|simp) ?_
 simp only[ac95,rv95,push_cast,reduceIte,zA,zB,zC,zD,zE,zF,zG,reduceCtorEq,zH,zJ,cNI]
 by_cases h1:Adj g b x y
 ·rw[decide_eq_true h1]at c1
  refine qrv c1 sC ?_
  refine sB ?_
  rw[decide_eq_true (show Meet g ⟨k,x,y,i⟩ b from .inl h1)]
 ·rw[decide_eq_false h1]at c1
  refine qrv c1 sC ?_
  refine sB ?_
  refine qrz rfl (fun h4=> ?_) fun h4=> ?_<;>simp only[push_cast,reduceIte,zA,zB,zC,zD,zE,zF,zG,reduceCtorEq,zH,zJ,cNI]
  ·refine⟨oM,?_⟩
   by_cases h2:Adj g b (x+1) y
   ·rw[decide_eq_true h2]at c2
    refine qrv c2 sC ?_
    refine sB ?_
    rw[decide_eq_true (show Meet g ⟨k,x,y,i⟩ b from .inr (.inl ⟨h4,h2⟩))]
   ·rw[decide_eq_false h2]at c2
    refine qrv c2 sC ?_
    refine sB ?_
    refine qrz rfl (fun h5=>absurd (h4.symm.trans h5) (by decide)) fun _=> ?_
    refine sB ?_
    rw[decide_eq_false (show ¬Meet g ⟨k,x,y,i⟩ b from fun h=>h.elim h1 fun h=>h.elim (fun h=>h2 h.2) fun h=>absurd (h4.symm.trans h.1) (by decide))]
  ·refine qrz rfl (fun h5=> ?_) fun h5=> ?_<;>simp only[push_cast,reduceIte,zA,zB,zC,zD,zE,zF,zG,reduceCtorEq,zH,zJ,cNI]
   ·refine⟨oM,?_⟩
    refine qrv c3 sC ?_
    refine sB ?_
    rw[show decide (Adj g b x (y+1))=decide (Meet g ⟨k,x,y,i⟩ b)from by
     rw[decide_eq_decide]
     exact⟨fun h=> .inr (.inr ⟨h5,h⟩),fun h=>h.elim (fun h=>absurd h h1) fun h=>h.elim (fun h=>absurd h.1 h4) fun h=>h.2⟩]
   ·rw[decide_eq_false (show ¬Meet g ⟨k,x,y,i⟩ b from fun h=>h.elim h1 fun h=>h.elim (fun h=>h4 h.1) fun h=>h5 h.1)]
def CanD(g:Grid)(a b:Spot):Prop:=
 if a.kind=1 then Adj g b a.x a.y\/(b.kind=3/\b.i=3/\b.x=a.x/\b.y=a.y+1)
 else if a.kind=2 then Adj g b a.x a.y
 else if a.kind=6 then Adj g b 0 a.y
 else if a.kind=4\/a.kind=5 then
  (if b.kind=4\/b.kind=5 then a≠b/\a.i=b.i/\Meet g a b else(b.kind=3/\Adj g a b.x b.y)\/(b.kind=7/\Adj g a (g.w-1) b.y))
 else False
instance (g:Grid) (a b:Spot):Decidable (CanD g a b):=by unfold CanD;infer_instance
theorem qwj (g : Grid) (hg : GOk g) (a b : Spot) (ha : SOk a) (hb : SOk b) (hk : a.kind = 4 \/ a.kind = 5) (st : St) (hst : st.keepS [0, 107, 3, 4, 5] = ⟨[(3, .ptr 3 0), (4, .ptr 4 0), (5, .ptr 5 0)], [(3, quX false g), (4, quY a), (5, quY b)], [], []⟩) :
  awp (Env.of Tryz.prog) ac78b_r10 (retK [RV.tmp 6] fun v=>Sub v (.bool (decide (CanD g a b)))) st:=by
 have hw:=hg.w
 have c3:=qwh b
 have c4:=qwi g a b ha hb
 have c5:=qwg g a ha b.x b.y
 have c6:=qwg g a ha (g.w-1) b.y
 have hC:CanD g a b ↔ (if b.kind=4\/b.kind=5 then a≠b/\a.i=b.i/\Meet g a b else(b.kind=3/\Adj g a b.x b.y)\/(b.kind=7/\Adj g a (g.w-1) b.y)):=by
  rw[CanD,if_neg oM,if_neg oM,if_neg oM,if_pos hk]
 simp only[ac78b_r10,push_cast,reduceIte,zA,zB,zC,zD,zE,zF,zG,reduceCtorEq,zH,zJ,cNI,hst]
 by_cases hb4:b.kind=4\/b.kind=5
 ·rw[if_pos hb4]at hC
  rw[decide_eq_true hb4]at c3
  refine qrv c3 sC ?_
  refine sB ?_
  rw[qvh a b]
  by_cases hab:a=b
  ·rw[decide_eq_true hab]
   simp only[Bool.not_true,push_cast,reduceIte,zA,zB,zC,zD,zE,zF,zG,reduceCtorEq,zH,zJ,cNI]
   rw[decide_eq_false (show ¬CanD g a b from fun h=>(hC.1 h).1 hab)]
  ·rw[decide_eq_false hab]
   simp only[Bool.not_false,push_cast,reduceIte,zA,zB,zC,zD,zE,zF,zG,reduceCtorEq,zH,zJ,cNI]
   refine qrz rfl (fun hi=> ?_) fun hi=> ?_<;>simp only[push_cast,reduceIte,zA,zB,zC,zD,zE,zF,zG,reduceCtorEq,zH,zJ,cNI]
   ·refine qrv c4 sC ?_
    refine sB ?_
    rw[show decide (Meet g a b)=decide (CanD g a b)from by rw[decide_eq_decide,hC];exact⟨fun h=>⟨hab,hi,h⟩,fun h=>h.2.2⟩]
   ·rw[decide_eq_false (show ¬CanD g a b from fun h=>hi (hC.1 h).2.1)]
 ·rw[if_neg hb4]at hC
  rw[decide_eq_false hb4]at c3
  refine qrv c3 sC ?_
  refine sB ?_
  refine qrz rfl (fun h3=> ?_) fun h3=> ?_<;>simp only[push_cast,reduceIte,zA,zB,zC,zD,zE,zF,zG,reduceCtorEq,zH,zJ,cNI]
  ·by_cases h5:Adj g a b.x b.y
   ·rw[decide_eq_true h5]at c5
    refine qrv c5 sC ?_
    refine sB ?_
    rw[decide_eq_true (hC.2 (.inl ⟨h3,h5⟩))]
   ·rw[decide_eq_false h5]at c5
    refine qrv c5 sC ?_
    refine sB ?_
    refine qrz rfl (fun h7=>absurd (h3.symm.trans h7) (by decide)) fun h7=> ?_
    refine sB ?_
    rw[decide_eq_false (show ¬CanD g a b from fun h=>(hC.1 h).elim (fun h=>h5 h.2) fun h=>h7 h.1)]
  ·refine qrz rfl (fun h7=> ?_) fun h7=> ?_<;>simp only[push_cast,reduceIte,zA,zB,zC,zD,zE,zF,zG,reduceCtorEq,zH,zJ,cNI]
   ·refine⟨oM,?_⟩
    refine qrv c6 sC ?_
    refine sB ?_
    rw[show decide (Adj g a (g.w-1) b.y)=decide (CanD g a b)from by rw[decide_eq_decide,hC];exact⟨fun h=> .inr ⟨h7,h⟩,fun h=>h.elim (fun h=>absurd h.1 h3) fun h=>h.2⟩]
   ·rw[decide_eq_false (show ¬CanD g a b from fun h=>(hC.1 h).elim (fun h=>h3 h.1) fun h=>h7 h.1)]
set_option maxHeartbeats 2000000 in
theorem qwk(g:Grid)(hg:GOk g)(a b:Spot)(ha:SOk a)(hb:SOk b):FnEq Tryz.prog 78 [.agg (quX false g),.agg (quY a),.agg (quY b)] (.bool (decide (CanD g a b))):=by
 have hx:=ha.x
 have hy:=ha.y
 have hw:=hg.w
 have c1:=qwg g b hb a.x a.y
 have c2:=qwg g b hb 0 a.y
 have c3:=qwh b
 have c4:=qwi g a b ha hb
 have c5:=qwg g a ha b.x b.y
 have c6:=qwg g a ha (g.w-1) b.y
 refine FnEq.of_awp Tryz.func78 ok78b (by show 3<=_;decide) (by simp only[push_cast,reduceIte,zA,zB,zC,zD,zE,zF,zG,reduceCtorEq,zH,zJ,cNI]<;>first|exact fun _ _=>trivial|simp) ?_
 simp only[ac78b,rv78b,push_cast,reduceIte,zA,zB,zC,zD,zE,zF,zG,reduceCtorEq,zH,zJ,cNI]
 refine qnY (fun k1=> ?_) fun k1=> ?_
 ·have hC:CanD g a b ↔ Adj g b a.x a.y\/(b.kind=3/\b.i=3/\b.x=a.x/\b.y=a.y+1):=by rw[CanD,if_pos k1]
  by_cases h1:Adj g b a.x a.y
  ·rw[decide_eq_true h1]at c1
   refine qrv c1 sC ?_
   refine sB ?_
   rw[decide_eq_true (hC.2 (.inl h1))]
  ·rw[decide_eq_false h1]at c1
   refine qrv c1 sC ?_
   refine sB ?_
   have hC:CanD g a b ↔ (b.kind=3/\b.i=3/\b.x=a.x/\b.y=a.y+1):=hC.trans ⟨fun h=>h.elim (fun h=>absurd h h1) (fun h=>h),.inr⟩
   refine qrz rfl (fun g1=> ?_) fun g1=> ?_<;>simp only[push_cast,reduceIte,zA,zB,zC,zD,zE,zF,zG,reduceCtorEq,zH,zJ,cNI]
   ·refine qrz rfl (fun g2=> ?_) fun g2=> ?_<;>simp only[push_cast,reduceIte,zA,zB,zC,zD,zE,zF,zG,reduceCtorEq,zH,zJ,cNI]
    ·refine qrz rfl (fun g3=> ?_) fun g3=> ?_<;>simp only[push_cast,reduceIte,zA,zB,zC,zD,zE,zF,zG,reduceCtorEq,zH,zJ,cNI]
     ·refine⟨oM,?_⟩
      rw[show decide (b.y=a.y+1)=decide (CanD g a b)from by rw[decide_eq_decide,hC];exact⟨fun h=>⟨g1,g2,g3,h⟩,fun h=>h.2.2.2⟩]
     ·rw[decide_eq_false (show ¬CanD g a b from fun h=>g3 (hC.1 h).2.2.1)]
    ·rw[decide_eq_false (show ¬CanD g a b from fun h=>g2 (hC.1 h).2.1)]
   ·rw[decide_eq_false (show ¬CanD g a b from fun h=>g1 (hC.1 h).1)]
 refine qnY (fun k2=> ?_) fun k2=> ?_
 ·refine qrv c1 sC ?_
  refine sB ?_
  rw[show decide (Adj g b a.x a.y)=decide (CanD g a b)from by rw[decide_eq_decide,CanD,if_neg k1,if_pos k2]]
 refine qnY (fun k6=> ?_) fun k6=> ?_
 ·refine qrv c2 sC ?_
  refine sB ?_
  rw[show decide (Adj g b 0 a.y)=decide (CanD g a b)from by rw[decide_eq_decide,CanD,if_neg k1,if_neg k2,if_pos k6]]
 refine qnY (fun k4=>qnY (fun _=> ?_) fun h=>absurd k4 h) fun k4=> ?_
 ·exact qwj g hg a b ha hb (.inl k4) _ sC
 refine qnY (fun k5=> ?_) fun k5=> ?_
 ·exact qwj g hg a b ha hb (.inr k5) _ sC
 ·rw[decide_eq_false (show ¬CanD g a b from fun h=>by rw[CanD,if_neg k1,if_neg k2,if_neg k6,if_neg (fun h=>h.elim k4 k5)]at h;exact h)]
def qwl(p:Spot×Int):List PV:=[.int p.1.kind,.int p.1.x,.int p.1.y,.int p.1.i,.int p.2]
@[push_cast] theorem qwm(p:Spot×Int):qwl p=[.int p.1.kind,.int p.1.x,.int p.1.y,.int p.1.i,.int p.2]:=rfl
theorem qwn(g:Grid)(hg:GOk g)(n:Int)(hn: -1000000000<=n/\n<=1000000000):FnEq Tryz.prog 77 [.agg (quX false g),.int n] (.agg (qwl (qv9 g n))):=by
 have h1:=hg.all
 have h2:=hg.each
 have h3:=hg.count
 have h4:=hg.pads
 have hw:=hg.w
 have hh:=hg.h
 have ht:=hg.tracks
 have h5:=hg.wh
 have hc:qv2 g=allI g+2*g.pads:=rfl
 have e:g.w*g.h*qv1 g=allI g:=rfl
 refine FnEq.of_awp Tryz.func77 ok77 (by show 2<=_;decide) (by simp only[push_cast,reduceIte,zA,zB,zC,zD,zE,zF,zG,reduceCtorEq,zH,zJ,cNI]<;>first|exact fun _ _=>trivial|simp) ?_
 simp only[ac77,rv77,push_cast,reduceIte,zA,zB,zC,zD,zE,zF,zG,reduceCtorEq,zH,zJ,cNI]
 refine qrH ⟨[(1,.int n),(2,.ptr 2 0),(4,.ptr 4 0),(18,.bool (decide (n<0\/qv2 g<=n)))],[(2,quX false g),(4,[.int 0,.int 0,.int 0,.int 0,.int 0])],[],[]⟩ ?_ ?_
 ·refine qrA rfl (fun h=> ?_) fun h=> ?_<;>simp only[push_cast,reduceIte,zA,zB,zC,zD,zE,zF,zG,reduceCtorEq,zH,zJ,cNI]
  ·rw[decide_eq_true (show n<0\/qv2 g<=n from .inl h)]
  ·refine qrv (qv7 g hg) sC ?_
   refine sB ?_
   rw[show decide (qv2 g<=n)=decide (n<0\/qv2 g<=n)from by rw[decide_eq_decide];omega]
 refine sB ?_
 refine qnY (fun h=> ?_) fun h=> ?_
 ·rw[qv9,if_pos h]
  exact sC
 have hE:qv9 g n=(qv8 g n,0):=by rw[qv9,if_neg h]
 rw[hE]
 refine⟨oM,?_⟩
 refine qrx (qv6 g hg) sC rfl ?_
 refine sB ?_
 rw[e]
 refine⟨oM,oM,?_⟩
 refine qnY (fun h6=> ?_) fun h6=> ?_
 ·rw[qv8,if_pos h6]
  exact⟨oM,oM,oM,rfl,rfl,rfl,rfl⟩
 refine qnY (fun h7=> ?_) fun h7=> ?_
 ·rw[qv8,if_neg h6,if_pos h7]
  exact⟨oM,oM,rfl,rfl,rfl,rfl⟩
 have hd:qv8 g n=(if 6+g.tracks<=n%qv1 g then⟨5,n/qv1 g%g.w,n/qv1 g/g.w,n%qv1 g-6-g.tracks⟩else if 6<=n%qv1 g then⟨4,n/qv1 g%g.w,n/qv1 g/g.w,n%qv1 g-6⟩else if 2<=n%qv1 g then⟨3,n/qv1 g%g.w,n/qv1 g/g.w,n%qv1 g-2⟩else if n%qv1 g=1 then⟨2,n/qv1 g%g.w,n/qv1 g/g.w,0⟩else⟨1,n/qv1 g%g.w,n/qv1 g/g.w,0⟩):=by rw[qv8,if_neg h6,if_neg h7]
 have e1:0<=n/qv1 g/\n/qv1 g<=n:=⟨Int.ediv_nonneg oM oM,Int.ediv_le_self _ oM⟩
 have e2:=Int.emod_nonneg n (show qv1 g≠0 by omega)
 have e3:=Int.emod_lt_of_pos n (show 0<qv1 g by omega)
 have e4:qv1 g=6+2*g.tracks:=rfl
 refine qrx (qv6 g hg) sC rfl ?_
 refine sB ?_
 refine⟨oM,?_⟩
 refine qrx (qv6 g hg) sC rfl ?_
 refine sB ?_
 refine⟨oM,oM,oM,?_⟩
 refine qnY (fun k0=> ?_) fun k0=> ?_
 ·rw[hd,if_neg (show ¬6+g.tracks<=n%qv1 g by omega),if_neg (show ¬6<=n%qv1 g by omega),if_neg (show ¬2<=n%qv1 g by omega),if_neg (show ¬n%qv1 g=1 by omega)]
  exact⟨rfl,rfl,rfl,rfl⟩
 refine qnY (fun k1=> ?_) fun k1=> ?_
 ·rw[hd,if_neg (show ¬6+g.tracks<=n%qv1 g by omega),if_neg (show ¬6<=n%qv1 g by omega),if_neg (show ¬2<=n%qv1 g by omega),if_pos k1]
  exact⟨rfl,rfl,rfl,rfl⟩
 refine qnY (fun k2=> ?_) fun k2=> ?_
 ·rw[hd,if_neg (show ¬6+g.tracks<=n%qv1 g by omega),if_neg (show ¬6<=n%qv1 g by omega),if_pos (show 2<=n%qv1 g by omega)]
  exact⟨oM,rfl,rfl,rfl,rfl⟩
 refine⟨oM,?_⟩
 refine qnY (fun k3=> ?_) fun k3=> ?_
 ·rw[hd,if_neg (show ¬6+g.tracks<=n%qv1 g by omega),if_pos (show 6<=n%qv1 g by omega)]
  exact⟨oM,rfl,rfl,rfl,rfl⟩
 ·rw[hd,if_pos (show 6+g.tracks<=n%qv1 g by omega)]
  exact⟨oM,oM,rfl,rfl,rfl,rfl⟩
def qwo(g:Grid)(s:Spot):Nat->List Int
 |0=>[]
 |k+1=>qwo g s k++if CanD g (qv8 g k) s then[(k:Int)]else[]
def rdrF(g:Grid)(n:Int):List Int:=if(qv9 g n).2=0 then qwo g (qv9 g n).1 (qv2 g).toNat else[]
theorem qwp(g:Grid)(s:Spot): ∀k,(qwo g s k).length<=k
 |0=>Nat.le_refl _
 |k+1=>by have:=qwp g s k;rw[qwo,zU];split<;>simp<;>omega
theorem qwq(g:Grid)(hg:GOk g)(n:Int)(hn: -1000000000<=n/\n<=1000000000):FnEq Tryz.prog 56 [.agg (quX false g),.int n] (.sl true 1 (ints (rdrF g n))):=by
 have h3:=hg.count
 have hD:=qwn g hg n hn
 obtain⟨c,hc⟩: ∃c:Nat,qv2 g=c:=⟨(qv2 g).toNat,oM⟩
 have hct:(qv2 g).toNat=c:=by omega
 refine FnEq.of_awp Tryz.func56 ok56 (by show 2<=_;decide) (by simp only[push_cast,reduceIte,zA,zB,zC,zD,zE,zF,zG,reduceCtorEq,zH,zJ,cNI]<;>first|exact fun _ _=>trivial|simp) ?_
 simp only[ac56,rv56,push_cast,reduceIte,zA,zB,zC,zD,zE,zF,zG,reduceCtorEq,zH,zJ,cNI]
 by_cases hE:n<0\/qv2 g<=n
 ·have e:qv9 g n=(⟨0,0,0,0⟩,1):=by rw[qv9,if_pos hE]
  have e2:rdrF g n=[]:=by rw[rdrF,e];rfl
  rw[e2]
  rw[e]at hD
  refine qrv hD sC ?_
  refine sB ?_
  refine qoP (fun m st=>m=0/\st=⟨[(2,.ptr 2 0),(5,.view 8 0 0),(6,.ptr 6 0),(7,.int 0)],[(2,quX false g),(6,[.int 0,.int 0,.int 0,.int 0,.int 1])],[(8,⟨1,3,ints []⟩)],[]⟩) 0 ?_ ?_
  ·refine⟨rfl,?_⟩
   refine sB ?_
   rfl
  ·rintro m st ⟨rfl,rfl⟩
   refine sB ?_
   refine qrv (qv7 g hg) sC ?_
   refine sB ?_
   refine qrz rfl (fun _=> ?_) fun h=>absurd oM h
   refine sB ?_
   refine qnY (fun h=>absurd h (by decide)) fun _=> ?_
   simp
 ·have e:qv9 g n=(qv8 g n,0):=by rw[qv9,if_neg hE]
  obtain⟨r1,_⟩:=qwc hg hE
  have e2:rdrF g n=qwo g (qv8 g n) c:=by rw[rdrF,e,hct];rfl
  rw[e2]
  rw[e]at hD
  refine qrv hD sC ?_
  refine sB ?_
  generalize qv8 g n=s at r1 ⊢
  refine qoP (fun m st=> ∃k:Nat,k<=c/\m=c-k/\st=⟨[(2,.ptr 2 0),(5,.view 8 0 (qwo g s k).length),(6,.ptr 6 0),(7,.int k)],[(2,quX false g),(6,[.int s.kind,.int s.x,.int s.y,.int s.i,.int 0])],[(8,⟨1,3,ints (qwo g s k)⟩)],[]⟩) c ?_ ?_
  ·refine⟨0,oM,oM,?_⟩
   refine sB ?_
   rfl
  ·rintro m st ⟨k,hk,rfl,rfl⟩
   have hlen:=qwp g s k
   refine sB ?_
   refine qrv (qv7 g hg) sC ?_
   refine sB ?_
   refine qrH ⟨[(2,.ptr 2 0),(5,.view 8 0 (qwo g s k).length),(6,.ptr 6 0),(7,.int k),(20,.bool (decide (k<c)))],[(2,quX false g),(6,[.int s.kind,.int s.x,.int s.y,.int s.i,.int 0])],[(8,⟨1,3,ints (qwo g s k)⟩)],[]⟩ ?_ ?_
   ·refine qrz rfl (fun h=> ?_) fun h=> ?_<;>simp only[push_cast,reduceIte,zA,zB,zC,zD,zE,zF,zG,reduceCtorEq,zH,zJ,cNI]
    ·rw[decide_eq_true (show k<c by omega)]
    ·rw[decide_eq_false (show ¬k<c by omega)]
   refine sB ?_
   refine qnY (fun h=> ?_) fun h=> ?_
   ·have hk2: ¬((k:Int)<0\/qv2 g<=k):=by omega
    have ek:qv9 g k=(qv8 g k,0):=by rw[qv9,if_neg hk2]
    have hDk:=qwn g hg k oM
    rw[ek]at hDk
    obtain⟨q1,_⟩:=qwc hg hk2
    refine qrx hDk sC rfl ?_
    refine sB ?_
    refine qrv (qwk g hg (qv8 g k) s q1 r1) sC ?_
    refine sB ?_
    have hs:qwo g s (k+1)=qwo g s k++if CanD g (qv8 g k) s then[(k:Int)]else[]:=rfl
    refine qnY (fun h2=> ?_) fun h2=> ?_
    ·rw[if_pos h2]at hs
     refine⟨by simp,oM,oM,_,?_,k+1,oM,rfl,?_⟩
     ·omega
     ·rw[hs]
      simp
    ·rw[if_neg h2,List.append_nil]at hs
     refine⟨oM,_,?_,k+1,oM,rfl,?_⟩
     ·omega
     ·rw[hs]
      simp
   ·rw[show k=c from by omega]
    exact⟨fun _ _=>trivial,.refl _⟩
end Go.Proofs.YtecoaapkcnhlhaaGreatDoor
namespace Go.Vc
open Go Go.RowKit
section
variable {P:Env} {st:St} {K K' :St->Prop}
theorem qwr(hk: ∀s,K s->K' s): ∀(l:List AO) (st:St),opsK P l st K->opsK P l st K'
 |[],st,h=>hk st h
 |_::r,st,h=>qfH (qfG fun s hs=>qwr hk r s hs) (qwr hk r _) h
theorem qws(hk: ∀s,K s->K' s): ∀(l:List DO) (st:St),dsK P l st K->dsK P l st K'
 |[],st,h=>hk st h
 | x :: r, st, h => by
   have hr:=fun s hs=>qws hk r s hs
   unfold dsK at h ⊢
   unfold dopG at h ⊢
   split
   ·rename_i hs
    rw[if_pos hs]at h
    refine⟨h.1,qfH (fun hd=> ?_) (hr _) h.2⟩
    unfold dopK at hd ⊢
    split
    ·rename_i hop
     rw[hop]at hd
     obtain⟨post,a,b,c⟩:=hd
     exact⟨post,a,b,fun r hr' =>⟨(c r hr').1,hr _ (c r hr').2⟩⟩
    ·rename_i hop
     rw[hop]at hd
     simp only at hd ⊢
     split at hd
     ·obtain⟨h0,post,a,b,c⟩:=hd
      exact⟨h0,post,a,b,fun q hq=>⟨(c q hq).1,hr _ (c q hq).2⟩⟩
     ·exact hd.elim
    ·rename_i hop hop3
     have hd:qcK st x.t x.u x.o.op/\opK P x.o st (fun st' =>qcM x st' /\dsK P r st' K):=by
      split at hd
      ·rename_i hop2;exact absurd hop2 (hop _ _)
      ·rename_i hop2;exact absurd hop2 (hop3 _ _)
      ·exact hd
     exact⟨hd.1,qfG (fun s hs=>⟨hs.1,hr s hs.2⟩) hd.2⟩
   ·rename_i hs
    rw[if_neg hs]at h
    exact qfH (qfG hr) (hr _) h
theorem qwt{ops:List XO}(hk: ∀s,K s->K' s): ∀(n:Nat) (dn:List Nat) (st:St),allK P ops n dn st K->allK P ops n dn st K'
 |0,_,st,h=>⟨h.1,hk st h.2⟩
 |n+1,dn,st,h=>⟨fun e=>hk st (h.1 e),fun x hx hr=>qfH (qfG fun s hs=>qwt hk n _ s hs) (qwt hk n _ _) (h.2 x hx hr)⟩
theorem Exit.thn_mono{next:St->Prop}{Q Q' :Exit->St->Prop}(hq: ∀e st,Q e st->Q' e st): ∀e st,Exit.thn next Q e st->Exit.thn next Q' e st:=fun e st h=>by
 cases e<;>first|exact h|exact hq _ _ h
theorem Exit.thn_mono2{next next' :St->Prop}{Q Q' :Exit->St->Prop}(hn: ∀st,next st->next' st)(hq: ∀e st,Q e st->Q' e st): ∀e st,Exit.thn next Q e st->Exit.thn next' Q' e st:=fun e st h=>by
 cases e<;>first|exact hn _ h|exact hq _ _ h
theorem Exit.inB_mono{i:Nat}{Q Q' :Exit->St->Prop}(hq: ∀e st,Q e st->Q' e st): ∀e st,Exit.inB i Q e st->Exit.inB i Q' e st:=fun e st h=>by
 cases e<;>first|exact hq _ _ h|skip
 simp only[Exit.inB]at h ⊢
 split<;>rename_i hi
 ·rw[if_pos hi]at h;exact hq _ _ h
 ·rw[if_neg hi]at h;exact hq _ _ h
theorem qwu: ∀(ac:AC) {Q Q' :Exit->St->Prop},(∀e st,Q e st->Q' e st)-> ∀st,awp P ac Q st->awp P ac Q' st:=by
 intro ac
 induction ac with
 |skip=>exact fun hq st h=>hq _ _ h
 |label=>exact fun hq st h=>hq _ _ h
 |ret=>exact fun hq st h=>hq _ _ h
 |exit i=>exact fun hq st h=>hq _ _ h
 |reg keep ops=>exact fun hq st h=>qwr (hq _) ops _ h
 |rgs segs=>
   intro Q Q' hq st h
   have key: ∀(r:List (List Nat×List AO)) (st:St),segK P r st (Q .normal)->segK P r st (Q' .normal):=by
    intro r
    induction r with
    |nil=>exact fun st h=>hq _ _ h
    |cons x r ih=>exact fun st h=>qwr (fun s hs=>ih s hs) x.2 _ h
   exact key segs st h
 |drw keep ops=>exact fun hq st h=>qws (hq _) ops _ h
 |dra keep ops=>exact fun hq st h=>qwt (hq _) _ _ _ h
 |seq a b iha ihb=>exact fun hq st h=>iha (Exit.thn_mono2 (fun s=>ihb hq s) hq) st h
 |cond c x y ihx ihy=>
   intro Q Q' hq st h
   simp only[awp,qcN]at h ⊢
   split at h
   ·exact⟨fun e=>ihx hq st (h.1 e),fun e=>ihy hq st (h.2 e)⟩
   ·exact h.elim
 |block i b ih=>exact fun hq st h=>ih (Exit.inB_mono hq) st h
 |lps ks b ih=>exact fun hq st ⟨I,n0,h0,hr⟩=>⟨I,n0,h0,fun n st' hi=>ih (Exit.thn_mono hq) st' (hr n st' hi)⟩
 |loop ks b ih=>exact fun hq st ⟨I,n0,h0,hr⟩=>⟨I,n0,h0,fun n st' hi=>ih (Exit.thn_mono hq) st' (hr n st' hi)⟩
 |frz ts c ih=>exact fun hq st h=>ih hq _ h
 |obs t c ih=>
   refine fun hq st h=> ?_
   replace h:obsK st t (fun st' =>awp P c _ st'):=h
   show obsK st t (fun st' =>awp P c _ st')
   unfold obsK at h ⊢
   split at h
   ·split at h
    ·exact fun l c' hl=>ih hq _ (h l c' hl)
    ·exact h.elim
   ·exact h.elim
 |cut ks c ih=>exact fun hq st h=>ih hq _ h
 |scope c ih=>exact fun hq st h=>ih hq _ h
 |wk c ih=>exact fun hq st ⟨s0,h1,h2⟩=>⟨s0,h1,ih hq _ h2⟩
 |rngf ρ ps ass body iha ihb=>
   intro Q Q' hq st h
   refine⟨h.1,?_⟩
   have h2:=h.2
   unfold rngK at h2 ⊢
   split at h2
   ·exact⟨h2.1,FnM.mono h2.2 fun _ _ hh=>hq _ _ hh⟩
   ·exact h2.elim
end
section
variable {w0:World} {Z0:Zone} {N:Fr} {Z:Zone} {L:Lay} {st:St} {a:Act} {w:World} {P:Program}
theorem qwv {F : Fence} {n : Nat} {fn : Func} {tmps : Array Value} {R : Ending -> World -> Prop} {ds : List Deferred} {u : FrameMode} (hu : u ≠ .run) : ∀ (l : List Nat) (w : World), l.Nodup -> (∀ D ∈ l, w.heap[D]? = some (.deferred (some []))) ->
  LeavesInM F n P fn tmps R ds u (qh3 w l)->LeavesInM F n P fn tmps R (l.map mark++ds) u w
 |[],_,_,_,h=>h
 | D :: l, w, hn, hd, h => by
   rw[List.nodup_cons]at hn
   refine⟨hu,.inl ⟨D,_,rfl,run_takeDeferred (hd D (by simp)),qwv hu l _ hn.2 (fun D' hD' => ?_) h⟩⟩
   have hne:D' ≠D:=fun e=>hn.1 (by rw[<- e];exact hD')
   rw[World.putObj_heap_other hne]
   exact hd D' (zT _ hD')
theorem Inv.noDm(h:Inv w0 Z0 N Z L st a w):Inv w0 Z0 { N with dm:=none } Z L st a w:=⟨h.zt,h.z0,h.zn,h.zb,h.below,h.ownb,h.owna,h.injb,h.inja,h.injx,h.boxes,h.arrs,h.ownm,h.injm,h.maps,h.oth,h.yb,h.size,fun _ e=>(by cases e),h.slots⟩
theorem Inv.leave2 (h : Inv w0 Z0 N Z L st a w) {x : Bool × List Deferred} (hdm : N.dm = some x) {F : Fence} {n : Nat} {fn : Func} {R : Ending -> World -> Prop} {u : FrameMode} (hu : u ≠ .run)
  (hR: ∀w',Inv w0 Z0 { N with dm:=none } Z L st a w' ->LeavesInM F n P fn a.tmps R x.2 u w'):LeavesInM F n P fn a.tmps R a.defers u w:=by
 obtain⟨l,h1,h2,h3⟩:=h.defers x hdm
 rw[h1.1]
 exact qwv hu l w h2.1 (fun D hD=>(h3 D hD).1) (hR _ (Inv.shut rfl l h.noDm h2 h3))
def xQ(E:Env)(Q:Exit->St->Prop):Exit->St->Prop
 | .panic ch,st=>E.pan ch st
 |e,st=>Q e st
theorem qww(K:Nat){X:Gh}{G:Nat->Value}{n:Nat}{dm:Option (Bool×List Deferred)}(hI:Inv w0 Z0 ⟨n,K,G,X,dm⟩ Z L st a w):Mem w0 Z0 X G Z L (st.low K) w:=by
 have hT:=hI.low K
 refine⟨hT.zt,hT.z0,hT.zn,hT.zb,hT.below,hT.ownb,hT.owna,hT.injb,hT.inja,hT.injx,hT.boxes,hT.arrs,hT.ownm,hT.injm,hT.maps,hT.oth,hT.yb,rfl,fun _ e=>(by cases e),fun i v hi=> ?_⟩
 have h8:=hT.slots i v hi
 have h9:=(qgQ hi).2
 unfold Fr.val at h8 ⊢
 rw[if_neg (by simp only;omega)]at h8
 rw[if_neg (by simp)]
 exact h8
theorem qwx (K : Nat) {X : Gh} {G : Nat -> Value} {args : List PV} {vs : Array Value} {m : Nat} (hm : Mem w0 Z0 X G Z L st w) (ha : ArgsR w Z L args vs) (hn : args.length <= m) (hlow : st.s.all (fun x => decide (x.1 < K)) = true) {ex : Bool} :
  Inv w0 Z0 ⟨m,K,G,X,some (ex,[])⟩ Z L { st with s:=argS K args st.s } { tmps:=vs++Array.replicate (m-vs.size) undef,defers:=[] } w:=by
 have hsize:(vs++Array.replicate (m-vs.size) undef).size=m:=by have:=ha.1;simp;omega
 refine⟨hm.zt,hm.z0,hm.zn,hm.zb,hm.below,hm.ownb,hm.owna,hm.injb,hm.inja,hm.injx,hm.boxes,hm.arrs,hm.ownm,hm.injm,hm.maps,hm.oth,hm.yb,hsize,fun dd e=>⟨[],⟨by cases e;rfl,fun _=>rfl⟩,⟨.nil,fun D hD=>by cases hD⟩,fun D hD=>by cases hD⟩,fun i v hl=> ?_⟩
 rw[qh5]at hl
 unfold Fr.val
 split at hl
 ·rename_i hin
  rw[if_pos ⟨hin.1,by simp only;omega⟩]
  have:=ha.2 _ v hl
  have hlt:i-K<vs.size:=by rw[ha.1];exact(zM.1 hl).1
  have e:(vs++Array.replicate (m-vs.size) undef).getD (i-K) undef=vs.getD (i-K) undef:=by
   simp only[zO,Array.getElem?_append_left hlt]
  simp only at e ⊢
  rw[e];exact this
 ·have hi:i<K:=by
   have:=yE.1 hlow _ (qa7 hl)
   simpa using this
  rw[if_neg (by simp only;omega)]
  have:=hm.slots i v hl
  have e:(⟨0,0,G,X,none⟩:Fr).val ⟨#[],[]⟩ i=G i:=by simp[Fr.val]
  rwa [e]at this
theorem FnX.of_awp {E : Env} {f : Nat} {fn : Func} {ac : AC} {rvs : List RV} {args : List PV} {Q : PV -> St -> Prop} (K : Nat) (hf : E.p.funcs[f]? = some fn) (hok : qh6 E.p K ac rvs fn = true) (hn : args.length <= fn.ntmps)
  (hlow:st.s.all (fun x=>decide (x.1<K))=true) (hkk:E.kk<=K) (hpl: ∀ch st,E.pan ch st->E.pan ch (st.low K)) (h:awp E ac (retM K rvs Q) { st with s:=argS K args st.s }):FnX E f args st Q:=by
 simp only[qh6,zN]at hok
 obtain⟨⟨hb,hr⟩,hname⟩:=hok
 split at hb
 ·rename_i c hc
  refine⟨by simp[qcG,hf,hc];simpa using hname,fun w0 Z0 X G Z L w vs hE hm ha=> ?_⟩
  have hinit:=qwx K hm ha hn hlow (ex:=false)
  have h' :=qwu (Q' :=xQ E (retM K rvs Q)) ac (fun e st hh=>by cases e<;>first|exact hh|(simp[retM,qgU]at hh)) _ h
  refine callsIn_wide (n:=0)|>.1 (callsIn_of_wp_marks hf hc trivial ?_)
  refine wpIn_mono (qgS (P:=E) (w0:=w0) (Z0:=Z0) ac (N:=⟨fn.ntmps,K,G,X,some (false,[])⟩) (ro:=none) (n:=0) hE hkk c (xQ E (retM K rvs Q)) _ _ w (.inr ⟨rfl,fun dd e=>by cases e;rfl⟩) (fun l st hh=>by simp[xQ,retM,qgU]at hh) (fun ch st hh=>hh) hb h' ⟨_,_,hinit⟩) ?_
  rintro e a' w' ⟨st',hq,Z',L',hI⟩
  have hend: ∀e,retM K rvs Q e st' ->LeavesInM Fence.wide 0 E.p fn a'.tmps (fun e w' =>(∃v r st' Z' L',e= .returned v/\Q r st' /\Mem w0 Z0 X G Z' L' st' w' /\VR w' Z' L' r v)\/(∃ch st' Z' L',e= .panicked ch/\E.pan ch st' /\Mem w0 Z0 X G Z' L' st' w')) a'.defers .returning w' :=by
   rintro e ⟨he,h1,hfl,h3⟩
   have hnt' : ∀cs ds,(resM st' rvs).2= .tup cs-> .tup ds∉cs:=fun cs ds e hm=>by rw[e]at hfl;have:=yE.1 hfl _ hm;simp[qgV]at this
   refine hI.leave2 rfl (by simp) fun w2 hI3=> ?_
   obtain⟨v,hrun,hvr⟩:=qh7 hI3 hr h1 hnt'
   exact⟨v,hrun,.inl ⟨v,_,st'.low K,Z',L',rfl,h3,qww K hI3,hvr⟩⟩
  cases e<;>first|exact hend _ hq|(simp[xQ,retM,qgU]at hq;done)|skip
  rename_i ch
  have hq:E.pan ch st' :=hq
  show LeavesInM _ _ _ _ _ _ _ _ _
  exact hI.leave2 rfl (by simp) fun w2 hI3=> .inr ⟨ch,st'.low K,Z',L',rfl,hpl ch st' hq,qww K hI3⟩
 ·cases hb
theorem qwy {n f : Nat} {fn : Func} {c : Code} {args : Array Value} {u : FrameMode} {R : Ending -> FrameMode -> World -> Prop}
  (hf:P.funcs[f]? =some fn) (hb:fn.body=some c)
  (h: ∀(c₀:Frame) (cs:List Frame),c₀.mode=u->c.wpS P (bodyPostS P fn c₀ cs R) { tmps:=args++Array.replicate (fn.ntmps-args.size) undef,defers:=[] } (c₀::cs) w):
  CallsDIn Fence.wide n P f args u w R:=by
 refine⟨trivial,fun c₀ cs hu _=> ?_⟩
 let b:Frame:= { (default:Frame)with fn:=f,kind:= .deferred }
 have henter : Frame.enter P f args .deferred =
   b.at { tmps:=args++Array.replicate (fn.ntmps-args.size) undef,defers:=[] } [.code c]:=by
  simp[Frame.enter,Frame.at,hf,hb,b]
 obtain⟨e,a',cs',w',hq,harr⟩:=h c₀ cs hu b [] rfl rfl
 rw[<- henter]at harr
 cases e with
 |normal=>
   obtain⟨hd,u',rfl,v,hr,hR⟩:=hq
   exact⟨.returned v,u',w',_,hR,comesIn_wide.2 (Steps.trans harr (.one step_end)),rfl,rfl,rfl,hd,fn,hf,hr⟩
 |ret=>
   obtain⟨hd,u',rfl,v,hr,hR⟩:=hq
   obtain⟨todo,hs⟩:=harr
   exact⟨.returned v,u',w',_,hR,comesIn_wide.2 hs,rfl,rfl,rfl,hd,fn,hf,hr⟩
 |panic chain=>
   obtain⟨hd,u',rfl,hR⟩:=hq
   obtain⟨todo,hs⟩:=harr
   exact⟨.panicked chain,u',w',_,hR,comesIn_wide.2 hs,rfl,rfl,rfl,hd,fn,hf⟩
 |exit id=>exact hq.elim
 |goto l=>exact hq.elim
 |outgrown=>
   obtain⟨u',hR⟩:=hq
   exact⟨.outgrown,u',w',b,hR,comesIn_wide.2 (harr.resolve_left (by simp[b])),rfl,rfl,trivial⟩
def capV(L:Lay)(ids:List Nat):Array Value:=(ids.map fun i=>Value.pointer (some ⟨L.bx i,0,none⟩)).toArray
def FnD(P:Program)(g:Nat)(ids:List Nat)(u u' :FrameMode)(st:St)(Q:St->Prop):Prop:=
 ∀(w0:World) (Z0:Zone) (X:Gh) (G:Nat->Value) (Z:Zone) (L:Lay) (w:World),GL P w0->Mem w0 Z0 X G Z L st w->
  CallsDIn Fence.wide 0 P g (capV L ids) u w fun e u1 w' =>(∃v,e= .returned v)/\u1=u' /\ ∃st' Z' L',Q st' /\Mem w0 Z0 X G Z' L' st' w'
def rcvd:FrameMode->Value->FrameMode->Prop
 | .returning,v,u' =>v= .nilIface/\u' = .returning
 | .panicking [⟨x,false,false⟩],v,u' =>v=x/\u' = .panicking [⟨x,true,false⟩]
 |_,_,_=>False
def qwz(P:Program)(K:Nat)(ac:AC)(d:Nat)(fn:Func):Bool:=
 (match fn.body with
 | some (.seq (.region _ os false) c) => (match os.toList with
   |[o]=>o.guard.isNone&&o.dst==some d&&(match o.op with| .call c=>(match c.callee with| .builtin .recover=>true|_=>false)&&c.args.isEmpty|_=>false)
   |_=>false)&&qdm ac&&chk P ⟨K,fn.ntmps⟩ ac c
 |_=>false)&&qgT P ⟨K,fn.ntmps⟩ [] fn.results.toList&&decide (d<fn.ntmps)
theorem FnD.of_awp {g : Nat} {fn : Func} {ac : AC} {d : Nat} {ids : List Nat} {u u' : FrameMode} {v : Value} {Q : St -> Prop} (K : Nat) (hf : P.funcs[g]? = some fn) (hok : qwz P K ac d fn = true) (hn : ids.length <= fn.ntmps)
  (hlow:st.s.all (fun x=>decide (x.1<K))=true) (hr:rcvd u v u') (hv:scOk v=true)
  (h:awp (Env.of P) ac (fun e st' =>qgU e=true/\Q (st'.low K)) { st with s:=up (argS K (ids.map fun i=> .ptr i 0) st.s) (K+d) (.sc v) }):FnD P g ids u u' st Q:=by
 intro w0 Z0 X G Z L w hgl hm
 simp only[qwz,zN,decide_eq_true_eq]at hok
 obtain⟨⟨hb,hres⟩,hd⟩:=hok
 split at hb
 ·rename_i id os c hc
  simp only[zN]at hb
  obtain⟨⟨ho,hnr⟩,hck⟩:=hb
  split at ho
  ·rename_i o hos
   simp only[zN,beq_iff_eq,Option.isNone_iff_eq_none]at ho
   obtain⟨⟨hgd,hdst⟩,hop⟩:=ho
   have hos' :os= #[o]:=by
    have:os=os.toList.toArray:=by simp
    rw[this,hos]
   subst hos'
   have ha:ArgsR w Z L (ids.map fun i=>PV.ptr i 0) (capV L ids):=qgg ids
   have hinit:=qwx K hm ha (by simpa using hn) hlow (ex:=true)
   have hput:=hinit.put (d:=some (K+d)) (d' :=some d) ⟨rfl,hd⟩ (v:= .sc v) (u:=v) (TR.sc v hv)
   have hexec: ∀ρ:Operand->Value,(execOp ρ o).run P w= .ok .recover w:=fun ρ=>by
    split at hop
    ·rename_i cl hcl
     simp only[zN]at hop
     obtain⟨h1,h2⟩:=hop
     split at h1
     ·rename_i hcal
      simp[execOp,hcl,resolve,hcal,invoke,builtin]
     ·cases h1
    ·cases hop
   refine qwy hf hc fun c₀ cs hu=>wpS_seq (wpS_region ?_)
   have hw: ∀y,Region.wanted o y=true:=fun y=>by simp[Region.wanted,hgd]
   obtain⟨cs',hcs',hgo⟩: ∃cs',(∃u1,u1=u' /\cs' = { c₀ with mode:=u1 } ::cs)/\((recoverD (c₀::cs)=some (v,cs'))\/(recoverD (c₀::cs)=none/\v= .nilIface/\cs' =c₀::cs)):=by
    subst hu
    unfold rcvd at hr
    split at hr
    ·rename_i hmode
     obtain⟨rfl,rfl⟩:=hr
     refine⟨c₀::cs,⟨_,rfl,by rw[<- hmode]⟩,.inr ⟨by simp[recoverD,hmode],rfl,rfl⟩⟩
    ·rename_i x hmode
     obtain⟨rfl,rfl⟩:=hr
     refine⟨_,⟨_,rfl,rfl⟩,.inl (by simp[recoverD,hmode])⟩
    ·exact hr.elim
   have key : c.wpS P (bodyPostS P fn c₀ cs fun e u1 w' => (∃ v, e = .returned v) /\ u1 = u' /\ ∃ st' Z' L', Q st' /\ Mem w0 Z0 X G Z' L' st' w')
     (({ tmps:=capV L ids++Array.replicate (fn.ntmps-(capV L ids).size) undef,defers:=[] } :Act).put (some d) v) cs' w:=by
    refine wpS_of_wp (wpIn_wide (n:=0)|>.1 ?_)
    refine wpIn_mono (qgS (P:=Env.of P) (w0:=w0) (Z0:=Z0) ac (N:=⟨fn.ntmps,K,G,X,some (true,[])⟩) (ro:=none) (n:=0) (EnvOK.of P _ _ _ _ hgl) (Nat.zero_le _) c _ _ _ w (.inl hnr) (fun l st hh=>by simp[qgU]at hh) (fun ch st hh=>hh.elim) hck h ⟨_,_,hput⟩) ?_
    rintro e a' w' ⟨st',⟨he,hQ⟩,Z',L',hI⟩
    obtain⟨l,⟨hl,hex⟩,_⟩:=hI.defers _ rfl
    have hl0:=hex rfl
    subst hl0
    obtain⟨v',hrun,_⟩:=qh7 hI (rvs:=[]) hres (by intro r hr;cases hr) (by intro cs ds e hm;cases e;cases hm)
    obtain⟨u1,rfl,rfl⟩:=hcs'
    have fin:a'.defers=[]/\ ∃u',(({ c₀ with mode:=u1 } ::cs:List Frame)= { c₀ with mode:=u' } ::cs)/\ ∃v,(results fn a'.tmps).run P w' = .ok v w' /\((∃v',Ending.returned v= .returned v')/\u' =u1/\ ∃st' Z' L',Q st' /\Mem w0 Z0 X G Z' L' st' w'):=
     ⟨hl,u1,rfl,v',hrun,⟨_,rfl⟩,rfl,st'.low K,Z',L',hQ,qww K hI⟩
    cases e<;>first|exact fin|(simp[qgU]at he)
   show wpOpsS P #[o] _ [0] _ _ _
   simp only[wpOpsS,List.getElem?_toArray,List.getElem?_cons_zero,hw,if_true,hexec]
   rcases hgo with hgo|⟨hgo,rfl,rfl⟩
   ·simp only[hgo,hdst]
    exact key
   ·simp only[hgo,hdst]
    exact key
  ·cases ho
 ·cases hb
end
end Go.Vc
namespace Go.Proofs.YtecoaapkcnhlhaaGreatDoor.Txt
open Go Go.Vc
set_option maxRecDepth 100000
def ac37_50:AC:=
 (.seq (.reg [50,26,50] [
 xT 51 50,aO 52 (.mv (.c (.nil)))])
 (.seq (.reg [50,26,51] [
 uE 57 5 51,aO 58 (.cal 65 [(.t 57)]),aO 53 (.alc [.nil,.nil,.nil,.nil]),sT 4 53 58])
 (.seq (.reg [50,26,51,53] [
 fA 59 0 51,lF 60 1 59,uF 61 60 1,aO 62 (.mks 1 3 8 [zI] (.t 61) (.t 61)),aO 54 (.alc [.nil]),sT 1 54 62])
 (.seq (.seq (.reg [50,26,51,53,54] [
 uE 63 5 51,aO 64 (.clm 58 [(.t 63),(.t 53)])])
 (.block 0
 (.rngf ⟨(.t 64),50,26,1000,[50,26,54,64],999⟩ [1015,1016]
 (.seq (.reg [1000,26,1004,1015,1016] [
 mT 1005 1015])
 (.reg [1000,26,1004,1005,1016] [
 aO 1006 (.alc [.sc (.pointer none),zI]),sT 2 1006 1016]))
 (.block 1
 (.drw [1000,26,1004,1005,1006] [
 eL 1017 1 1004,eM 1018 1005,eI 1019 1 1017 1018,eL 1020 1 1019,eA 1021 1 1006,eL 1022 1 1021,eF 1023 (.ari .add true .i64 (.t 1020) (.t 1022)),eF 1024 (.ixs 1 (.t 1017) (.t 1018)),⟨sT 1 1024 1023,[],[],false⟩])))))
 (.seq (.reg [50,26,54] [
 lF 75 1 54,mT 52 75])
 .ret)))))
def rv37_50:List RV:=[.tmp 52]
theorem ok37_50:qh6 Tryz.prog 50 ac37_50 rv37_50 Tryz.f37=true:=by kernel_rfl

def ac13:AC:=
 (.seq (.reg [0,24,0] [
 xT 1 0,aO 2 (.mv (.c (.nil)))])
 (.seq (.reg [0,24,1] [
 uE 5 5 1,aO 6 (.clm 37 [(.t 5)]),mT 3 6])
 (.seq (.seq (.reg [0,24,3] [
 mT 7 3,nT 8 7,mK 9 0])
 (.block 0
 (.loop [0,24,3,8,9]
 (.seq (.reg [0,24,3,8,9] [
 lS 10 9 8])
 (.seq (.cond (.t 10)
 .skip
 (.exit 0))
 (.seq (.block 1
 (.seq (.reg [0,24,3,8,9] [
 mT 11 9,mT 4 11])
 (.reg [0,24,3,4,8,9] [
 mT 12 3,mT 13 4,mT 14 3,mT 15 4,iX 16 1 14 15,lF 17 1 16,uF 18 17 57,aO 19 (.ari .sub true .i64 (.t 18) (kI 1)),aO 20 (.dvd .quo true .i64 (.t 19) (kI 57)),iX 21 1 12 13,sT 1 21 20])))
 (.reg [0,24,3,8,9] [
 uF 22 9 1,mT 9 22])))))))
 (.seq (.reg [0,24,3] [
 mT 23 3,mT 2 23])
 .ret))))
def rv13:List RV:=[.tmp 2]
theorem ok13:fnOk Tryz.prog ac13 rv13 Tryz.f13=true:=by kernel_rfl
end Go.Proofs.YtecoaapkcnhlhaaGreatDoor.Txt
namespace Go.Vc
open Go Go.RowKit
section
variable (P:Env) (r:List AO) (st:St) (K:St->Prop) (d:Option Nat)
def mxO:Option Int->Option PV
 |some m=>some (.sc (.int .i64 m))
 |none=>none
@[push_cast] theorem qwA(m:Int):mxO (some m)=some (.sc (.int .i64 m)):=rfl
def pfV(P:Env)(d:Option Nat)(r:List AO)(st:St)(K:St->Prop):Option PV->Prop
 |some v=>opsK P r (st.put d v) K
 |none=>False
@[push_cast] theorem qwB(v:PV):pfV P d r st K (some v)=opsK P r (st.put d v) K:=rfl
@[push_cast] theorem o_pf(g:XF)(x:Opd):opsK P (⟨d,none,.xo (.pf g) [x]⟩::r) st K=pfV P d r st K (xfF g (x.ev st)):=by
 show xoK st d (.pf g) [x.ev st] (fun st' =>opsK P r st' K)=_
 generalize x.ev st=u
 have: ∀K' :St->Prop,xoK st d (.pf g) [u] K' =pfK st d K' (xfF g u):=fun K' =>by cases d<;>rfl
 rw[this]
 cases xfF g u<;>rfl
@[push_cast] theorem qwC(b:Bool)(n:Int):mxL b n []=some n:=rfl
@[push_cast] theorem qwD(b:Bool)(n m:Int)(r:List PV):mxL b n (.sc (.int .i64 m)::r)=mxL b (bif b then max n m else min n m) r:=rfl
@[push_cast] theorem qwE(b:Bool)(n:Int)(r:List PV):mxF b (.sc (.int .i64 n)::r)=mxO (mxL b n r):=by
 show(mxL b n r).map _=_
 cases mxL b n r<;>rfl
@[push_cast] theorem qwF(ng:Bool):xfF (.ieq ng) (.sc .nilIface)=some (.sc (.bool (!ng))):=rfl
@[push_cast] theorem qwG(ng:Bool)(t:Nat)(v:Value):xfF (.ieq ng) (.sc (.iface t v))=some (.sc (.bool ng)):=rfl
@[push_cast] theorem qwH(f id:Nat):xfF (.bm f) (.ptr id 0)=some (.bm f id):=rfl
@[push_cast] theorem qwI(t:Nat):xfF (.mki t) (.agg [])=some (.sc (.iface t (.agg #[]))):=rfl
@[push_cast] theorem qwJ(t:Nat)(k:IntKind)(n:Int):xfF (.mki t) (.sc (.int k n))=some (.sc (.iface t (.int k n))):=rfl
@[push_cast] theorem qwK(t:Nat):xfF (.tas t) (.sc (.iface t (.agg #[])))=some (.tup [.agg [],.sc (.bool true)]):=by simp[xfF]
def clxK(P:Env)(d:Option Nat)(f:Nat)(args:List PV)(r:List AO)(st:St)(K:St->Prop):Prop:=FnX P f args st fun rv st' =>opsK P r (st'.put d rv) K
@[congr] theorem qwL{P:Env}{d:Option Nat}{f:Nat}{args args' :List PV}{r:List AO}{st st' :St}{K:St->Prop}(h1:args=args')(h2:st=st'):clxK P d f args r st K=clxK P d f args' r st' K:=by rw[h1,h2]
@[push_cast] theorem qwO(t:Nat)(v:Value):panK P st (.sc (.iface t v))=P.pan [{ v:= .iface t v,recovered:=false }] st:=rfl
end
def FnPX(P:Program)(f:Nat)(args:List PV)(post:PV->Prop)(panv:List PanicEntry->Prop):Prop:=qcG P f=true/\
 ∀(w:World) (Z:Zone),GL P w->(∀b,Z true b->Z false b)->(∀p b,Z p b->b<w.heap.size)-> ∀vs:Array Value,vs.size=args.length->(∀j c,args[j]? =some c->TV w Z c (vs.getD j undef))->
  Calls P f vs w fun e w' =>(∃v r,e= .returned v/\post r/\TV w' (fun p b=>p=true/\(Z true b\/(w.heap.size<=b/\b<w'.heap.size))) r v/\Below w.heap.size w w')\/(∃ch,e= .panicked ch/\panv ch/\Below w.heap.size w w')
theorem FnPX.of_awp {P : Program} {f : Nat} {fn : Func} {ac : AC} {rvs : List RV} {args : List PV} {post : PV -> Prop} {panv : List PanicEntry -> Prop} (hf : P.funcs[f]? = some fn) (hok : fnOk P ac rvs fn = true) (hg : qcG P f = true) (hn : args.length <= fn.ntmps)
  (h:awp ⟨P,0,fun _ _ _ _=>False,fun ch _=>panv ch⟩ ac (retK rvs post) ⟨slots0 args,[],[],[]⟩):FnPX P f args post panv:=by
 refine⟨hg,fun w Z hgl zt zb vs hsz hrel=> ?_⟩
 simp only[fnOk,zN]at hok
 obtain⟨hb,hr⟩:=hok
 split at hb
 ·rename_i c hc
  have hsize:(vs++Array.replicate (fn.ntmps-vs.size) undef).size=fn.ntmps:=by simp;omega
  have hinit:Inv w Z ⟨fn.ntmps,0,fun _=>undef,⟨[],fun _=>0⟩,some (false,[])⟩ Z L00 ⟨slots0 args,[],[],[]⟩ { tmps:=vs++Array.replicate (fn.ntmps-vs.size) undef,defers:=[] } w:=by
   refine⟨zt,fun _ _ h=>h,fun _ _ h=> .inl h,zb,Below.refl _ _,?_,?_,?_,?_,?_,?_,?_,?_,?_,?_,fun x hx=>(by cases hx),fun _=>rfl,hsize,fun dd e=>⟨[],⟨by cases e;rfl,fun _=>rfl⟩,⟨.nil,fun D hD=>by cases hD⟩,fun D hD=>by cases hD⟩,?_⟩
   ·intro id cs hl;simp[lk]at hl
   ·intro id cs hl;simp[lk]at hl
   ·intro i j x y hl;simp[lk]at hl
   ·intro i j x y hl;simp[lk]at hl
   ·intro i j x y hl;simp[lk]at hl
   ·intro id cs hl;simp[lk]at hl
   ·intro id cs hl;simp[lk]at hl
   ·intro id cs hl;simp[lk]at hl
   ·intro i j x y hl;simp[lk]at hl
   ·intro id cs hl;simp[lk]at hl
   ·intro i v hl
    simp only[qh2]at hl
    have hi:i<vs.size:=by rw[hsz];exact(zM.1 hl).1
    have:=hrel i v hl
    have e:(vs++Array.replicate (fn.ntmps-vs.size) undef).getD i undef=vs.getD i undef:=by
     simp only[zO,Array.getElem?_append_left hi]
    unfold Fr.val
    rw[if_pos ⟨Nat.zero_le _,by simp only;omega⟩]
    simp only[Nat.sub_zero]at e ⊢
    rw[e]
    exact this.vr _
  have h' :=qwu (Q' :=xQ ⟨P,0,fun _ _ _ _=>False,fun ch _=>panv ch⟩ (retK rvs post)) ac (fun e st hh=>by cases e<;>first|exact hh|(simp[retK,qgU]at hh)) _ h
  refine callsIn_wide (n:=0)|>.1 (callsIn_of_wp_marks hf hc trivial ?_)
  have hE2:EnvOK ⟨P,0,fun _ _ _ _=>False,fun ch _=>panv ch⟩ w Z ⟨[],fun _=>0⟩ fun _=>undef:=⟨hgl,fun _ _ _ _ _ _ _ _ _ _ _ _ _ h=>h.elim⟩
  refine wpIn_mono (qgS (P:=⟨P,0,fun _ _ _ _=>False,fun ch _=>panv ch⟩) (w0:=w) (Z0:=Z) ac (N:=⟨fn.ntmps,0,fun _=>undef,⟨[],fun _=>0⟩,some (false,[])⟩) (ro:=none) (n:=0) hE2 (Nat.le_refl _) c (xQ _ (retK rvs post)) _ _ w (.inr ⟨rfl,fun dd e=>by cases e;rfl⟩) (fun l st hh=>by simp[xQ,retK,qgU]at hh) (fun ch st hh=>hh) hb h' ⟨_,_,hinit⟩) ?_
  rintro e a' w' ⟨st',hq,Z',L',hI⟩
  have hend: ∀e,retK rvs post e st' ->LeavesInM Fence.wide 0 P fn a'.tmps (fun e w' =>(∃v r,e= .returned v/\post r/\TV w' (fun p b=>p=true/\(Z true b\/(w.heap.size<=b/\b<w'.heap.size))) r v/\Below w.heap.size w w')\/(∃ch,e= .panicked ch/\panv ch/\Below w.heap.size w w')) a'.defers .returning w' :=by
   rintro e ⟨he,h1,hfl,h2,h3⟩
   have hnt' : ∀cs ds,(resV st' rvs).2= .tup cs-> .tup ds∉cs:=fun cs ds e hm=>by rw[e]at hfl;have:=yE.1 hfl _ hm;simp[qgV]at this
   refine hI.leave2 rfl (by simp) fun w2 hI3=> ?_
   obtain⟨Z2,v,hI2,hrun,hvr⟩:=qh1 hI3 hr h1 hnt'
   have htv:TV w2 (fun p b=>p=true/\(Z true b\/(w.heap.size<=b/\b<w2.heap.size))) (resV st' rvs).2 v:=by
    refine(VR.perm hvr h2).zone ?_
    rintro p b ⟨rfl,hb'⟩
    exact⟨rfl,(hI2.zn true b hb').imp (fun e=>e) (fun e=>⟨e,hI2.zb true b hb'⟩)⟩
   exact⟨v,hrun,.inl ⟨v,_,rfl,h3,htv,hI3.below⟩⟩
  cases e<;>first|exact hend _ hq|(simp[xQ,retK,qgU]at hq;done)|skip
  rename_i ch
  exact hI.leave2 rfl (by simp) fun w2 hI3=> .inr ⟨ch,rfl,hq,hI3.below⟩
 ·cases hb
@[push_cast] theorem qwS(st:St)(t:Nat)(agg:Bool)(sz:Nat):RV.val st (.cell t agg sz)=rvC st agg sz (st.get t):=qpf st t agg sz
theorem FnD.mono{P:Program}{g:Nat}{ids:List Nat}{u u' :FrameMode}{st:St}{Q Q' :St->Prop}(h:FnD P g ids u u' st Q)(hq: ∀st',Q st' ->Q' st'):FnD P g ids u u' st Q' :=
 fun w0 Z0 X G Z L w hg hM=>CallsDIn.mono (h w0 Z0 X G Z L w hg hM) fun _ _ _ ⟨e1,e2,st',Z',L',e3,e4⟩=>⟨e1,e2,st',Z',L',hq st' e3,e4⟩
theorem FnD.sub {P : Program} {g : Nat} {ids : List Nat} {u u' : FrameMode} {st : St} {Q : St -> Prop} (st1 : St) (h : FnD P g ids u u' st1 Q) (hs : ∀ i v, lk st1.s i = some v -> lk st.s i = some v) (hb : ∀ i v, lk st1.b i = some v -> lk st.b i = some v)
  (ha: ∀i v,lk st1.a i=some v->lk st.a i=some v) (hm: ∀i v,lk st1.m i=some v->lk st.m i=some v):FnD P g ids u u' st Q:=
 fun w0 Z0 X G Z L w hg hM=>h w0 Z0 X G Z L w hg (hM.forget (fun i v hl=> .inl (hs i v hl)) hb ha hm)
section
variable {P:Env} {ops:List XO} {n:Nat} {dn:List Nat} {st:St} {K:St->Prop}
@[push_cast] theorem qwW(P:Env)(keep:List Nat)(ops:List XO)(Q:Exit->St->Prop)(st:St):awp P (.dra keep ops) Q st=allK P ops ops.length [] (st.keepS keep) (Q .normal):=rfl
end
end Go.Vc
namespace Go.Proofs.YtecoaapkcnhlhaaGreatDoor
open Go Go.Vc Txt
theorem qwX(n lo hi:Int):FnEq Tryz.prog 79 [.int n,.int lo,.int hi] (.bool (decide (lo<=n/\n<=hi))):=by
 refine FnEq.of_awp Tryz.func79 ok79 (by show 3<=_;decide) (by simp only[push_cast,reduceIte,zA,zB,zC,zD,zE,zF,zG,reduceCtorEq,zH,zJ,cNI]<;>first|exact fun _ _=>trivial|simp) ?_
 simp only[ac79,rv79,push_cast,reduceIte,zA,zB,zC,zD,zE,zF,zG,reduceCtorEq,zH,zJ,cNI]
 (repeat' (first|(refine qrz rfl (fun _=> ?_) fun _=> ?_<;>simp only[push_cast,reduceIte,zA,zB,zC,zD,zE,zF,zG,reduceCtorEq,zH,zJ,cNI])|(refine qrA rfl (fun _=> ?_) fun _=> ?_<;>simp only[push_cast,reduceIte,zA,zB,zC,zD,zE,zF,zG,reduceCtorEq,zH,zJ,cNI])))
 all_goals (refine congrArg Value.bool ?_;first|rfl|(rw[decide_eq_decide];omega)|(rw[eq_comm,decide_eq_true_iff];omega)|(rw[eq_comm,decide_eq_false_iff_not];omega)|(simp[*];done))
def qwY(k m:Int):Bool:=if k=0 then decide (m=0)else if k=1 then decide (m≠3)else true
theorem qwZ(k m:Int):FnEq Tryz.prog 103 [.int k,.int m] (.bool (qwY k m)):=by
 refine FnEq.of_awp Tryz.func103 ok103 (by show 2<=_;decide) (by simp only[push_cast,reduceIte,zA,zB,zC,zD,zE,zF,zG,reduceCtorEq,zH,zJ,cNI]<;>first|exact fun _ _=>trivial|simp) ?_
 simp only[ac103,rv103,push_cast,reduceIte,zA,zB,zC,zD,zE,zF,zG,reduceCtorEq,zH,zJ,cNI]
 refine qnY (fun h=> ?_) fun h=> ?_
 ·rw[qwY,if_pos h]
 ·refine qnY (fun h2=> ?_) fun h2=> ?_
  ·rw[qwY,if_neg h,if_pos h2]
  ·rw[qwY,if_neg h,if_neg h2]
structure Wire where
 kind:Int
 i:Int
 bit:Int
 deriving DecidableEq,Inhabited
structure Block where
 ins:List Int
 table:Int
 ram:Int
 reg:Int
 key:Int
 deriving DecidableEq,Inhabited
structure Packed where
 ins:List Wire
 blocks:List Block
 out:List Wire
 drive:List Int
 deriving DecidableEq,Inhabited
structure Route where
 sig:Int
 nodes:List Int
 frm:List Int
 deriving DecidableEq,Inhabited
structure Layout where
 pos:List Int
 routes:List Route
 deriving DecidableEq,Inhabited
structure Cfg where
 sel:List Int
 mode:List Int
 tab:List Int
 ram:List Int
 deriving DecidableEq,Inhabited
def cfgC(q:Bool)(c:Cfg):List PV:=[.sl q 1 (ints c.sel),.sl q 1 (ints c.mode),.sl q 1 (ints c.tab),.sl q 1 (ints c.ram)]
@[push_cast] theorem qx9(q:Bool)(c:Cfg):cfgC q c=[.sl q 1 (ints c.sel),.sl q 1 (ints c.mode),.sl q 1 (ints c.tab),.sl q 1 (ints c.ram)]:=rfl
def cfg0:Cfg:=⟨[],[],[],[]⟩
def qxc(g:Grid):Cfg:=⟨List.replicate (qv2 g).toNat 0,List.replicate g.kind.length 0,List.replicate g.kind.length 0,List.replicate g.kind.length 0⟩
def qxd(b:Block):Prop:=(-1<=b.ram/\b.ram<=255)/\(-1<=b.reg/\b.reg<=255)/\(0<=b.table/\b.table<=65535)/\min b.ram b.reg= -1
instance (b:Block):Decidable (qxd b):=by unfold qxd;infer_instance
structure CfgOk (g:Grid) (c:Cfg):Prop where
 sel:c.sel.length=(qv2 g).toNat
 mode:c.mode.length=g.kind.length
 tab:c.tab.length=g.kind.length
 ram:c.ram.length=g.kind.length
end Go.Proofs.YtecoaapkcnhlhaaGreatDoor
namespace Go.Vc
theorem FnX.dropB{E:Env}{f:Nat}{args:List PV}{st:St}{Q:PV->St->Prop}(i:Nat)(h:FnX E f args st fun r st' =>Q r { st' with b:=rm st'.b i }):FnX E f args st Q:=
 ⟨h.1,fun w0 Z0 X G Z L w vs h1 h2 h3=>(h.2 w0 Z0 X G Z L w vs h1 h2 h3).mono fun _ _ h=>h.imp (fun⟨v,r,st',Z',L',e1,e2,e3,e4⟩=>⟨v,r,_,Z',L',e1,e2,e3.rmBox i,e4⟩) id⟩
end Go.Vc
namespace Go.Proofs.YtecoaapkcnhlhaaGreatDoor
open Go Go.Vc Txt
theorem qxm(zs:List Int)(hs:zs.Pairwise (· <= ·)): ∀m,m<=zs.length->(Go.Lib.compactUpTo zs.toArray m).Pairwise (· < ·)/\ ∀x,x∈Go.Lib.compactUpTo zs.toArray m ↔ x∈zs.take m
 |0,_=>by simp[Go.Lib.compactUpTo]
 | m + 1, hm => by
   obtain⟨h1,h2⟩:=qxm zs hs m oM
   have hlt:m<zs.length:=by omega
   have hget:zs.toArray[m]! =zs[m]:=by simp[hlt]
   have htk:zs.take (m+1)=zs.take m++[zs[m]]:=zZ hlt
   rw[Go.Lib.compactUpTo_succ,htk,hget]
   have hle: ∀a b (ha:a<zs.length) (hb:b<zs.length),a<=b->zs[a]<=zs[b]:=fun a b ha hb hab=>by
    by_cases e:a=b
    ·subst e;exact Int.le_refl _
    ·exact List.pairwise_iff_getElem.1 hs a b ha hb oM
   by_cases hm0:m=0
   ·subst hm0
    rw[if_pos (Go.Lib.keeps_lt_one _ 0 oM)]
    simp[Go.Lib.compactUpTo]
   have hget2:zs.toArray[m-1]! =zs[m-1]:=by simp[show m-1<zs.length by omega]
   by_cases e:zs[m-1]=zs[m]
   ·rw[if_neg (by rw[Go.Lib.keeps_neg oM (by rw[hget,hget2,e])];decide),List.append_nil]
    refine⟨h1,fun x=> ?_⟩
    rw[h2 x,yC,List.mem_singleton]
    refine⟨.inl,fun h=>h.elim _root_.id fun e2=> ?_⟩
    subst e2
    rw[<- e]
    exact List.mem_iff_getElem.2 ⟨m-1,by simp;omega,by simp⟩
   ·rw[if_pos (Go.Lib.keeps_pos (by rw[hget,hget2];exact Ne.symm e))]
    refine⟨List.pairwise_append.2 ⟨h1,List.pairwise_singleton _ _,fun x hx y hy=> ?_⟩,fun x=>by rw[yC,yC,h2 x]⟩
    rw[List.mem_singleton]at hy
    subst hy
    have hx:=(h2 x).1 hx
    obtain⟨j,hj,rfl⟩:=List.getElem_of_mem hx
    have hj2:j<m:=by simp at hj;omega
    rw[List.getElem_take]
    have h3:=hle j (m-1) oM oM oM
    have h4:=hle (m-1) m oM hlt oM
    omega
theorem qxn(l:List Int):(qvR l).Pairwise (· <= ·):=by
 have:=List.pairwise_mergeSort (le:=fun x y:Int=>decide (x<=y)) (fun a b c h1 h2=>by simp at *;omega) (fun a b=>by simp;omega) l
 exact this.imp fun h=>by simpa using h
theorem qxo(l:List Int)(x:Int):x∈qvR l ↔ x∈l:=List.mem_mergeSort
theorem qxp(l:List Int):(Go.Lib.compact (qvR l)).Pairwise (· < ·)/\ ∀x,x∈Go.Lib.compact (qvR l) ↔ x∈l:=by
 obtain⟨h1,h2⟩:=qxm (qvR l) (qxn l) (qvR l).length (Nat.le_refl _)
 refine⟨h1,fun x=> ?_⟩
 rw[Go.Lib.compact,h2 x,List.take_length,qxo]
theorem qxq(l:List Int)(b:Int):(qw9 l b).Pairwise (· < ·)/\ ∀x,x∈qw9 l b ↔ x∈l/\x≠b:=by
 obtain⟨h1,h2⟩:=qxp l
 refine⟨h1.filter _,fun x=> ?_⟩
 rw[qw9,delF,List.mem_filter,h2 x]
 simp
theorem qxr(g:Grid)(n:Int):(qwb g n).Pairwise (· < ·):=by
 rw[qwb]
 split
 ·exact(qxq _ _).1
 ·exact .nil
theorem qxs(g:Grid)(n x:Int):x∈qwb g n ↔ (qv9 g n).2=0/\x∈rawD g (qv9 g n).1/\x≠n:=by
 rw[qwb]
 split
 ·rename_i h;rw[(qxq _ _).2];simp[h]
 ·rename_i h;simp[h]
theorem qxt(g:Grid)(hg:GOk g)(s:Spot):((rawD g s).length:Int)<=100000:=by
 have ht:=hg.tracks
 have hal: ∀x y,(allF g [] x y).length<=256:=fun x y=>by
  have:=qvA g x y [] g.tracks.toNat
  rw[allF]
  simp only[List.length_nil]at this
  omega
 rw[rawD]
 split
 ·split
  ·have:=qvs g (allF g [] s.x s.y) ⟨1,s.x,s.y-1,0⟩
   have:=hal s.x s.y
   omega
  ·have:=hal s.x s.y;omega
 ·split
  ·have:=hal (g.w-1) s.y;omega
  ·split
   ·have h1:=qvF g hg s [] s.x s.y
    have h2:=fun x y=>qvF g hg s (endF g s [] s.x s.y) x y
    simp only[List.length_nil]at h1
    have e:qvJ g s []=qvM g s (endF g s [] s.x s.y):=rfl
    rw[e,qvM]
    split<;>split<;>first|omega|(have:=h2 (s.x+1) s.y;omega)|(have:=h2 s.x (s.y+1);omega)
   ·simp
theorem qxu(g:Grid)(hg:GOk g)(n:Int):((qwb g n).length:Int)<=100000:=by
 rw[qwb]
 split
 ·rename_i h
  have h1:=qxt g hg (qv9 g n).1
  have h2:(qw9 (rawD g (qv9 g n).1) n).length<=(rawD g (qv9 g n).1).length:=by
   refine Nat.le_trans (List.length_filter_le _ _) (Nat.le_trans (Go.Lib.compact_length_le _) ?_)
   rw[qvR,List.length_mergeSort];exact Nat.le_refl _
  omega
 ·simp
def Rng(g:Grid)(n:Int):Prop:=0<=n/\n<qv2 g
structure DOk (g:Grid) (d:Spot):Prop where
 kind:1<=d.kind/\d.kind<=7
 pos:d.kind<=5->(0<=d.x/\d.x<g.w)/\(0<=d.y/\d.y<g.h)
 i0:d.kind<=2->d.i=0
 i3:d.kind=3->0<=d.i/\d.i<4
 i4:d.kind=4\/d.kind=5->0<=d.i/\d.i<g.tracks
 k6:d.kind=6->d.x= -1/\d.y=d.i%g.h/\0<=d.i/\d.i<g.pads
 k7:d.kind=7->d.x=g.w/\d.y=d.i%g.h/\0<=d.i/\d.i<g.pads
theorem qxF{g:Grid}(hg:GOk g){n:Int}(hn:Rng g n):DOk g (qv8 g n)/\qvd g (qv8 g n)=n:=by
 obtain⟨n1,n2⟩:=hn
 have h1:=hg.each
 have h2:=hg.w
 have h3:=hg.h
 have h4:=hg.tracks
 have h5:=hg.pads
 have hc:qv2 g=allI g+2*g.pads:=rfl
 rw[qv8]
 split
 ·refine⟨⟨by simp,fun h=>by simp at h,fun h=>by simp at h,fun h=>by simp at h,fun h=>by simp at h,fun h=>by simp at h,fun _=>⟨rfl,rfl,by simp only;omega,by simp only;omega⟩⟩,?_⟩
  simp only[qvd];simp;omega
 rename_i c1
 split
 ·refine⟨⟨by simp,fun h=>by simp at h,fun h=>by simp at h,fun h=>by simp at h,fun h=>by simp at h,fun _=>⟨rfl,rfl,by simp only;omega,by simp only;omega⟩,fun h=>by simp at h⟩,?_⟩
  simp only[qvd];simp;omega
 rename_i c2
 have ha:n<g.w*g.h*qv1 g:=by unfold allI at c2;omega
 have hdm:qv1 g*(n/qv1 g)+n%qv1 g=n:=Int.mul_ediv_add_emod n (qv1 g)
 have hm1:0<=n%qv1 g:=Int.emod_nonneg _ oM
 have hm2:n%qv1 g<qv1 g:=Int.emod_lt_of_pos _ oM
 have he:qv1 g=6+2*g.tracks:=rfl
 have ht0:0<=n/qv1 g:=Int.ediv_nonneg n1 oM
 have ht1:n/qv1 g<g.w*g.h:=Int.ediv_lt_of_lt_mul oM ha
 dsimp only
 generalize n/qv1 g=t at *
 generalize n%qv1 g=i at *
 have hdm2:g.w*(t/g.w)+t%g.w=t:=Int.mul_ediv_add_emod t g.w
 have hx1:0<=t%g.w:=Int.emod_nonneg _ oM
 have hx2:t%g.w<g.w:=Int.emod_lt_of_pos _ oM
 have hy1:0<=t/g.w:=Int.ediv_nonneg ht0 oM
 have hy2:t/g.w<g.h:=Int.ediv_lt_of_lt_mul oM (by rw[Int.mul_comm];exact ht1)
 have hb:(t/g.w*g.w+t%g.w)*qv1 g+i=n:=by rw[Int.mul_comm (t/g.w),hdm2,Int.mul_comm];exact hdm
 generalize t%g.w=x at *
 generalize t/g.w=y at *
 have hbase: ∀k j:Int,qvc g ⟨k,x,y,j⟩+i=n:=fun k j=>hb
 split
 ·refine⟨⟨by simp,fun _=>⟨⟨hx1,hx2⟩,hy1,hy2⟩,fun h=>by simp at h,fun h=>by simp at h,fun _=>⟨by simp only;omega,by simp only;omega⟩,fun h=>by simp at h,fun h=>by simp at h⟩,?_⟩
  have:=hbase 5 (i-6-g.tracks)
  simp only[qvd];simp;omega
 split
 ·refine⟨⟨by simp,fun _=>⟨⟨hx1,hx2⟩,hy1,hy2⟩,fun h=>by simp at h,fun h=>by simp at h,fun _=>⟨by simp only;omega,by simp only;omega⟩,fun h=>by simp at h,fun h=>by simp at h⟩,?_⟩
  have:=hbase 4 (i-6)
  simp only[qvd];simp;omega
 split
 ·refine⟨⟨by simp,fun _=>⟨⟨hx1,hx2⟩,hy1,hy2⟩,fun h=>by simp at h,fun _=>⟨by simp only;omega,by simp only;omega⟩,fun h=>by simp at h,fun h=>by simp at h,fun h=>by simp at h⟩,?_⟩
  have:=hbase 3 (i-2)
  simp only[qvd];simp;omega
 split
 ·refine⟨⟨by simp,fun _=>⟨⟨hx1,hx2⟩,hy1,hy2⟩,fun _=>rfl,fun h=>by simp at h,fun h=>by simp at h,fun h=>by simp at h,fun h=>by simp at h⟩,?_⟩
  have:=hbase 2 0
  simp only[qvd];simp;omega
 ·refine⟨⟨by simp,fun _=>⟨⟨hx1,hx2⟩,hy1,hy2⟩,fun _=>rfl,fun h=>by simp at h,fun h=>by simp at h,fun h=>by simp at h,fun h=>by simp at h⟩,?_⟩
  have:=hbase 1 0
  simp only[qvd];simp;omega
theorem qxG{g:Grid}{n:Int}(h:Rng g n):qv9 g n=(qv8 g n,0):=by
 unfold Rng at h
 rw[qv9,if_neg oM]
theorem qxH{g:Grid}{n:Int}(h:(qv9 g n).2=0):Rng g n:=by
 unfold qv9 at h
 unfold Rng
 split at h
 ·cases h
 ·omega
theorem qxI{g:Grid}(hg:GOk g)(l:List Int)(s:Spot)(x:Int):x∈addF g l s ↔ x∈l\/(Rng g x/\qv8 g x=s):=by
 have key: ∀x,Rng g x->qv8 g x=s->qve g s=(x,0):=fun x hx e=>by
  obtain⟨_,h⟩:=qxF hg hx
  rw[e]at h
  rw[qve,h,qxG hx,if_pos ⟨rfl,e⟩]
 rw[addF]
 split
 ·rename_i h
  rw[yC,List.mem_singleton]
  have h2:(qv9 g (qvd g s)).2=0/\(qv9 g (qvd g s)).1=s:=by
   unfold qve at h
   split at h
   ·assumption
   ·cases h
  have h3:=qxH h2.1
  have h4:qv8 g (qvd g s)=s:=by rw[qxG h3]at h2;exact h2.2
  rw[key _ h3 h4]
  refine or_congr_right ⟨fun e=>by subst e;exact⟨h3,h4⟩,fun e=> ?_⟩
  have:=key x e.1 e.2
  rw[key _ h3 h4]at this
  cases this;rfl
 ·rename_i h
  refine⟨.inl,fun e=>e.elim id fun e=>absurd ?_ h⟩
  rw[key x e.1 e.2]
def qxJ(g:Grid)(d:Spot)(x y:Int):Prop:= ¬(x<0\/g.w<=x\/y<0\/g.h<=y)/\((d.kind=4/\d.y=y/\(d.x=x\/d.x=x-1))\/(d.kind=5/\d.x=x/\(d.y=y\/d.y=y-1)))
theorem qxK(d:Spot)(k x y i:Int):d=⟨k,x,y,i⟩ ↔ d.kind=k/\d.x=x/\d.y=y/\d.i=i:=by
 obtain⟨a,b,c,e⟩:=d
 simp
section
variable {g:Grid} (hg:GOk g)
include hg
theorem qxL(l:List Int)(x y t n:Int):n∈qvx g l x y t ↔ n∈l\/(Rng g n/\(qv8 g n).i=t/\qxJ g (qv8 g n) x y):=by
 unfold qvx qxJ
 split
 ·rename_i h
  simp[h]
 ·rename_i h
  simp only[qxI hg,qxK]
  generalize qv8 g n=d
  constructor
  ·rintro((((h1|⟨r,h1⟩)|⟨r,h1⟩)|⟨r,h1⟩)|⟨r,h1⟩)
   ·exact .inl h1
   all_goals exact .inr ⟨r,oM,h,oM⟩
  ·rintro(h1|⟨r,h1,_,h2⟩)
   ·exact .inl (.inl (.inl (.inl h1)))
   ·rcases h2 with⟨a,b,c|c⟩|⟨a,b,c|c⟩
    ·exact .inl (.inl (.inl (.inr ⟨r,oM⟩)))
    ·exact .inl (.inr ⟨r,oM⟩)
    ·exact .inl (.inl (.inr ⟨r,oM⟩))
    ·exact .inr ⟨r,oM⟩
theorem qxM(x y n:Int)(l:List Int): ∀m:Nat,n∈allN g x y l m ↔ n∈l\/(Rng g n/\(0<=(qv8 g n).i/\(qv8 g n).i<m)/\qxJ g (qv8 g n) x y)
 | 0 => by
   rw[allN]
   refine⟨.inl,fun h=>h.elim id fun h=> ?_⟩
   have:=h.2.1
   omega
 | m + 1 => by
   rw[allN,qxL hg,qxM x y n l m]
   constructor
   ·rintro((h|⟨r,h1,h2⟩)|⟨r,h1,h2⟩)
    ·exact .inl h
    ·exact .inr ⟨r,oM,h2⟩
    ·exact .inr ⟨r,oM,h2⟩
   ·rintro(h|⟨r,h1,h2⟩)
    ·exact .inl (.inl h)
    ·by_cases e:(qv8 g n).i=m
     ·exact .inr ⟨r,e,h2⟩
     ·exact .inl (.inr ⟨r,oM,h2⟩)
theorem qxN(x y n:Int):n∈allF g [] x y ↔ Rng g n/\qxJ g (qv8 g n) x y:=by
 have ht:=hg.tracks
 rw[allF,qxM hg]
 constructor
 ·rintro(h|⟨r,_,h⟩)
  ·cases h
  ·exact⟨r,h⟩
 ·rintro⟨r,h⟩
  have hd:=(qxF hg r).1.i4 (by unfold qxJ at h;omega)
  exact .inr ⟨r,oM,h⟩
theorem qxO(y n:Int): ∀(f:Nat) (k:Int) (l:List Int),g.pads<=k+f->(n∈padR g y f k l ↔ n∈l\/(Rng g n/\(qv8 g n).kind=6/\(qv8 g n).x= -1/\(qv8 g n).y=y/\k<=(qv8 g n).i/\(qv8 g n).i<g.pads/\((qv8 g n).i-k)%g.h=0))
 | 0, k, l, hf => by
   rw[padR]
   refine⟨.inl,fun h=>h.elim id fun h=> ?_⟩
   omega
 | f + 1, k, l, hf => by
   have hh:=hg.h
   rw[padR]
   split
   ·rename_i hk
    rw[qxO y n f (k+g.h) _ oM,qxI hg,qxK]
    generalize qv8 g n=d
    have e:(d.i-(k+g.h))%g.h=(d.i-k)%g.h:=by
     rw[show d.i-(k+g.h)=d.i-k-g.h by omega]
     exact Int.sub_emod_right (d.i-k) g.h
    rw[e]
    constructor
    ·rintro((h|⟨r,h⟩)|⟨r,h⟩)
     ·exact .inl h
     ·refine .inr ⟨r,h.1,h.2.1,h.2.2.1,oM,oM,?_⟩
      rw[h.2.2.2];simp
     ·exact .inr ⟨r,h.1,h.2.1,h.2.2.1,oM,oM,h.2.2.2.2.2⟩
    ·rintro(h|⟨r,h1,h2,h3,h4,h5,h6⟩)
     ·exact .inl (.inl h)
     ·by_cases e2:d.i=k
      ·exact .inl (.inr ⟨r,h1,h2,h3,e2⟩)
      ·refine .inr ⟨r,h1,h2,h3,?_,h5,h6⟩
       have:=Int.emod_lt_of_pos (d.i-k) (show 0<g.h by omega)
       by_cases e3:d.i-k<g.h
       ·rw[Int.emod_eq_of_lt oM e3]at h6;omega
       ·omega
   ·rename_i hk
    refine⟨.inl,fun h=>h.elim id fun h=> ?_⟩
    omega
theorem qxP(l:List Int)(y n:Int)(hy:0<=y/\y<g.h):n∈qvC g l y ↔ n∈l\/(Rng g n/\(qv8 g n).kind=6/\(qv8 g n).y=y):=by
 have hp:=hg.pads
 rw[qvC,qxO hg _ _ _ _ _ oM]
 refine or_congr_right ⟨fun h=>⟨h.1,h.2.1,h.2.2.2.1⟩,fun⟨r,h1,h2⟩=> ?_⟩
 obtain⟨k1,k2,k3,k4⟩:=(qxF hg r).1.k6 h1
 generalize qv8 g n=d at *
 have hh:=hg.h
 have e:=Int.mul_ediv_add_emod d.i g.h
 have hle:d.i%g.h<=d.i:=by
  have:=Int.ediv_nonneg k3 (show 0<=g.h by omega)
  have:=Int.mul_nonneg (show 0<=g.h by omega) this
  omega
 refine⟨r,h1,k1,h2,oM,k4,?_⟩
 rw[show d.i-y=g.h*(d.i/g.h)by omega]
 exact Int.mul_emod_right _ _
theorem qxQ (s : Spot) (l : List Int) (x y n : Int) (hy : 0 <= y /\ y < g.h) : n ∈ endF g s l x y ↔ n ∈ l \/ (Rng g n /\ (((qv8 g n).kind = 1 /\ (qv8 g n).x = x /\ (qv8 g n).y = y) \/ ((qv8 g n).kind = 2 /\ (qv8 g n).x = x /\ (qv8 g n).y = y) \/
  ((qv8 g n).i=s.i/\qxJ g (qv8 g n) x y)\/(x=0/\(qv8 g n).kind=6/\(qv8 g n).y=y))):=by
 have key:n∈qvx g (addF g (addF g l ⟨1,x,y,0⟩) ⟨2,x,y,0⟩) x y s.i ↔ n∈l\/(Rng g n/\(((qv8 g n).kind=1/\(qv8 g n).x=x/\(qv8 g n).y=y)\/((qv8 g n).kind=2/\(qv8 g n).x=x/\(qv8 g n).y=y)\/
  ((qv8 g n).i=s.i/\qxJ g (qv8 g n) x y))):=by
  rw[qxL hg,qxI hg,qxI hg,qxK,qxK]
  constructor
  ·rintro(((h|⟨r,h⟩)|⟨r,h⟩)|⟨r,h⟩)
   ·exact .inl h
   ·exact .inr ⟨r,.inl ⟨h.1,h.2.1,h.2.2.1⟩⟩
   ·exact .inr ⟨r,.inr (.inl ⟨h.1,h.2.1,h.2.2.1⟩)⟩
   ·exact .inr ⟨r,.inr (.inr h)⟩
  ·rintro(h|⟨r,h|h|h⟩)
   ·exact .inl (.inl (.inl h))
   ·exact .inl (.inl (.inr ⟨r,h.1,h.2.1,h.2.2,(qxF hg r).1.i0 oM⟩))
   ·exact .inl (.inr ⟨r,h.1,h.2.1,h.2.2,(qxF hg r).1.i0 oM⟩)
   ·exact .inr ⟨r,h⟩
 simp only[endF]
 split
 ·rename_i hx
  rw[qxP hg _ _ _ hy,key]
  constructor
  ·rintro((h|⟨r,h|h|h⟩)|⟨r,h⟩)
   ·exact .inl h
   ·exact .inr ⟨r,.inl h⟩
   ·exact .inr ⟨r,.inr (.inl h)⟩
   ·exact .inr ⟨r,.inr (.inr (.inl h))⟩
   ·exact .inr ⟨r,.inr (.inr (.inr ⟨hx,h⟩))⟩
  ·rintro(h|⟨r,h|h|h|h⟩)
   ·exact .inl (.inl h)
   ·exact .inl (.inr ⟨r,.inl h⟩)
   ·exact .inl (.inr ⟨r,.inr (.inl h)⟩)
   ·exact .inl (.inr ⟨r,.inr (.inr h)⟩)
   ·exact .inr ⟨r,h.2⟩
 ·rename_i hx
  rw[key]
  constructor
  ·rintro(h|⟨r,h|h|h⟩)
   ·exact .inl h
   ·exact .inr ⟨r,.inl h⟩
   ·exact .inr ⟨r,.inr (.inl h)⟩
   ·exact .inr ⟨r,.inr (.inr (.inl h))⟩
  ·rintro(h|⟨r,h|h|h|h⟩)
   ·exact .inl h
   ·exact .inr ⟨r,.inl h⟩
   ·exact .inr ⟨r,.inr (.inl h)⟩
   ·exact .inr ⟨r,.inr (.inr h)⟩
   ·exact absurd h.1 hx
end
theorem qxR{g:Grid}{w:Spot}{x y:Int}(h:w.kind≠4)(h2:w.kind≠5): ¬Adj g w x y:=by unfold Adj;omega
theorem qxS{g:Grid}{d:Spot}{x y:Int} :Adj g d x y ↔ qxJ g d x y:=by
 obtain⟨k,dx,dy,i⟩:=d
 simp only[Adj,qxJ]
 refine and_congr_right fun _=> ?_
 omega
def Can2(g:Grid)(a b:Spot):Prop:=(a.kind=1/\(Adj g b a.x a.y\/(b.kind=3/\b.i=3/\b.x=a.x/\b.y=a.y+1)))\/(a.kind=2/\Adj g b a.x a.y)\/(a.kind=6/\Adj g b 0 a.y)\/
 ((a.kind=4\/a.kind=5)/\(b.kind=4\/b.kind=5)/\a≠b/\a.i=b.i/\Meet g a b)\/((a.kind=4\/a.kind=5)/\b.kind=3/\Adj g a b.x b.y)\/((a.kind=4\/a.kind=5)/\b.kind=7/\Adj g a (g.w-1) b.y)
theorem qxT(g:Grid)(a b:Spot):CanD g a b ↔ Can2 g a b:=by
 unfold CanD Can2
 by_cases h1:a.kind=1
 ·simp[h1]
 by_cases h2:a.kind=2
 ·simp[h2]
 by_cases h6:a.kind=6
 ·simp[h6]
 by_cases h4:a.kind=4\/a.kind=5
 ·rw[if_neg h1,if_neg h2,if_neg h6,if_pos h4]
  simp only[h1,h2,h6,h4,false_and,false_or,true_and]
  split
  ·rename_i hb
   have h3: ¬b.kind=3:=by omega
   have h7: ¬b.kind=7:=by omega
   simp[hb,h3,h7]
  ·rename_i hb
   simp[hb]
 ·rw[if_neg h1,if_neg h2,if_neg h6,if_neg h4]
  simp[h1,h2,h6,h4]
section
variable {g:Grid} (hg:GOk g)
include hg
theorem qxU(s:Spot)(hs:DOk g s)(k3:s.kind=3)(n:Int)(hn:Rng g n):(n∈rawD g s/\qv8 g n≠s) ↔ CanD g (qv8 g n) s:=by
 have hd:=(qxF hg hn).1
 have e1:n∈rawD g s ↔ qxJ g (qv8 g n) s.x s.y\/(s.i=3/\(qv8 g n).kind=1/\(qv8 g n).x=s.x/\(qv8 g n).y=s.y-1):=by
  rw[rawD,if_pos k3]
  split
  ·rename_i h3
   rw[qxI hg,qxN hg,qxK]
   refine or_congr ⟨fun h=>h.2,fun h=>⟨hn,h⟩⟩ ⟨fun h=>⟨h3,h.2.1,h.2.2.1,h.2.2.2.1⟩,fun h=>⟨hn,h.2.1,h.2.2.1,h.2.2.2,hd.i0 oM⟩⟩
  ·rename_i h3
   rw[qxN hg]
   exact⟨fun h=> .inl h.2,fun h=>h.elim (fun h=>⟨hn,h⟩) fun h=>absurd h.1 h3⟩
 have n1: ∀x y,¬Adj g s x y:=fun x y=>qxR oM oM
 rw[e1,qxT,Can2]
 simp only[n1,qxS,k3,true_and,false_or,and_false,show ¬((3:Int)=4\/(3:Int)=5)by decide,show ¬(3:Int)=7 by decide,false_and,or_false]
 generalize qv8 g n=d at *
 constructor
 ·rintro⟨h|h,_⟩
  ·refine .inr ⟨?_,h⟩
   unfold qxJ at h;omega
  ·exact .inl ⟨h.2.1,h.1,h.2.2.1.symm,oM⟩
 ·rintro(h|h)
  ·exact⟨.inr ⟨h.2.1,h.1,h.2.2.1.symm,oM⟩,fun e=>by rw[e]at h;omega⟩
  ·exact⟨.inl h.2,fun e=>by rw[e]at h;omega⟩
theorem qxV(s:Spot)(hs:DOk g s)(k7:s.kind=7)(n:Int)(hn:Rng g n):(n∈rawD g s/\qv8 g n≠s) ↔ CanD g (qv8 g n) s:=by
 have e1:n∈rawD g s ↔ qxJ g (qv8 g n) (g.w-1) s.y:=by
  rw[rawD,if_neg oM,if_pos k7,qxN hg]
  exact⟨fun h=>h.2,fun h=>⟨hn,h⟩⟩
 have n1: ∀x y,¬Adj g s x y:=fun x y=>qxR oM oM
 rw[e1,qxT,Can2]
 simp only[n1,qxS,k7,true_and,false_or,and_false,show ¬((7:Int)=4\/(7:Int)=5)by decide,show ¬(7:Int)=3 by decide,false_and,or_false]
 generalize qv8 g n=d at *
 constructor
 ·rintro⟨h,_⟩
  refine⟨?_,h⟩
  unfold qxJ at h;omega
 ·rintro h
  exact⟨h.2,fun e=>by rw[e]at h;omega⟩
omit hg in
theorem qxW(s:Spot)(k:s.kind=1\/s.kind=2\/s.kind=6)(n:Int):(n∈rawD g s/\qv8 g n≠s) ↔ CanD g (qv8 g n) s:=by
 have e1:rawD g s=[]:=by rw[rawD,if_neg oM,if_neg oM,if_neg oM]
 have n1: ∀x y,¬Adj g s x y:=fun x y=>qxR oM oM
 rw[e1,qxT,Can2]
 simp only[n1,List.not_mem_nil,false_and,false_or,and_false,show ¬(s.kind=4\/s.kind=5)by omega,show ¬s.kind=3 by omega,show ¬s.kind=7 by omega,or_false]
end
theorem qxX {g : Grid} (d s : Spot) (hs : s.kind = 4 \/ s.kind = 5) (hsx : (0 <= s.x /\ s.x < g.w) /\ (0 <= s.y /\ s.y < g.h)) (hdx : (0 <= d.x /\ d.x < g.w) /\ (0 <= d.y /\ d.y < g.h)) (hd : d.kind = 4 \/ d.kind = 5) :
  Meet g d s ↔ qxJ g d s.x s.y\/(s.kind=4/\s.x+1<g.w/\qxJ g d (s.x+1) s.y)\/(s.kind=5/\s.y+1<g.h/\qxJ g d s.x (s.y+1)):=by
 obtain⟨k,x,y,i⟩:=d
 obtain⟨k',x',y',i'⟩:=s
 simp only[Meet,Adj,qxJ]at *
 rcases hs with rfl|rfl<;>rcases hd with rfl|rfl<;>simp only[show ¬(4:Int)=5 by decide,show ¬(5:Int)=4 by decide,or_false,false_or,true_or,or_true,true_and,false_and]<;>omega
section
variable {g:Grid} (hg:GOk g)
include hg
theorem qxY(s:Spot)(hs:DOk g s)(k:s.kind=4\/s.kind=5)(n:Int)(hn:Rng g n):(n∈rawD g s/\qv8 g n≠s) ↔ CanD g (qv8 g n) s:=by
 have hd:=(qxF hg hn).1
 obtain⟨sx,sy⟩:=hs.pos oM
 have hw:=hg.w
 have hh:=hg.h
 have e1:n∈rawD g s ↔ n∈qvM g s (endF g s [] s.x s.y):=by
  rw[rawD,if_neg oM,if_neg oM,if_pos k];rfl
 have hsk3: ¬s.kind=3:=by omega
 have hsk7: ¬s.kind=7:=by omega
 have hh0:0<g.h:=by omega
 let E:Int->Int->Prop:=fun x y=>((qv8 g n).kind=1/\(qv8 g n).x=x/\(qv8 g n).y=y)\/((qv8 g n).kind=2/\(qv8 g n).x=x/\(qv8 g n).y=y)\/((qv8 g n).i=s.i/\qxJ g (qv8 g n) x y)\/(x=0/\(qv8 g n).kind=6/\(qv8 g n).y=y)
 have e2:n∈qvM g s (endF g s [] s.x s.y) ↔ E s.x s.y\/(s.kind=4/\s.x+1<g.w/\E (s.x+1) s.y)\/(s.kind=5/\s.y+1<g.h/\E s.x (s.y+1)):=by
  have m1:n∈endF g s [] s.x s.y ↔ E s.x s.y:=by
   rw[qxQ hg _ _ _ _ _ sy]
   simp only[List.not_mem_nil,false_or,hn,true_and]
   rfl
  rw[qvM]
  split
  ·rename_i k4
   have h5: ¬s.kind=5:=by omega
   simp only[k4,show ¬(4:Int)=5 by decide,false_and,or_false,true_and]
   split
   ·rename_i hh2
    rw[qxQ hg _ _ _ _ _ sy,m1]
    exact or_congr_right ⟨fun h=>⟨hh2.1,h.2⟩,fun h=>⟨hn,h.2⟩⟩
   ·rename_i hh2
    rw[m1]
    exact⟨.inl,fun h=>h.elim _root_.id fun h=>absurd ⟨h.1,sy.2⟩ hh2⟩
  ·rename_i k4
   have h5:s.kind=5:=by omega
   simp only[h5,show ¬(5:Int)=4 by decide,false_and,false_or,true_and]
   split
   ·rename_i hh2
    rw[qxQ hg _ _ _ _ _ oM,m1]
    exact or_congr_right ⟨fun h=>⟨hh2.2,h.2⟩,fun h=>⟨hn,h.2⟩⟩
   ·rename_i hh2
    rw[m1]
    exact⟨.inl,fun h=>h.elim _root_.id fun h=>absurd ⟨sx.2,h.1⟩ hh2⟩
 rw[e1,e2,qxT,Can2]
 show((((qv8 g n).kind=1/\_/\_)\/_)\/_)/\_ ↔ _
 have dpos:=hd.pos
 have d6:=hd.k6
 have hmw:=qxX (g:=g) (qv8 g n) s k ⟨sx,sy⟩
 have dk:=hd.kind
 have dy:(qv8 g n).kind=6->0<=(qv8 g n).y/\(qv8 g n).y<g.h:=fun h=>by
  obtain⟨_,e,_⟩:=d6 h
  rw[e]
  exact⟨Int.emod_nonneg _ (fun e=>by rw[e]at hh0;exact absurd hh0 (by decide)),Int.emod_lt_of_pos _ hh0⟩
 simp only[E]
 clear e1 e2 E hs hd d6
 generalize qv8 g n=d at *
 have hne: ¬(d.kind=4\/d.kind=5)->d≠s:=fun h e=>by rw[e]at h;exact h k
 have hwn: ¬(d.kind=4\/d.kind=5)-> ∀x y,¬qxJ g d x y:=fun h x y hW=>h (hW.2.elim (fun z=> .inl z.1) fun z=> .inr z.1)
 by_cases k45:d.kind=4\/d.kind=5
 ·have m:=hmw (dpos (by rcases k45 with h|h<;>rw[h]<;>decide)) k45
  have a1: ¬d.kind=1:=fun e=>by rw[e]at k45;exact absurd k45 (by decide)
  have a2: ¬d.kind=2:=fun e=>by rw[e]at k45;exact absurd k45 (by decide)
  have a6: ¬d.kind=6:=fun e=>by rw[e]at k45;exact absurd k45 (by decide)
  simp only[a1,a2,a6,hsk3,hsk7,k45,k,m,false_and,and_false,or_false,false_or,true_and]
  constructor
  ·rintro⟨h|⟨b,c,h⟩|⟨b,c,h⟩,h2⟩
   ·exact⟨h2,h.1,.inl h.2⟩
   ·exact⟨h2,h.1,.inr (.inl ⟨b,c,h.2⟩)⟩
   ·exact⟨h2,h.1,.inr (.inr ⟨b,c,h.2⟩)⟩
  ·rintro⟨h2,h1,h|⟨b,c,h⟩|⟨b,c,h⟩⟩
   ·exact⟨.inl ⟨h1,h⟩,h2⟩
   ·exact⟨.inr (.inl ⟨b,c,h1,h⟩),h2⟩
   ·exact⟨.inr (.inr ⟨b,c,h1,h⟩),h2⟩
 ·have hn2:=hne k45
  have hw2:=hwn k45
  clear hne hwn hmw
  simp only[hw2,hn2,k45,hsk3,hsk7,and_false,false_and,or_false,false_or,ne_eq,not_false_eq_true,and_true]
  by_cases a1:d.kind=1
  ·have dp:=dpos (by rw[a1];decide)
   clear dpos dy hw2
   simp only[a1,true_and,show ¬(1:Int)=2 by decide,show ¬(1:Int)=6 by decide,false_and,and_false,or_false,Adj,k,true_and]
   omega
  by_cases a2:d.kind=2
  ·have dp:=dpos (by rw[a2];decide)
   clear dpos dy hw2
   simp only[a2,true_and,show ¬(2:Int)=1 by decide,show ¬(2:Int)=6 by decide,false_and,and_false,or_false,false_or,Adj,k,true_and]
   omega
  by_cases a6:d.kind=6
  ·have dp:=dy a6
   clear dpos dy hw2
   simp only[a6,true_and,show ¬(6:Int)=1 by decide,show ¬(6:Int)=2 by decide,false_and,and_false,or_false,false_or,and_true,Adj,k]
   omega
  ·simp only[a1,a2,a6,false_and,and_false,or_false]
theorem qxZ(s:Spot)(hs:DOk g s)(n:Int)(hn:Rng g n):(n∈rawD g s/\qv8 g n≠s) ↔ CanD g (qv8 g n) s:=by
 have h1:=hs.kind
 by_cases k3:s.kind=3
 ·exact qxU hg s hs k3 n hn
 by_cases k7:s.kind=7
 ·exact qxV hg s hs k7 n hn
 by_cases k4:s.kind=4\/s.kind=5
 ·exact qxY hg s hs k4 n hn
 ·exact qxW s oM n
theorem qy0(s:Spot)(hs:DOk g s)(n:Int)(h:n∈rawD g s):Rng g n:=by
 have hE: ∀(x y:Int) (l:List Int),(n∈l->Rng g n)->0<=y/\y<g.h->n∈endF g s l x y->Rng g n:=fun x y l hl hy hm=>by
  rw[qxQ hg _ _ _ _ _ hy]at hm
  exact hm.elim hl fun h=>h.1
 rw[rawD]at h
 split at h
 ·split at h
  ·rw[qxI hg,qxN hg]at h
   exact h.elim (fun h=>h.1) fun h=>h.1
  ·rw[qxN hg]at h
   exact h.1
 ·split at h
  ·rw[qxN hg]at h
   exact h.1
  ·split at h
   ·rename_i k
    obtain⟨sx,sy⟩:=hs.pos oM
    have h0:=hE s.x s.y [] (fun h=>by cases h) sy
    simp only[qvJ]at h
    split at h
    ·split at h
     ·exact hE _ _ _ h0 sy h
     ·exact h0 h
    ·split at h
     ·exact hE _ _ _ h0 oM h
     ·exact h0 h
   ·cases h
end
theorem qy1: ∀ {l1 l2:List Int},l1.Pairwise (· < ·)->l2.Pairwise (· < ·)->(∀x,x∈l1 ↔ x∈l2)->l1=l2
 |[],[],_,_,_=>rfl
 |[],y::r,_,_,h=>by have:=(h y).2 zX;cases this
 |x::r,[],_,_,h=>by have:=(h x).1 zX;cases this
 | x :: r, y :: s, h1, h2, h => by
   have e:x=y:=by
    have a:=(h x).1 zX
    have b:=(h y).2 zX
    rcases List.mem_cons.1 a with a|a
    ·exact a
    rcases List.mem_cons.1 b with b|b
    ·exact b.symm
    have c:=(List.pairwise_cons.1 h2).1 x a
    have d:=(List.pairwise_cons.1 h1).1 y b
    omega
   subst e
   rw[qy1 (List.pairwise_cons.1 h1).2 (List.pairwise_cons.1 h2).2 fun z=>⟨fun hz=> ?_,fun hz=> ?_⟩]
   ·have:=(h z).1 (zT _ hz)
    rcases List.mem_cons.1 this with e|e
    ·subst e
     have:=(List.pairwise_cons.1 h1).1 z hz
     omega
    ·exact e
   ·have:=(h z).2 (zT _ hz)
    rcases List.mem_cons.1 this with e|e
    ·subst e
     have:=(List.pairwise_cons.1 h2).1 z hz
     omega
    ·exact e
theorem qy2(g:Grid)(s:Spot): ∀k:Nat,(qwo g s k).Pairwise (· < ·)/\ ∀x,x∈qwo g s k ↔ (0<=x/\x<k)/\CanD g (qv8 g x) s
 |0=>⟨.nil,fun x=>by simp[qwo];omega⟩
 | k + 1 => by
   obtain⟨h1,h2⟩:=qy2 g s k
   have hm: ∀x,x∈qwo g s (k+1) ↔ (0<=x/\x<((k+1:Nat):Int))/\CanD g (qv8 g x) s:=fun x=>by
    rw[qwo,yC,h2 x]
    split
    ·rename_i hc
     rw[List.mem_singleton]
     constructor
     ·rintro(h|h)
      ·exact⟨oM,h.2⟩
      ·subst h;exact⟨oM,hc⟩
     ·rintro⟨h,h3⟩
      by_cases e:x=k
      ·exact .inr e
      ·exact .inl ⟨oM,h3⟩
    ·rename_i hc
     simp only[List.not_mem_nil,or_false]
     constructor
     ·exact fun h=>⟨oM,h.2⟩
     ·rintro⟨h,h3⟩
      by_cases e:x=k
      ·subst e;exact absurd h3 hc
      ·exact⟨oM,h3⟩
   refine⟨?_,hm⟩
   rw[qwo]
   split
   ·refine List.pairwise_append.2 ⟨h1,List.pairwise_singleton _ _,fun x hx y hy=> ?_⟩
    rw[List.mem_singleton]at hy
    have:=((h2 x).1 hx).1
    omega
   ·simpa using h1
theorem qy3{g:Grid}(hg:GOk g)(n:Int):qwb g n=rdrF g n:=by
 have hc:=hg.count
 rw[rdrF]
 split
 ·rename_i h
  have hr:=qxH h
  have he:=qxG hr
  refine qy1 (qxr g n) (qy2 g _ _).1 fun x=> ?_
  rw[qxs,(qy2 g _ _).2 x,he]
  simp only[true_and]
  obtain⟨hd,hN⟩:=qxF hg hr
  constructor
  ·rintro⟨h1,h2⟩
   have hx:=qy0 hg _ hd x h1
   refine⟨by unfold Rng at hx;omega,(qxZ hg _ hd x hx).1 ⟨h1,fun e=>h2 ?_⟩⟩
   rw[<- (qxF hg hx).2,e,hN]
  ·rintro⟨h1,h2⟩
   have hx:Rng g x:=by unfold Rng;omega
   have:=(qxZ hg _ hd x hx).2 h2
   exact⟨this.1,fun e=>this.2 (by rw[e])⟩
 ·rename_i h
  rw[qwb,if_neg h]
end Go.Proofs.YtecoaapkcnhlhaaGreatDoor
