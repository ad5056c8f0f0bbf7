/- I J K L M N VcZp TxtE VcZq O P Q DA S R DB DC DD TxtG T U TxtI V W: lemmas -/
import Derived.Test.YtecoaapkcnhlhaaDoorPart09
import Derived.Recover
import Derived.Test.YtecoaapkcnhlhaaDoorPart06
import Derived.Test.YtecoaapkcnhlhaaDoorChecked
set_option linter.unusedSimpArgs false
set_option linter.unusedVariables false
open Nat (reduceEqDiff reduceAdd reduceSub reduceMul reduceLT reduceLeDiff)
open Int (reduceToNat reduceNeg)
namespace Go.Proofs.YtecoaapkcnhlhaaDoor
open Go Go.Vc Txt
def fidx(p:Int->Bool)(l:List Int):Int:=match l.findIdx? p with|some k=>k|none=> -1
theorem qvO{p:Int->Bool}{l:List Int}(h: ∀x∈l,p x=false):fidx p l= -1:=by
 unfold fidx
 rw[List.findIdx?_eq_none_iff.2 h]
theorem qvP{p:Int->Bool}{l:List Int}{k:Nat}(hk:k<l.length)(h: ∀x∈l.take k,p x=false)(hp:p l[k]=true):fidx p l=k:=by
 unfold fidx
 rw[List.findIdx?_eq_some_iff_getElem.2 ⟨hk,hp,fun j hj=>by
  have:l[j]∈l.take k:=List.mem_take_iff_getElem.2 ⟨j,by omega,rfl⟩
  simp[h _ this]⟩]
theorem qvR (l : List Int) (p : Int -> Bool) (f : Nat) (caps : List PV) (hf : qcG Tryd.prog f = true) (hp : ∀ x ∈ l, FnEq Tryd.prog f (.int x :: caps) (.bool (p x))) (hl : (l.length : Int) <= 4611686018427387904) :
  FnEq Tryd.prog 90 [.sl false 1 (ints l),.pcl f caps] (.int (fidx p l)):=by
 refine FnEq.of_awp Tryd.func90 ok90 (by show 2<=_;decide) (by simp only[push_cast,reduceIte,reduceEqDiff,reduceAdd,reduceSub,reduceMul,Nat.reduceBEq,reduceLT,reduceLeDiff,reduceCtorEq,reduceToNat,reduceNeg,cNI]<;>first|exact fun _ _=>trivial|simp) ?_
 simp only[ac90,rv90,push_cast,reduceIte,reduceEqDiff,reduceAdd,reduceSub,reduceMul,Nat.reduceBEq,reduceLT,reduceLeDiff,reduceCtorEq,reduceToNat,reduceNeg,cNI]
 refine qoL (fun m st=> ∃k:Nat,k<=l.length/\m=l.length-k/\(∀x∈l.take k,p x=false)/\st=⟨[(0,.sl false 1 (ints l)),(1,.pcl f caps),(7,.int l.length),(8,.int k)],[],[],[]⟩) l.length ?_ ?_
 ·refine⟨0,by omega,by omega,by simp,?_⟩
  exact sC
 ·rintro m st ⟨k,hk,rfl,hn,rfl⟩
  refine sB ?_
  refine qnU (fun h=>⟨by omega,by omega,?_⟩) fun h=> ?_
  ·have hk' :k<l.length:=by omega
   have hg:l.getD k default=l[k]:=by simp[hk']
   rw[hg]
   refine qsO hf (hp _ (List.getElem_mem hk')) sC ?_
   refine sB ?_
   refine qnT (fun e=> ?_) fun e=>⟨by omega,_,?_,k+1,by omega,rfl,?_,?_⟩
   ·rw[qvP hk' hn e]
   ·omega
   ·intro x hx
    rw[List.take_succ_eq_append_getElem hk',List.mem_append,List.mem_singleton]at hx
    rcases hx with hx|rfl
    ·exact hn x hx
    ·exact e
   ·simp
  ·rw[List.take_of_length_le (by omega)]at hn;rw[qvO hn]
theorem qvS(x b:Int):FnEq Tryd.prog 83 [.int x,.iptr false [.int b] 0] (.bool (decide (x=b))):=by
 refine FnEq.of_awp Tryd.func83 ok83 (by show 2<=_;decide) (by simp only[push_cast,reduceIte,reduceEqDiff,reduceAdd,reduceSub,reduceMul,Nat.reduceBEq,reduceLT,reduceLeDiff,reduceCtorEq,reduceToNat,reduceNeg,cNI]<;>first|exact fun _ _=>trivial|simp) ?_
 simp only[ac83,rv83,push_cast,reduceIte,reduceEqDiff,reduceAdd,reduceSub,reduceMul,Nat.reduceBEq,reduceLT,reduceLeDiff,reduceCtorEq,reduceToNat,reduceNeg,cNI]
theorem qvT (x b : Int) {z : List (Nat × PV)} {bx : List (Nat × List PV)} {ar : List (Nat × Arr)} (hb : lk bx 103 = some [.int b]) :
  FnM (Env.of Tryd.prog) 83 [.int x,.ptr 103 0] ⟨z,bx,ar,[]⟩ (fun r st' =>r= .bool (decide (x=b))/\st' =⟨z,bx,ar,[]⟩):=by
 refine FnM.of_ok (by kernel_rfl) (args:=[.int x,.ptr 103 0]) (post:=fun r=>r= .bool (decide (x=b))) ?_ fun r hr=>⟨hr,rfl⟩
 have e:[PV.int x,.ptr 103 0].map (PV.rsA ⟨z,bx,ar,[]⟩)=[.int x,.iptr false [.int b] 0]:=by
  simp only[List.map_cons,List.map_nil,PV.rsA,PV.rs1,hb]
  rfl
 rw[e]
 exact qvS x b
theorem qvU{l:List Int}{b:Int}{k:Nat}(h:k<l.length):(l.take (k+1)).filter (fun x=>decide (x≠b))=(l.take k).filter (fun x=>decide (x≠b))++if l.getD k default=b then[]else[l.getD k default]:=by
 have e:l.getD k default=l[k]:=by simp[h]
 rw[List.take_succ_eq_append_getElem h,List.filter_append,e]
 by_cases h2:l[k]=b<;>simp[h2]
def cl(ws:List Int)(i n:Nat):List Int:=ws.take i++List.replicate (n-i) 0++ws.drop (i+(n-i))
theorem qvV{ws:List Int}{i n:Nat}(h1:i<=n)(h2:n<=ws.length):(cl ws i n).length=ws.length:=by simp[cl];omega
theorem qvW{ws:List Int}{i n:Nat}(h:i<=ws.length):(cl ws i n).take i=ws.take i:=by
 rw[cl,List.append_assoc,List.take_append_of_le_length (by simp;omega),List.take_take,Nat.min_self]
theorem qvX(ws:List Int)(i n:Nat):cpyF (ints ws) i (rows intC (List.replicate (n-i) 0))=ints (cl ws i n):=by
 show cpyF (ints ws) i (ints (List.replicate (n-i) 0))=_
 simp only[cpyF,cl,quA,List.map_append,List.map_take,List.map_drop,List.map_replicate,List.length_replicate]
def delF(l:List Int)(b:Int):List Int:=l.filter fun x=>decide (x≠b)
set_option maxHeartbeats 2000000 in
theorem qvY (g : Grid) (s : Spot) (zs : List Int) (n : Nat) (hn : n <= zs.length) (hl : (zs.length : Int) <= 1000000) (b : Int) (u : PV) :
  FnM (Env.of Tryd.prog) 82 [.view 434 0 n,.clo 83 [103]]
   ⟨[(0,.ptr 2 0),(1,.ptr 5 0),(2,.ptr 7 0),(3,.ptr 18 0),(4,.ptr 103 0)],[(2,quQ false g),(5,quR s),(7,[.ptr 18 0]),(18,[.int g.w,.int g.h,.int g.tracks,.int g.pads,.sl false 1 (ints g.kind),.view 434 0 n]),(103,[.int b])],[(434,⟨1,3,ints zs⟩)],[]⟩
   (fun r st' => ∃ys:List Int,r= .view 434 0 (delF (zs.take n) b).length/\ys.length=zs.length/\ys.take (delF (zs.take n) b).length=delF (zs.take n) b/\
    st' =⟨[(0,.ptr 2 0),(1,.ptr 5 0),(2,.ptr 7 0),(3,.ptr 18 0),(4,.ptr 103 0)],[(2,quQ false g),(5,quR s),(7,[.ptr 18 0]),(18,[.int g.w,.int g.h,.int g.tracks,.int g.pads,.sl false 1 (ints g.kind),.view 434 0 n]),(103,[.int b])],[(434,⟨1,3,ints ys⟩)],[]⟩):=by
 refine qub 150 Tryd.func82 ok82_150 (by show 2<=_;decide) rfl (by show 0<=150;decide) ?_
 simp only[ac82_150,rv82_150,push_cast,reduceIte,reduceEqDiff,reduceAdd,reduceSub,reduceMul,Nat.reduceBEq,reduceLT,reduceLeDiff,reduceCtorEq,reduceToNat,reduceNeg,cNI]
 have hz:(zs.take n).length=n:=by simp;omega
 have hI:=qvR (zs.take n) (fun x=>decide (x=b)) 83 [.iptr false [.int b] 0] (by kernel_rfl) (fun x _=>qvS x b) (by omega)
 by_cases hex: ∃x∈zs.take n,x=b
 ·obtain ⟨k, hk, hkb, hkt⟩ : ∃ k : Nat, k < n /\ zs.getD k default = b /\ ∀ x ∈ zs.take k, x ≠ b := by
   obtain⟨x,hx,rfl⟩:=hex
   obtain⟨t,ht,e⟩:=List.mem_iff_getElem.1 hx
   rw[hz]at ht
   rw[List.getElem_take]at e
   have htl:t<zs.length:=by omega
   have hp: ∃y∈zs,decide (y=x)=true:=⟨x,List.mem_of_mem_take hx,by simp⟩
   have hlt:zs.findIdx (fun y=>decide (y=x))<zs.length:=List.findIdx_lt_length_of_exists hp
   have hle:zs.findIdx (fun y=>decide (y=x))<=t:=Nat.le_of_not_lt fun h=>by
    have:=List.not_of_lt_findIdx h
    simp[e]at this
   refine⟨zs.findIdx (fun y=>decide (y=x)),by omega,?_,fun y hy he=> ?_⟩
   ·have:=List.findIdx_getElem (w:=hlt)
    simp at this
    simp[List.getD_eq_getElem?_getD,hlt,this]
   ·obtain⟨q,hq,e2⟩:=List.mem_iff_getElem.1 hy
    rw[List.length_take]at hq
    rw[List.getElem_take]at e2
    have:=List.not_of_lt_findIdx (p:=fun y=>decide (y=x)) (xs:=zs) (i:=q) (by omega)
    simp[e2,he]at this
  have hi:fidx (fun x=>decide (x=b)) (zs.take n)=k:=by
   have hkz:k<zs.length:=by omega
   refine qvP (by omega) (fun x hx=>decide_eq_false (hkt x ?_)) ?_
   ·rw[List.take_take]at hx
    rwa [show min k n=k from by omega]at hx
   ·rw[List.getElem_take]
    have:zs[k]=b:=by rw[<- hkb];simp[List.getD_eq_getElem?_getD,hkz]
    simp[this]
  rw[hi]at hI
  refine qrr hI sC ?_
  refine sB ?_
  refine⟨by omega,?_⟩
  refine qoL (fun m st=> ∃(i j:Nat) (ws:List Int),j<=n/\m=n-j/\i<j/\ws.length=zs.length/\i=(delF (zs.take j) b).length/\ws.take i=delF (zs.take j) b/\(∀t:Nat,j<=t->ws.getD t default=zs.getD t default)/\
   st=⟨[(0,.ptr 2 0),(1,.ptr 5 0),(2,.ptr 7 0),(3,.ptr 18 0),(4,.ptr 103 0),(150,.view 434 0 n),(151,.clo 83 [103]),(155,.int i),(156,.int j)],[(2,quQ false g),(5,quR s),(7,[.ptr 18 0]),(18,[.int g.w,.int g.h,.int g.tracks,.int g.pads,.sl false 1 (ints g.kind),.view 434 0 n]),(103,[.int b])],[(434,⟨1,3,ints ws⟩)],[]⟩) (n-(k+1)) ?_ ?_
  ·have hd : delF (zs.take (k + 1)) b = zs.take k := by
    rw[delF,qvU (by omega),if_pos hkb,List.append_nil]
    exact List.filter_eq_self.2 fun x hx=>decide_eq_true (hkt x hx)
   refine⟨k,k+1,zs,by omega,rfl,by omega,rfl,by rw[hd];simp;omega,by rw[hd],fun t _=>rfl,?_⟩
   exact sC
  ·rintro m st ⟨i,j,ws,hj,rfl,hij,hwl,hil,hwt,hwd,rfl⟩
   refine sB ?_
   refine qnU (fun h=> ?_) fun h=> ?_
   ·have hj' :j<zs.length:=by omega
    refine⟨by omega,by omega,?_⟩
    have hfs:=qvU (l:=zs) (b:=b) hj'
    rw[hwd j (Nat.le_refl _)]
    refine qsL (FnM.mono (qvT (zs.getD j default) b rfl) fun r st' hq=>hq) ?_
    refine sB ?_
    refine qnT (fun h2=> ?_) fun h2=> ?_
    ·have h2:zs.getD j default≠b:=by simpa using h2
     have hd:delF (zs.take (j+1)) b=delF (zs.take j) b++[zs.getD j default]:=by
      rw[delF,delF,hfs,if_neg h2]
     refine⟨by omega,by omega,by omega,by omega,_,?_,i+1,j+1,ws.set i (zs.getD j default),by omega,rfl,by omega,by simpa using hwl,?_,?_,fun t ht=> ?_,?_⟩
     ·omega
     ·rw[hd,List.length_append,<- hil];rfl
     ·rw[hd,<- hwt,List.take_succ_eq_append_getElem (by simp;omega),List.take_set_of_le (Nat.le_refl _)]
      simp
     ·rw[List.getD_eq_getElem?_getD,List.getElem?_set_ne (by omega),<- List.getD_eq_getElem?_getD]
      exact hwd t (by omega)
     ·simp
    ·have h2:zs.getD j default=b:=by simpa using h2
     have hd:delF (zs.take (j+1)) b=delF (zs.take j) b:=by
      rw[delF,delF,hfs,if_pos h2,List.append_nil]
     refine⟨by omega,_,?_,i,j+1,ws,by omega,rfl,by omega,hwl,by rw[hd];exact hil,by rw[hd];exact hwt,fun t ht=>hwd t (by omega),?_⟩
     ·omega
     ·simp
   ·have hjn:j=n:=by omega
    subst hjn
    refine⟨by omega,by omega,rfl,cl ws i j,?_,?_,?_,?_⟩
    ·rw[Nat.sub_zero,hil]
    ·rw[qvV (by omega) (by omega),hwl]
    ·rw[<- hil,qvW (by omega),hwt]
    ·rw[qvX]
 ·have hne: ∀x∈zs.take n,x≠b:=fun x hx e=>hex ⟨x,hx,e⟩
  have hi:fidx (fun x=>decide (x=b)) (zs.take n)= -1:=qvO fun x hx=>decide_eq_false (hne x hx)
  have hd:delF (zs.take n) b=zs.take n:=List.filter_eq_self.2 fun x hx=>decide_eq_true (hne x hx)
  rw[hi]at hI
  refine qrr hI sC ?_
  refine sB ?_
  rw[hd]
  refine⟨rfl,zs,by rw[hz],rfl,by rw[hz],rfl⟩
theorem qvZ (b : Int) {z : List (Nat × PV)} (hz : z = [(0, .ptr 2 0), (1, .ptr 5 0), (2, .ptr 7 0), (3, .ptr 18 0), (4, .ptr 103 0)]) {bx : List (Nat × List PV)} (hb : lk bx 103 = some [.int b]) :
  FnM (Env.of Tryd.prog) 82 [.nil,.clo 83 [103]] ⟨z,bx,[],[]⟩ (fun r st' =>r= .nil/\st' =⟨z,bx,[],[]⟩):=by
 subst hz
 refine qub 150 Tryd.func82 ok82_150 (by show 2<=_;decide) rfl (by show 0<=150;decide) ?_
 simp only[hb,ac82_150,rv82_150,push_cast,reduceIte,reduceEqDiff,reduceAdd,reduceSub,reduceMul,Nat.reduceBEq,reduceLT,reduceLeDiff,reduceCtorEq,reduceToNat,reduceNeg,cNI]
 have hI:=qvR [] (fun x=>decide (x=b)) 83 [.iptr false [.int b] 0] (by kernel_rfl) (fun x _=>qvS x b) (by simp)
 rw[show fidx (fun x=>decide (x=b)) []= -1 from rfl]at hI
 refine qrr hI ⟨.nil _ _,.refl _,trivial⟩ ?_
 exact sC
theorem qw0 {id ty n : Nat} {zs : List Int} (hn : n = zs.length) {s : List (Nat × PV)} {b : List (Nat × List PV)} {a : List (Nat × Arr)} {m : List (Nat × Mp)} (hA : lk a id = some ⟨1, ty, ints zs⟩) (hl : zs.length < 4611686018427387904) :
  FnM (Env.of Tryd.prog) 80 [.view id 0 n] ⟨s,b,a,m⟩ fun r st' =>r= .tup []/\st' =⟨s,b,up a id ⟨1,ty,ints (qvK zs)⟩,m⟩:=by subst hn;exact qvL hA hl
theorem qw1 {id ty n : Nat} {zs : List Int} (hn : n = zs.length) {s : List (Nat × PV)} {b : List (Nat × List PV)} {a : List (Nat × Arr)} {m : List (Nat × Mp)} (hA : lk a id = some ⟨1, ty, ints zs⟩) (hl : zs.length <= 9223372036854775807) :
  FnM (Env.of Tryd.prog) 81 [.view id 0 n] ⟨s,b,a,m⟩ fun r st' =>r= .view id 0 (Go.Lib.compact zs).length/\st' =⟨s,b,up a id ⟨1,ty,ints (Go.Lib.compact zs++List.replicate (zs.length-(Go.Lib.compact zs).length) 0)⟩,m⟩:=by
 subst hn;exact qvN hA hl
def qw2(l:List Int)(b:Int):List Int:=delF (Go.Lib.compact (qvK l)) b
def SRes(l:List Int)(b:Int)(r:PV)(a:List (Nat×Arr)):Prop:=
 (r= .nil/\qw2 l b=[]/\a=[])\/ ∃ys:List Int,r= .view 434 0 (qw2 l b).length/\ys.take (qw2 l b).length=qw2 l b/\a=[(434,⟨1,3,ints ys⟩)]
theorem qw3 (g : Grid) (s : Spot) (l : List Int) (hl : (l.length : Int) <= 1000000) (b : Int) :
  FnM (Env.of Tryd.prog) 66 [.ptr 18 0,.int b] (stX P4 g s l []) (fun r st' => ∃b' a',st' =⟨P4,b',a',[]⟩/\SRes l b r a'):=by
 by_cases hn:l=[]
 ·subst hn
  rw[qvo,qvE]
  refine qub 100 Tryd.func66 ok66_100 (by show 2<=_;decide) rfl (by show 0<=100;decide) ?_
  simp only[ac66_100,rv66_100,push_cast,reduceIte,reduceEqDiff,reduceAdd,reduceSub,reduceMul,Nat.reduceBEq,reduceLT,reduceLeDiff,reduceCtorEq,reduceToNat,reduceNeg,cNI]
  refine qsL qvI ?_
  refine sB ?_
  refine qsL qvJ ?_
  refine sB ?_
  refine qsK (Q:=fun r st' =>r= .nil/\ ∃b',st' =⟨[(0,.ptr 2 0),(1,.ptr 5 0),(2,.ptr 7 0),(3,.ptr 18 0)],b',[],[]⟩) (FnM.frame [(0,.ptr 2 0),(1,.ptr 5 0),(2,.ptr 7 0),(3,.ptr 18 0),(4,.ptr 103 0)] [(0,.ptr 2 0),(1,.ptr 5 0),(2,.ptr 7 0),(3,.ptr 18 0)] rfl rfl sC (FnM.mono (qvZ b rfl rfl) fun r st' hq=> ?_)) ?_
  ·exact⟨_,_,_,hq.2,hq.1,_,rfl⟩
  ·rintro r st' ⟨rfl,b',rfl⟩
   refine sB ?_
   exact⟨_,_,rfl,.inl ⟨rfl,by simp[qw2,qvK,Go.Lib.compact,Go.Lib.compactUpTo,delF],rfl⟩⟩
 ·rw[qvo,qvE,qvj hn,qvk hn]
  refine qub 100 Tryd.func66 ok66_100 (by show 2<=_;decide) rfl (by show 0<=100;decide) ?_
  simp only[ac66_100,rv66_100,push_cast,reduceIte,reduceEqDiff,reduceAdd,reduceSub,reduceMul,Nat.reduceBEq,reduceLT,reduceLeDiff,reduceCtorEq,reduceToNat,reduceNeg,cNI]
  refine qsL (qw0 rfl rfl (by omega)) ?_
  refine sB ?_
  refine qsL (qw1 (by rw[qvK,List.length_mergeSort]) rfl (by rw[qvK,List.length_mergeSort];omega)) ?_
  refine sB ?_
  have hlc:=qvM (qvK l)
  have hls:(qvK l).length=l.length:=by rw[qvK,List.length_mergeSort]
  have hdel:=qvY g s (Go.Lib.compact (qvK l)++List.replicate ((qvK l).length-(Go.Lib.compact (qvK l)).length) 0) (Go.Lib.compact (qvK l)).length (by simp) (by simp;omega) b .bot
  rw[List.take_left' rfl]at hdel
  refine qsK (Q:=fun r st' => ∃ys:List Int,r= .view 434 0 (qw2 l b).length/\ys.take (qw2 l b).length=qw2 l b/\st' =⟨[(0,.ptr 2 0),(1,.ptr 5 0),(2,.ptr 7 0),(3,.ptr 18 0)],[(2,quQ false g),(5,quR s),(7,[.ptr 18 0]),(18,[.int g.w,.int g.h,.int g.tracks,.int g.pads,.sl false 1 (ints g.kind),.view 434 0 (Go.Lib.compact (qvK l)).length]),(103,[.int b])],[(434,⟨1,3,ints ys⟩)],[]⟩)
   (FnM.frame [(0,.ptr 2 0),(1,.ptr 5 0),(2,.ptr 7 0),(3,.ptr 18 0),(4,.ptr 103 0)] [(0,.ptr 2 0),(1,.ptr 5 0),(2,.ptr 7 0),(3,.ptr 18 0)] rfl rfl sC (FnM.mono hdel fun r st' hq=> ?_)) ?_
  ·obtain⟨ys,q1,q2,q3,q4⟩:=hq
   exact⟨_,_,_,q4,ys,q1,q3,rfl⟩
  ·rintro r st' ⟨ys,rfl,q2,rfl⟩
   refine sB ?_
   exact⟨rfl,_,_,rfl,.inr ⟨ys,rfl,q2,rfl⟩⟩
def rawD(g:Grid)(s:Spot):List Int:=
 if s.kind=3 then(if s.i=3 then addF g (allF g [] s.x s.y) ⟨1,s.x,s.y-1,0⟩else allF g [] s.x s.y)
 else if s.kind=7 then allF g [] (g.w-1) s.y
 else if s.kind=4\/s.kind=5 then qvC g s []
 else[]
def qw4(g:Grid)(n:Int):List Int:=if(qv2 g n).2=0 then qw2 (rawD g (qv2 g n).1) n else[]
theorem qw5{g:Grid}(hg:GOk g){n:Int}(h: ¬(n<0\/quV g<=n)):SOk (qv1 g n)/\(0<=(qv1 g n).i/\(qv1 g n).i<=1000)/\((qv1 g n).kind<=5->(0<=(qv1 g n).x/\(qv1 g n).x<g.w)/\(0<=(qv1 g n).y/\(qv1 g n).y<g.h)/\(qv1 g n).i<=64)/\(0<=(qv1 g n).y/\(qv1 g n).y<g.h):=by
 have h1:=hg.all
 have h2:=hg.each
 have h4:=hg.pads
 have hw:=hg.w
 have hh:=hg.h
 have ht:=hg.tracks
 have hc:quV g=allI g+2*g.pads:=rfl
 have e4:quU g=6+2*g.tracks:=rfl
 have e2:=Int.emod_nonneg n (show quU g≠0 by omega)
 have e3:=Int.emod_lt_of_pos n (show 0<quU g by omega)
 unfold qv1
 split
 ·have:=Int.emod_nonneg (n-allI g-g.pads) (show g.h≠0 by omega)
  have:=Int.emod_lt_of_pos (n-allI g-g.pads) (show 0<g.h by omega)
  exact⟨⟨by simp only;omega,by simp only;omega,by simp only;omega⟩,by simp only;omega,fun h=>absurd h (by simp only;omega),by simp only;omega⟩
 ·split
  ·have:=Int.emod_nonneg (n-allI g) (show g.h≠0 by omega)
   have:=Int.emod_lt_of_pos (n-allI g) (show 0<g.h by omega)
   exact⟨⟨by simp only;omega,by simp only;omega,by simp only;omega⟩,by simp only;omega,fun h=>absurd h (by simp only;omega),by simp only;omega⟩
  ·have x1:=Int.emod_nonneg (n/quU g) (show g.w≠0 by omega)
   have x2:=Int.emod_lt_of_pos (n/quU g) (show 0<g.w by omega)
   have y0:0<=n/quU g:=Int.ediv_nonneg (by omega) (by omega)
   have y1:0<=n/quU g/g.w:=Int.ediv_nonneg y0 (by omega)
   have y2:n/quU g/g.w<g.h:=by
    rw[Int.ediv_lt_iff_lt_mul (by omega),Int.ediv_lt_iff_lt_mul (by omega),Int.mul_comm g.h g.w]
    show n<allI g
    omega
   simp only
   generalize n/quU g/g.w=Y at y1 y2 ⊢
   generalize n/quU g%g.w=X at x1 x2 ⊢
   generalize n%quU g=I at e2 e3 ⊢
   split
   ·exact⟨⟨by simp only;omega,by simp only;omega,by simp only;omega⟩,by simp only;omega,fun _=>by simp only;omega,by simp only;omega⟩
   ·split
    ·exact⟨⟨by simp only;omega,by simp only;omega,by simp only;omega⟩,by simp only;omega,fun _=>by simp only;omega,by simp only;omega⟩
    ·split
     ·exact⟨⟨by simp only;omega,by simp only;omega,by simp only;omega⟩,by simp only;omega,fun _=>by simp only;omega,by simp only;omega⟩
     ·split<;>exact⟨⟨by simp only;omega,by simp only;omega,by simp only;omega⟩,by simp only;omega,fun _=>by simp only;omega,by simp only;omega⟩
theorem qw6 {f : Nat} {args : List PV} {z : List (Nat × PV)} (t : List (Nat × PV)) {g : Grid} {s : Spot} {l l' : List Int} {xs : List (Nat × List PV)} (hz : frT z P4 t) (h : FnM (Env.of Tryd.prog) f args (stX P4 g s l xs) (fun r st' => r = .tup [] /\ st' = stX P4 g s l' xs)) :
  FnM (Env.of Tryd.prog) f args (stX z g s l xs) (fun r st' =>r= .tup []/\st' =stX t g s l' xs):=
 FnM.frame P4 t rfl rfl hz (FnM.mono h fun r st' hq=>by
  obtain⟨rfl,rfl⟩:=hq
  exact⟨_,_,_,rfl,rfl,rfl⟩)
theorem qw7 (g : Grid) (s : Spot) (l : List Int) (hl : (l.length : Int) <= 1000000) (n : Int) (st : St) (hst : st.keepS [0, 58, 1, 7] = stX [(1, .int n), (7, .ptr 7 0)] g s l []) (Q : PV -> Prop)
  (hq: ∀v,Sub v (.sl true 1 (ints (qw2 l n)))->Q v):awp (Env.of Tryd.prog) ac41_r15 (retK [RV.tmp 4] Q) st:=by
 simp only[ac41_r15,push_cast,reduceIte,reduceEqDiff,reduceAdd,reduceSub,reduceMul,Nat.reduceBEq,reduceLT,reduceLeDiff,reduceCtorEq,reduceToNat,reduceNeg,cNI,hst,qvo]
 refine qsK (Q:=fun r st' => ∃b' a',st' =⟨[(1,.int n),(7,.ptr 7 0)],b',a',[]⟩/\SRes l n r a')
  (FnM.frame P4 [(1,.int n),(7,.ptr 7 0)] rfl rfl sC (FnM.mono (qw3 g s l hl n) fun r st' hq=> ?_)) ?_
 ·obtain⟨b',a',rfl,h⟩:=hq
  exact⟨b',a',[],rfl,b',a',rfl,h⟩
 ·rintro r st' ⟨b',a',rfl,⟨rfl,h2,rfl⟩|⟨ys,rfl,h2,rfl⟩⟩
  ·refine sB ?_
   exact hq _ (by rw[h2];exact .nil true 1)
  ·refine sB ?_
   exact⟨fun _ _=>trivial,hq _ (by rw[h2];exact .refl _)⟩
theorem qw8(g:Grid)(hg:GOk g)(n:Int)(hn: -1000000000<=n/\n<=1000000000):FnEq Tryd.prog 41 [.agg (quQ false g),.int n] (.sl true 1 (ints (qw4 g n))):=by
 refine FnEq.of_awp Tryd.func41 ok41 (by show 2<=_;decide) (by simp only[push_cast,reduceIte,reduceEqDiff,reduceAdd,reduceSub,reduceMul,Nat.reduceBEq,reduceLT,reduceLeDiff,reduceCtorEq,reduceToNat,reduceNeg,cNI]<;>first|exact fun _ _=>trivial|simp) ?_
 simp only[ac41,rv41,push_cast,reduceIte,reduceEqDiff,reduceAdd,reduceSub,reduceMul,Nat.reduceBEq,reduceLT,reduceLeDiff,reduceCtorEq,reduceToNat,reduceNeg,cNI]
 have hD:=qv4 g hg n hn
 by_cases hE:n<0\/quV g<=n
 ·have e:qv2 g n=(⟨0,0,0,0⟩,1):=by rw[qv2,if_pos hE]
  have e2:qw4 g n=[]:=by rw[qw4,e];rfl
  rw[e]at hD
  refine qrr hD sC ?_
  simp only[qv3,push_cast,reduceIte,reduceEqDiff,reduceAdd,reduceSub,reduceMul,Nat.reduceBEq,reduceLT,reduceLeDiff,reduceCtorEq,reduceToNat,reduceNeg,cNI]
  refine qnU (fun _=> ?_) fun h=>absurd (by decide) h
  exact e2
 have e:qv2 g n=(qv1 g n,0):=by rw[qv2,if_neg hE]
 obtain⟨r1,r2,r3,r4⟩:=qw5 hg hE
 have e2:qw4 g n=qw2 (rawD g (qv1 g n)) n:=by rw[qw4,e];rfl
 rw[e]at hD
 refine qrr hD sC ?_
 simp only[qv3,push_cast,reduceIte,reduceEqDiff,reduceAdd,reduceSub,reduceMul,Nat.reduceBEq,reduceLT,reduceLeDiff,reduceCtorEq,reduceToNat,reduceNeg,cNI]
 rw[e2]
 generalize qv1 g n=s at r1 r2 r3 r4 ⊢
 have hw:=hg.w
 have hh:=hg.h
 have ht:=hg.tracks
 have hal: ∀x y,(allF g [] x y).length<=256:=fun x y=>by
  have:=qvt g x y [] g.tracks.toNat
  rw[allF]
  simp only[List.length_nil]at this
  omega
 refine qnU (fun h=>absurd rfl h) fun _=> ?_
 refine qnU (fun k3=> ?_) fun k3=> ?_
 ·obtain⟨⟨x1,x2⟩,⟨y1,y2⟩,i1⟩:=r3 (by omega)
  refine qsL (qvx [(1,.int n),(5,.ptr 5 0),(7,.ptr 7 0)] ?_ (qvu g hg s [] (by simp) s.x s.y (by omega))) ?_
  ·exact sC
  simp only[qvo,push_cast,reduceIte,reduceEqDiff,reduceAdd,reduceSub,reduceMul,Nat.reduceBEq,reduceLT,reduceLeDiff,reduceCtorEq,reduceToNat,reduceNeg,cNI]
  refine qnU (fun k4=> ?_) fun k4=> ?_
  ·refine⟨by omega,?_⟩
   refine qsL (qvx [(1,.int n),(7,.ptr 7 0)] ?_ (qvm g hg s (allF g [] s.x s.y) (by have:=hal s.x s.y;omega) [] (fun i=>rfl) ⟨1,s.x,s.y-1,0⟩ ⟨by show -1<=s.x/\s.x<=65;omega,by show -1<=s.y-1/\s.y-1<=65;omega,by show(-1:Int)<=0/\(0:Int)<=2000;omega⟩)) ?_
   ·exact sC
   simp only[qvo,push_cast,reduceIte,reduceEqDiff,reduceAdd,reduceSub,reduceMul,Nat.reduceBEq,reduceLT,reduceLeDiff,reduceCtorEq,reduceToNat,reduceNeg,cNI]
   have hr:rawD g s=addF g (allF g [] s.x s.y) ⟨1,s.x,s.y-1,0⟩:=by rw[rawD,if_pos k3,if_pos k4]
   rw[<- hr]
   refine qw7 g s (rawD g s) (by rw[hr];have:=qvl g (allF g [] s.x s.y) ⟨1,s.x,s.y-1,0⟩;have:=hal s.x s.y;omega) n _ (by simp only[qvo,push_cast,reduceIte,reduceEqDiff,reduceAdd,reduceSub,reduceMul,Nat.reduceBEq,reduceLT,reduceLeDiff,reduceCtorEq,reduceToNat,reduceNeg,cNI]) _ fun v hv=>hv
  ·have hr:rawD g s=allF g [] s.x s.y:=by rw[rawD,if_pos k3,if_neg k4]
   rw[<- hr]
   refine qw7 g s (rawD g s) (by rw[hr];have:=hal s.x s.y;omega) n _ (by simp only[qvo,push_cast,reduceIte,reduceEqDiff,reduceAdd,reduceSub,reduceMul,Nat.reduceBEq,reduceLT,reduceLeDiff,reduceCtorEq,reduceToNat,reduceNeg,cNI]) _ fun v hv=>hv
 refine qnU (fun k7=> ?_) fun k7=> ?_
 ·refine⟨by omega,?_⟩
  refine qsL (qvx [(1,.int n),(7,.ptr 7 0)] ?_ (qvu g hg s [] (by simp) (g.w-1) s.y (by omega))) ?_
  ·exact sC
  simp only[qvo,push_cast,reduceIte,reduceEqDiff,reduceAdd,reduceSub,reduceMul,Nat.reduceBEq,reduceLT,reduceLeDiff,reduceCtorEq,reduceToNat,reduceNeg,cNI]
  have hr:rawD g s=allF g [] (g.w-1) s.y:=by rw[rawD,if_neg k3,if_pos k7]
  rw[<- hr]
  refine qw7 g s (rawD g s) (by rw[hr];have:=hal (g.w-1) s.y;omega) n _ (by simp only[qvo,push_cast,reduceIte,reduceEqDiff,reduceAdd,reduceSub,reduceMul,Nat.reduceBEq,reduceLT,reduceLeDiff,reduceCtorEq,reduceToNat,reduceNeg,cNI]) _ fun v hv=>hv
 have key:(s.kind=4\/s.kind=5)->FnM (Env.of Tryd.prog) 63 [.agg (quQ false g),.agg (quR s),.clo 64 [7,5,2]] (stX P4 g s [] []) (fun r st' =>r= .tup []/\st' =stX P4 g s (qvC g s []) []):=fun h=>by
  obtain⟨⟨x1,x2⟩,⟨y1,y2⟩,i1⟩:=r3 (by omega)
  exact qvG g hg s r1 (by omega) ⟨⟨x1,x2⟩,y1,y2⟩ [] (by simp)
 have hle:((qvC g s []).length:Int)<=1000000:=by
  have h1:=qvy g hg s [] s.x s.y
  have h2:=fun x y=>qvy g hg s (endF g s [] s.x s.y) x y
  simp only[List.length_nil]at h1
  have e:qvC g s []=qvF g s (endF g s [] s.x s.y):=rfl
  rw[e,qvF]
  split<;>split<;>first|omega|(have:=h2 (s.x+1) s.y;omega)|(have:=h2 s.x (s.y+1);omega)
 refine qnU (fun k4=>qnU (fun _=> ?_) fun h=>absurd k4 h) fun k4=> ?_
 ·skip
  refine qsL (qw6 [(1,.int n),(7,.ptr 7 0)] ?_ (key (.inl k4))) ?_
  ·exact sC
  simp only[qvo,push_cast,reduceIte,reduceEqDiff,reduceAdd,reduceSub,reduceMul,Nat.reduceBEq,reduceLT,reduceLeDiff,reduceCtorEq,reduceToNat,reduceNeg,cNI]
  have hr:rawD g s=qvC g s []:=by rw[rawD,if_neg k3,if_neg k7,if_pos (.inl k4)]
  rw[<- hr]
  refine qw7 g s (rawD g s) (by rw[hr];exact hle) n _ (by simp only[qvo,push_cast,reduceIte,reduceEqDiff,reduceAdd,reduceSub,reduceMul,Nat.reduceBEq,reduceLT,reduceLeDiff,reduceCtorEq,reduceToNat,reduceNeg,cNI]) _ fun v hv=>hv
 refine qnU (fun k5=> ?_) fun k5=> ?_
 ·skip
  refine qsL (qw6 [(1,.int n),(7,.ptr 7 0)] ?_ (key (.inr k5))) ?_
  ·exact sC
  simp only[qvo,push_cast,reduceIte,reduceEqDiff,reduceAdd,reduceSub,reduceMul,Nat.reduceBEq,reduceLT,reduceLeDiff,reduceCtorEq,reduceToNat,reduceNeg,cNI]
  have hr:rawD g s=qvC g s []:=by rw[rawD,if_neg k3,if_neg k7,if_pos (.inr k5)]
  rw[<- hr]
  refine qw7 g s (rawD g s) (by rw[hr];exact hle) n _ (by simp only[qvo,push_cast,reduceIte,reduceEqDiff,reduceAdd,reduceSub,reduceMul,Nat.reduceBEq,reduceLT,reduceLeDiff,reduceCtorEq,reduceToNat,reduceNeg,cNI]) _ fun v hv=>hv
 ·have hr:rawD g s=[]:=by rw[rawD,if_neg k3,if_neg k7,if_neg (fun h=>h.elim k4 k5)]
  rw[hr]
  refine qw7 g s [] (by simp) n _ (by simp only[qvo,lv,la,push_cast,reduceIte,reduceEqDiff,reduceAdd,reduceSub,reduceMul,Nat.reduceBEq,reduceLT,reduceLeDiff,reduceCtorEq,reduceToNat,reduceNeg,cNI]) _ fun v hv=>hv
def Adj(g:Grid)(w:Spot)(x y:Int):Prop:=
 ¬(x<0\/g.w<=x\/y<0\/g.h<=y)/\(((w.kind=4\/w.kind=5)/\w.x=x/\w.y=y)\/(w.kind=4/\w.x+1=x/\w.y=y)\/(w.kind=5/\w.x=x/\w.y+1=y))
instance (g:Grid) (w:Spot) (x y:Int):Decidable (Adj g w x y):=by unfold Adj;infer_instance
def Meet(g:Grid)(a b:Spot):Prop:=Adj g b a.x a.y\/(a.kind=4/\Adj g b (a.x+1) a.y)\/(a.kind=5/\Adj g b a.x (a.y+1))
instance (g:Grid) (a b:Spot):Decidable (Meet g a b):=by unfold Meet;infer_instance
def CanD(g:Grid)(a b:Spot):Prop:=
 if a.kind=1 then Adj g b a.x a.y\/(b.kind=3/\b.i=3/\b.x=a.x/\b.y=a.y+1)
 else if a.kind=2 then Adj g b a.x a.y
 else if a.kind=6 then Adj g b 0 a.y
 else if a.kind=4\/a.kind=5 then
  (if b.kind=4\/b.kind=5 then a≠b/\a.i=b.i/\Meet g a b else(b.kind=3/\Adj g a b.x b.y)\/(b.kind=7/\Adj g a (g.w-1) b.y))
 else False
instance (g:Grid) (a b:Spot):Decidable (CanD g a b):=by unfold CanD;infer_instance
def qwe(p:Spot×Int):List PV:=[.int p.1.kind,.int p.1.x,.int p.1.y,.int p.1.i,.int p.2]
@[push_cast] theorem qwf(p:Spot×Int):qwe p=[.int p.1.kind,.int p.1.x,.int p.1.y,.int p.1.i,.int p.2]:=rfl
def qwh(g:Grid)(s:Spot):Nat->List Int
 |0=>[]
 |k+1=>qwh g s k++if CanD g (qv1 g k) s then[(k:Int)]else[]
def rdrF(g:Grid)(n:Int):List Int:=if(qv2 g n).2=0 then qwh g (qv2 g n).1 (quV g).toNat else[]
end Go.Proofs.YtecoaapkcnhlhaaDoor
namespace Go.Vc
open Go Go.RowKit
section
variable {P:Env} {st:St} {K K' :St->Prop}
theorem qwk(hk: ∀s,K s->K' s): ∀(l:List AO) (st:St),opsK P l st K->opsK P l st K'
 |[],st,h=>hk st h
 |_::r,st,h=>qfE (qfD fun s hs=>qwk hk r s hs) (qwk hk r _) h
theorem qwl(hk: ∀s,K s->K' s): ∀(l:List DO) (st:St),dsK P l st K->dsK P l st K'
 |[],st,h=>hk st h
 | x :: r, st, h => by
   have hr:=fun s hs=>qwl hk r s hs
   unfold dsK at h ⊢
   unfold dopG at h ⊢
   split
   ·rename_i hs
    rw[if_pos hs]at h
    refine⟨h.1,qfE (fun hd=> ?_) (hr _) h.2⟩
    unfold dopK at hd ⊢
    split
    ·rename_i hop
     rw[hop]at hd
     obtain⟨post,a,b,c⟩:=hd
     exact⟨post,a,b,fun r hr' =>⟨(c r hr').1,hr _ (c r hr').2⟩⟩
    ·rename_i hop
     rw[hop]at hd
     simp only at hd ⊢
     split at hd
     ·obtain⟨h0,post,a,b,c⟩:=hd
      exact⟨h0,post,a,b,fun q hq=>⟨(c q hq).1,hr _ (c q hq).2⟩⟩
     ·exact hd.elim
    ·rename_i hop hop3
     have hd:qcK st x.t x.u x.o.op/\opK P x.o st (fun st' =>qcM x st' /\dsK P r st' K):=by
      split at hd
      ·rename_i hop2;exact absurd hop2 (hop _ _)
      ·rename_i hop2;exact absurd hop2 (hop3 _ _)
      ·exact hd
     exact⟨hd.1,qfD (fun s hs=>⟨hs.1,hr s hs.2⟩) hd.2⟩
   ·rename_i hs
    rw[if_neg hs]at h
    exact qfE (qfD hr) (hr _) h
theorem qwm{ops:List XO}(hk: ∀s,K s->K' s): ∀(n:Nat) (dn:List Nat) (st:St),allK P ops n dn st K->allK P ops n dn st K'
 |0,_,st,h=>⟨h.1,hk st h.2⟩
 |n+1,dn,st,h=>⟨fun e=>hk st (h.1 e),fun x hx hr=>qfE (qfD fun s hs=>qwm hk n _ s hs) (qwm hk n _ _) (h.2 x hx hr)⟩
theorem Exit.thn_mono{next:St->Prop}{Q Q' :Exit->St->Prop}(hq: ∀e st,Q e st->Q' e st): ∀e st,Exit.thn next Q e st->Exit.thn next Q' e st:=fun e st h=>by
 cases e<;>first|exact h|exact hq _ _ h
theorem Exit.thn_mono2{next next' :St->Prop}{Q Q' :Exit->St->Prop}(hn: ∀st,next st->next' st)(hq: ∀e st,Q e st->Q' e st): ∀e st,Exit.thn next Q e st->Exit.thn next' Q' e st:=fun e st h=>by
 cases e<;>first|exact hn _ h|exact hq _ _ h
theorem Exit.inB_mono{i:Nat}{Q Q' :Exit->St->Prop}(hq: ∀e st,Q e st->Q' e st): ∀e st,Exit.inB i Q e st->Exit.inB i Q' e st:=fun e st h=>by
 cases e<;>first|exact hq _ _ h|skip
 simp only[Exit.inB]at h ⊢
 split<;>rename_i hi
 ·rw[if_pos hi]at h;exact hq _ _ h
 ·rw[if_neg hi]at h;exact hq _ _ h
theorem qwn: ∀(ac:AC) {Q Q' :Exit->St->Prop},(∀e st,Q e st->Q' e st)-> ∀st,awp P ac Q st->awp P ac Q' st:=by
 intro ac
 induction ac with
 |skip=>exact fun hq st h=>hq _ _ h
 |label=>exact fun hq st h=>hq _ _ h
 |ret=>exact fun hq st h=>hq _ _ h
 |exit i=>exact fun hq st h=>hq _ _ h
 |reg keep ops=>exact fun hq st h=>qwk (hq _) ops _ h
 |rgs segs=>
   intro Q Q' hq st h
   have key: ∀(r:List (List Nat×List AO)) (st:St),segK P r st (Q .normal)->segK P r st (Q' .normal):=by
    intro r
    induction r with
    |nil=>exact fun st h=>hq _ _ h
    |cons x r ih=>exact fun st h=>qwk (fun s hs=>ih s hs) x.2 _ h
   exact key segs st h
 |drw keep ops=>exact fun hq st h=>qwl (hq _) ops _ h
 |dra keep ops=>exact fun hq st h=>qwm (hq _) _ _ _ h
 |seq a b iha ihb=>exact fun hq st h=>iha (Exit.thn_mono2 (fun s=>ihb hq s) hq) st h
 |cond c x y ihx ihy=>
   intro Q Q' hq st h
   simp only[awp,qcN]at h ⊢
   split at h
   ·exact⟨fun e=>ihx hq st (h.1 e),fun e=>ihy hq st (h.2 e)⟩
   ·exact h.elim
 |block i b ih=>exact fun hq st h=>ih (Exit.inB_mono hq) st h
 |lps ks b ih=>exact fun hq st ⟨I,n0,h0,hr⟩=>⟨I,n0,h0,fun n st' hi=>ih (Exit.thn_mono hq) st' (hr n st' hi)⟩
 |loop ks b ih=>exact fun hq st ⟨I,n0,h0,hr⟩=>⟨I,n0,h0,fun n st' hi=>ih (Exit.thn_mono hq) st' (hr n st' hi)⟩
 |frz ts c ih=>exact fun hq st h=>ih hq _ h
 |obs t c ih=>
   refine fun hq st h=> ?_
   replace h:obsK st t (fun st' =>awp P c _ st'):=h
   show obsK st t (fun st' =>awp P c _ st')
   unfold obsK at h ⊢
   split at h
   ·split at h
    ·exact fun l c' hl=>ih hq _ (h l c' hl)
    ·exact h.elim
   ·exact h.elim
 |cut ks c ih=>exact fun hq st h=>ih hq _ h
 |scope c ih=>exact fun hq st h=>ih hq _ h
 |wk c ih=>exact fun hq st ⟨s0,h1,h2⟩=>⟨s0,h1,ih hq _ h2⟩
 |rngf ρ ps ass body iha ihb=>
   intro Q Q' hq st h
   refine⟨h.1,?_⟩
   have h2:=h.2
   unfold rngK at h2 ⊢
   split at h2
   ·exact⟨h2.1,FnM.mono h2.2 fun _ _ hh=>hq _ _ hh⟩
   ·exact h2.elim
end
section
variable {w0:World} {Z0:Zone} {N:Fr} {Z:Zone} {L:Lay} {st:St} {a:Act} {w:World} {P:Program}
theorem qwo {F : Fence} {n : Nat} {fn : Func} {tmps : Array Value} {R : Ending -> World -> Prop} {ds : List Deferred} {u : FrameMode} (hu : u ≠ .run) : ∀ (l : List Nat) (w : World), l.Nodup -> (∀ D ∈ l, w.heap[D]? = some (.deferred (some []))) ->
  LeavesInM F n P fn tmps R ds u (qh0 w l)->LeavesInM F n P fn tmps R (l.map mark++ds) u w
 |[],_,_,_,h=>h
 | D :: l, w, hn, hd, h => by
   rw[List.nodup_cons]at hn
   refine⟨hu,.inl ⟨D,_,rfl,run_takeDeferred (hd D (by simp)),qwo hu l _ hn.2 (fun D' hD' => ?_) h⟩⟩
   have hne:D' ≠D:=fun e=>hn.1 (by rw[<- e];exact hD')
   rw[World.putObj_heap_other hne]
   exact hd D' (List.mem_cons_of_mem _ hD')
theorem Inv.noDm(h:Inv w0 Z0 N Z L st a w):Inv w0 Z0 { N with dm:=none } Z L st a w:=⟨h.zt,h.z0,h.zn,h.zb,h.below,h.ownb,h.owna,h.injb,h.inja,h.injx,h.boxes,h.arrs,h.ownm,h.injm,h.maps,h.oth,h.yb,h.size,fun _ e=>(by cases e),h.slots⟩
theorem Inv.leave2 (h : Inv w0 Z0 N Z L st a w) {x : Bool × List Deferred} (hdm : N.dm = some x) {F : Fence} {n : Nat} {fn : Func} {R : Ending -> World -> Prop} {u : FrameMode} (hu : u ≠ .run)
  (hR: ∀w',Inv w0 Z0 { N with dm:=none } Z L st a w' ->LeavesInM F n P fn a.tmps R x.2 u w'):LeavesInM F n P fn a.tmps R a.defers u w:=by
 obtain⟨l,h1,h2,h3⟩:=h.defers x hdm
 rw[h1.1]
 exact qwo hu l w h2.1 (fun D hD=>(h3 D hD).1) (hR _ (Inv.shut rfl l h.noDm h2 h3))
def xQ(E:Env)(Q:Exit->St->Prop):Exit->St->Prop
 | .panic ch,st=>E.pan ch st
 |e,st=>Q e st
theorem qwp(K:Nat){X:Gh}{G:Nat->Value}{n:Nat}{dm:Option (Bool×List Deferred)}(hI:Inv w0 Z0 ⟨n,K,G,X,dm⟩ Z L st a w):Mem w0 Z0 X G Z L (st.low K) w:=by
 have hT:=hI.low K
 refine⟨hT.zt,hT.z0,hT.zn,hT.zb,hT.below,hT.ownb,hT.owna,hT.injb,hT.inja,hT.injx,hT.boxes,hT.arrs,hT.ownm,hT.injm,hT.maps,hT.oth,hT.yb,rfl,fun _ e=>(by cases e),fun i v hi=> ?_⟩
 have h8:=hT.slots i v hi
 have h9:=(qgN hi).2
 unfold Fr.val at h8 ⊢
 rw[if_neg (by simp only;omega)]at h8
 rw[if_neg (by simp)]
 exact h8
theorem qwq (K : Nat) {X : Gh} {G : Nat -> Value} {args : List PV} {vs : Array Value} {m : Nat} (hm : Mem w0 Z0 X G Z L st w) (ha : ArgsR w Z L args vs) (hn : args.length <= m) (hlow : st.s.all (fun x => decide (x.1 < K)) = true) {ex : Bool} :
  Inv w0 Z0 ⟨m,K,G,X,some (ex,[])⟩ Z L { st with s:=argS K args st.s } { tmps:=vs++Array.replicate (m-vs.size) undef,defers:=[] } w:=by
 have hsize:(vs++Array.replicate (m-vs.size) undef).size=m:=by have:=ha.1;simp;omega
 refine⟨hm.zt,hm.z0,hm.zn,hm.zb,hm.below,hm.ownb,hm.owna,hm.injb,hm.inja,hm.injx,hm.boxes,hm.arrs,hm.ownm,hm.injm,hm.maps,hm.oth,hm.yb,hsize,fun dd e=>⟨[],⟨by cases e;rfl,fun _=>rfl⟩,⟨.nil,fun D hD=>by cases hD⟩,fun D hD=>by cases hD⟩,fun i v hl=> ?_⟩
 rw[qh2]at hl
 unfold Fr.val
 split at hl
 ·rename_i hin
  rw[if_pos ⟨hin.1,by simp only;omega⟩]
  have:=ha.2 _ v hl
  have hlt:i-K<vs.size:=by rw[ha.1];exact(List.getElem?_eq_some_iff.1 hl).1
  have e:(vs++Array.replicate (m-vs.size) undef).getD (i-K) undef=vs.getD (i-K) undef:=by
   simp only[Array.getD_eq_getD_getElem?,Array.getElem?_append_left hlt]
  simp only at e ⊢
  rw[e];exact this
 ·have hi:i<K:=by
   have:=List.all_eq_true.1 hlow _ (qa7 hl)
   simpa using this
  rw[if_neg (by simp only;omega)]
  have:=hm.slots i v hl
  have e:(⟨0,0,G,X,none⟩:Fr).val ⟨#[],[]⟩ i=G i:=by simp[Fr.val]
  rwa [e]at this
theorem FnX.of_awp {E : Env} {f : Nat} {fn : Func} {ac : AC} {rvs : List RV} {args : List PV} {Q : PV -> St -> Prop} (K : Nat) (hf : E.p.funcs[f]? = some fn) (hok : qh3 E.p K ac rvs fn = true) (hn : args.length <= fn.ntmps)
  (hlow:st.s.all (fun x=>decide (x.1<K))=true) (hkk:E.kk<=K) (hpl: ∀ch st,E.pan ch st->E.pan ch (st.low K)) (h:awp E ac (retM K rvs Q) { st with s:=argS K args st.s }):FnX E f args st Q:=by
 simp only[qh3,Bool.and_eq_true]at hok
 obtain⟨⟨hb,hr⟩,hname⟩:=hok
 split at hb
 ·rename_i c hc
  refine⟨by simp[qcG,hf,hc];simpa using hname,fun w0 Z0 X G Z L w vs hE hm ha=> ?_⟩
  have hinit:=qwq K hm ha hn hlow (ex:=false)
  have h' :=qwn (Q' :=xQ E (retM K rvs Q)) ac (fun e st hh=>by cases e<;>first|exact hh|(simp[retM,qgR]at hh)) _ h
  refine callsIn_wide (n:=0)|>.1 (callsIn_of_wp_marks hf hc trivial ?_)
  refine wpIn_mono (qgP (P:=E) (w0:=w0) (Z0:=Z0) ac (N:=⟨fn.ntmps,K,G,X,some (false,[])⟩) (ro:=none) (n:=0) hE hkk c (xQ E (retM K rvs Q)) _ _ w (.inr ⟨rfl,fun dd e=>by cases e;rfl⟩) (fun l st hh=>by simp[xQ,retM,qgR]at hh) (fun ch st hh=>hh) hb h' ⟨_,_,hinit⟩) ?_
  rintro e a' w' ⟨st',hq,Z',L',hI⟩
  have hend: ∀e,retM K rvs Q e st' ->LeavesInM Fence.wide 0 E.p fn a'.tmps (fun e w' =>(∃v r st' Z' L',e= .returned v/\Q r st' /\Mem w0 Z0 X G Z' L' st' w' /\VR w' Z' L' r v)\/(∃ch st' Z' L',e= .panicked ch/\E.pan ch st' /\Mem w0 Z0 X G Z' L' st' w')) a'.defers .returning w' :=by
   rintro e ⟨he,h1,hfl,h3⟩
   have hnt' : ∀cs ds,(resM st' rvs).2= .tup cs-> .tup ds∉cs:=fun cs ds e hm=>by rw[e]at hfl;have:=List.all_eq_true.1 hfl _ hm;simp[qgS]at this
   refine hI.leave2 rfl (by simp) fun w2 hI3=> ?_
   obtain⟨v,hrun,hvr⟩:=qh4 hI3 hr h1 hnt'
   exact⟨v,hrun,.inl ⟨v,_,st'.low K,Z',L',rfl,h3,qwp K hI3,hvr⟩⟩
  cases e<;>first|exact hend _ hq|(simp[xQ,retM,qgR]at hq;done)|skip
  rename_i ch
  have hq:E.pan ch st' :=hq
  show LeavesInM _ _ _ _ _ _ _ _ _
  exact hI.leave2 rfl (by simp) fun w2 hI3=> .inr ⟨ch,st'.low K,Z',L',rfl,hpl ch st' hq,qwp K hI3⟩
 ·cases hb
theorem qwr {n f : Nat} {fn : Func} {c : Code} {args : Array Value} {u : FrameMode} {R : Ending -> FrameMode -> World -> Prop}
  (hf:P.funcs[f]? =some fn) (hb:fn.body=some c)
  (h: ∀(c₀:Frame) (cs:List Frame),c₀.mode=u->c.wpS P (bodyPostS P fn c₀ cs R) { tmps:=args++Array.replicate (fn.ntmps-args.size) undef,defers:=[] } (c₀::cs) w):
  CallsDIn Fence.wide n P f args u w R:=by
 refine⟨trivial,fun c₀ cs hu _=> ?_⟩
 let b:Frame:= { (default:Frame)with fn:=f,kind:= .deferred }
 have henter : Frame.enter P f args .deferred =
   b.at { tmps:=args++Array.replicate (fn.ntmps-args.size) undef,defers:=[] } [.code c]:=by
  simp[Frame.enter,Frame.at,hf,hb,b]
 obtain⟨e,a',cs',w',hq,harr⟩:=h c₀ cs hu b [] rfl rfl
 rw[<- henter]at harr
 cases e with
 |normal=>
   obtain⟨hd,u',rfl,v,hr,hR⟩:=hq
   exact⟨.returned v,u',w',_,hR,comesIn_wide.2 (Steps.trans harr (.one step_end)),rfl,rfl,rfl,hd,fn,hf,hr⟩
 |ret=>
   obtain⟨hd,u',rfl,v,hr,hR⟩:=hq
   obtain⟨todo,hs⟩:=harr
   exact⟨.returned v,u',w',_,hR,comesIn_wide.2 hs,rfl,rfl,rfl,hd,fn,hf,hr⟩
 |panic chain=>
   obtain⟨hd,u',rfl,hR⟩:=hq
   obtain⟨todo,hs⟩:=harr
   exact⟨.panicked chain,u',w',_,hR,comesIn_wide.2 hs,rfl,rfl,rfl,hd,fn,hf⟩
 |exit id=>exact hq.elim
 |goto l=>exact hq.elim
 |outgrown=>
   obtain⟨u',hR⟩:=hq
   exact⟨.outgrown,u',w',b,hR,comesIn_wide.2 (harr.resolve_left (by simp[b])),rfl,rfl,trivial⟩
def capV(L:Lay)(ids:List Nat):Array Value:=(ids.map fun i=>Value.pointer (some ⟨L.bx i,0,none⟩)).toArray
def FnD(P:Program)(g:Nat)(ids:List Nat)(u u' :FrameMode)(st:St)(Q:St->Prop):Prop:=
 ∀(w0:World) (Z0:Zone) (X:Gh) (G:Nat->Value) (Z:Zone) (L:Lay) (w:World),GL P w0->Mem w0 Z0 X G Z L st w->
  CallsDIn Fence.wide 0 P g (capV L ids) u w fun e u1 w' =>(∃v,e= .returned v)/\u1=u' /\ ∃st' Z' L',Q st' /\Mem w0 Z0 X G Z' L' st' w'
def rcvd:FrameMode->Value->FrameMode->Prop
 | .returning,v,u' =>v= .nilIface/\u' = .returning
 | .panicking [⟨x,false,false⟩],v,u' =>v=x/\u' = .panicking [⟨x,true,false⟩]
 |_,_,_=>False
def qws(P:Program)(K:Nat)(ac:AC)(d:Nat)(fn:Func):Bool:=
 (match fn.body with
 | some (.seq (.region _ os false) c) => (match os.toList with
   |[o]=>o.guard.isNone&&o.dst==some d&&(match o.op with| .call c=>(match c.callee with| .builtin .recover=>true|_=>false)&&c.args.isEmpty|_=>false)
   |_=>false)&&qdl ac&&chk P ⟨K,fn.ntmps⟩ ac c
 |_=>false)&&qgQ P ⟨K,fn.ntmps⟩ [] fn.results.toList&&decide (d<fn.ntmps)
theorem FnD.of_awp {g : Nat} {fn : Func} {ac : AC} {d : Nat} {ids : List Nat} {u u' : FrameMode} {v : Value} {Q : St -> Prop} (K : Nat) (hf : P.funcs[g]? = some fn) (hok : qws P K ac d fn = true) (hn : ids.length <= fn.ntmps)
  (hlow:st.s.all (fun x=>decide (x.1<K))=true) (hr:rcvd u v u') (hv:scOk v=true)
  (h:awp (Env.of P) ac (fun e st' =>qgR e=true/\Q (st'.low K)) { st with s:=up (argS K (ids.map fun i=> .ptr i 0) st.s) (K+d) (.sc v) }):FnD P g ids u u' st Q:=by
 intro w0 Z0 X G Z L w hgl hm
 simp only[qws,Bool.and_eq_true,decide_eq_true_eq]at hok
 obtain⟨⟨hb,hres⟩,hd⟩:=hok
 split at hb
 ·rename_i id os c hc
  simp only[Bool.and_eq_true]at hb
  obtain⟨⟨ho,hnr⟩,hck⟩:=hb
  split at ho
  ·rename_i o hos
   simp only[Bool.and_eq_true,beq_iff_eq,Option.isNone_iff_eq_none]at ho
   obtain⟨⟨hgd,hdst⟩,hop⟩:=ho
   have hos' :os= #[o]:=by
    have:os=os.toList.toArray:=by simp
    rw[this,hos]
   subst hos'
   have ha:ArgsR w Z L (ids.map fun i=>PV.ptr i 0) (capV L ids):=qgd ids
   have hinit:=qwq K hm ha (by simpa using hn) hlow (ex:=true)
   have hput:=hinit.put (d:=some (K+d)) (d' :=some d) ⟨rfl,hd⟩ (v:= .sc v) (u:=v) (TR.sc v hv)
   have hexec: ∀ρ:Operand->Value,(execOp ρ o).run P w= .ok .recover w:=fun ρ=>by
    split at hop
    ·rename_i cl hcl
     simp only[Bool.and_eq_true]at hop
     obtain⟨h1,h2⟩:=hop
     split at h1
     ·rename_i hcal
      simp[execOp,hcl,resolve,hcal,invoke,builtin]
     ·cases h1
    ·cases hop
   refine qwr hf hc fun c₀ cs hu=>wpS_seq (wpS_region ?_)
   have hw: ∀y,Region.wanted o y=true:=fun y=>by simp[Region.wanted,hgd]
   obtain⟨cs',hcs',hgo⟩: ∃cs',(∃u1,u1=u' /\cs' = { c₀ with mode:=u1 } ::cs)/\((recoverD (c₀::cs)=some (v,cs'))\/(recoverD (c₀::cs)=none/\v= .nilIface/\cs' =c₀::cs)):=by
    subst hu
    unfold rcvd at hr
    split at hr
    ·rename_i hmode
     obtain⟨rfl,rfl⟩:=hr
     refine⟨c₀::cs,⟨_,rfl,by rw[<- hmode]⟩,.inr ⟨by simp[recoverD,hmode],rfl,rfl⟩⟩
    ·rename_i x hmode
     obtain⟨rfl,rfl⟩:=hr
     refine⟨_,⟨_,rfl,rfl⟩,.inl (by simp[recoverD,hmode])⟩
    ·exact hr.elim
   have key : c.wpS P (bodyPostS P fn c₀ cs fun e u1 w' => (∃ v, e = .returned v) /\ u1 = u' /\ ∃ st' Z' L', Q st' /\ Mem w0 Z0 X G Z' L' st' w')
     (({ tmps:=capV L ids++Array.replicate (fn.ntmps-(capV L ids).size) undef,defers:=[] } :Act).put (some d) v) cs' w:=by
    refine wpS_of_wp (wpIn_wide (n:=0)|>.1 ?_)
    refine wpIn_mono (qgP (P:=Env.of P) (w0:=w0) (Z0:=Z0) ac (N:=⟨fn.ntmps,K,G,X,some (true,[])⟩) (ro:=none) (n:=0) (EnvOK.of P _ _ _ _ hgl) (Nat.zero_le _) c _ _ _ w (.inl hnr) (fun l st hh=>by simp[qgR]at hh) (fun ch st hh=>hh.elim) hck h ⟨_,_,hput⟩) ?_
    rintro e a' w' ⟨st',⟨he,hQ⟩,Z',L',hI⟩
    obtain⟨l,⟨hl,hex⟩,_⟩:=hI.defers _ rfl
    have hl0:=hex rfl
    subst hl0
    obtain⟨v',hrun,_⟩:=qh4 hI (rvs:=[]) hres (by intro r hr;cases hr) (by intro cs ds e hm;cases e;cases hm)
    obtain⟨u1,rfl,rfl⟩:=hcs'
    have fin:a'.defers=[]/\ ∃u',(({ c₀ with mode:=u1 } ::cs:List Frame)= { c₀ with mode:=u' } ::cs)/\ ∃v,(results fn a'.tmps).run P w' = .ok v w' /\((∃v',Ending.returned v= .returned v')/\u' =u1/\ ∃st' Z' L',Q st' /\Mem w0 Z0 X G Z' L' st' w'):=
     ⟨hl,u1,rfl,v',hrun,⟨_,rfl⟩,rfl,st'.low K,Z',L',hQ,qwp K hI⟩
    cases e<;>first|exact fin|(simp[qgR]at he)
   show wpOpsS P #[o] _ [0] _ _ _
   simp only[wpOpsS,List.getElem?_toArray,List.getElem?_cons_zero,hw,if_true,hexec]
   rcases hgo with hgo|⟨hgo,rfl,rfl⟩
   ·simp only[hgo,hdst]
    exact key
   ·simp only[hgo,hdst]
    exact key
  ·cases ho
 ·cases hb
end
end Go.Vc
namespace Go.Proofs.YtecoaapkcnhlhaaDoor.Txt
open Go Go.Vc
set_option maxRecDepth 100000
def ac35_50:AC:=
 (.seq (.reg [50,26,50] [
 (aO 51 (.box (.t 50))),(aO 52 (.mv (.c (.nil))))])
 (.seq (.reg [50,26,51] [
 (aO 57 (.ld true 5 (.t 51))),(aO 58 (.cal 56 [(.t 57)])),(aO 53 (.alc [.nil,.nil,.nil,.nil])),(aN (.sto 4 (.t 53) (.t 58)))])
 (.seq (.reg [50,26,51,53] [
 (aO 59 (.fa 0 (.t 51))),(aO 60 (.ld false 1 (.t 59))),(aO 61 (.ari .add true .i64 (.t 60) (kI 1))),(aO 62 (.mks 1 3 8 [zI] (.t 61) (.t 61))),(aO 54 (.alc [.nil])),(aN (.sto 1 (.t 54) (.t 62)))])
 (.seq (.seq (.reg [50,26,51,53,54] [
 (aO 63 (.ld true 5 (.t 51))),(aO 64 (.clm 53 [(.t 63),(.t 53)]))])
 (.block 0
 (.rngf ⟨(.t 64),50,26,1000,[50,26,54,64],999⟩ [1015,1016]
 (.seq (.reg [1000,26,1004,1015,1016] [
 (aO 1005 (.mv (.t 1015)))])
 (.reg [1000,26,1004,1005,1016] [
 (aO 1006 (.alc [.sc (.pointer none),zI])),(aN (.sto 2 (.t 1006) (.t 1016)))]))
 (.block 1
 (.drw [1000,26,1004,1005,1006] [
 (eT 1017 (.ld false 1 (.t 1004))),(eT 1018 (.mv (.t 1005))),(eT 1019 (.ixs 1 (.t 1017) (.t 1018))),(eT 1020 (.ld false 1 (.t 1019))),(eT 1021 (.fa 1 (.t 1006))),(eT 1022 (.ld false 1 (.t 1021))),(eF 1023 (.ari .add true .i64 (.t 1020) (.t 1022))),(eF 1024 (.ixs 1 (.t 1017) (.t 1018))),⟨(aN (.sto 1 (.t 1024) (.t 1023))),[],[],false⟩])))))
 (.seq (.reg [50,26,54] [
 (aO 75 (.ld false 1 (.t 54))),(aO 52 (.mv (.t 75)))])
 .ret)))))
def rv35_50:List RV:=[.tmp 52]
theorem ok35_50:qh3 Tryd.prog 50 ac35_50 rv35_50 Tryd.f35=true:=by kernel_rfl

def ac15:AC:=
 (.seq (.reg [0,24,0] [
 (aO 1 (.box (.t 0))),(aO 2 (.mv (.c (.nil))))])
 (.seq (.reg [0,24,1] [
 (aO 5 (.ld true 5 (.t 1))),(aO 6 (.clm 35 [(.t 5)])),(aO 3 (.mv (.t 6)))])
 (.seq (.seq (.reg [0,24,3] [
 (aO 7 (.mv (.t 3))),(aO 8 (.len (.t 7))),(aO 9 (.mv (kI 0)))])
 (.block 0
 (.loop [0,24,3,8,9]
 (.seq (.reg [0,24,3,8,9] [
 (aO 10 (.cmp .lss .i64 (.t 9) (.t 8)))])
 (.seq (.cond (.t 10)
 .skip
 (.exit 0))
 (.seq (.block 1
 (.seq (.reg [0,24,3,8,9] [
 (aO 11 (.mv (.t 9))),(aO 4 (.mv (.t 11)))])
 (.reg [0,24,3,4,8,9] [
 (aO 12 (.mv (.t 3))),(aO 13 (.mv (.t 4))),(aO 14 (.mv (.t 3))),(aO 15 (.mv (.t 4))),(aO 16 (.ixs 1 (.t 14) (.t 15))),(aO 17 (.ld false 1 (.t 16))),(aO 18 (.ari .add true .i64 (.t 17) (kI 57))),(aO 19 (.ari .sub true .i64 (.t 18) (kI 1))),(aO 20 (.dvd .quo true .i64 (.t 19) (kI 57))),(aO 21 (.ixs 1 (.t 12) (.t 13))),(aN (.sto 1 (.t 21) (.t 20)))])))
 (.reg [0,24,3,8,9] [
 (aO 22 (.ari .add true .i64 (.t 9) (kI 1))),(aO 9 (.mv (.t 22)))])))))))
 (.seq (.reg [0,24,3] [
 (aO 23 (.mv (.t 3))),(aO 2 (.mv (.t 23)))])
 .ret))))
def rv15:List RV:=[.tmp 2]
theorem ok15:fnOk Tryd.prog ac15 rv15 Tryd.f15=true:=by kernel_rfl
end Go.Proofs.YtecoaapkcnhlhaaDoor.Txt
namespace Go.Vc
open Go Go.RowKit
section
variable (P:Env) (r:List AO) (st:St) (K:St->Prop) (d:Option Nat)
def mxO:Option Int->Option PV
 |some m=>some (.sc (.int .i64 m))
 |none=>none
@[push_cast] theorem qwt(m:Int):mxO (some m)=some (.sc (.int .i64 m)):=rfl
def pfV(P:Env)(d:Option Nat)(r:List AO)(st:St)(K:St->Prop):Option PV->Prop
 |some v=>opsK P r (st.put d v) K
 |none=>False
@[push_cast] theorem qwu(v:PV):pfV P d r st K (some v)=opsK P r (st.put d v) K:=rfl
@[push_cast] theorem o_pf(g:XF)(x:Opd):opsK P (⟨d,none,.xo (.pf g) [x]⟩::r) st K=pfV P d r st K (xfF g (x.ev st)):=by
 show xoK st d (.pf g) [x.ev st] (fun st' =>opsK P r st' K)=_
 generalize x.ev st=u
 have: ∀K' :St->Prop,xoK st d (.pf g) [u] K' =pfK st d K' (xfF g u):=fun K' =>by cases d<;>rfl
 rw[this]
 cases xfF g u<;>rfl
@[push_cast] theorem qwv(b:Bool)(n:Int):mxL b n []=some n:=rfl
@[push_cast] theorem qww(b:Bool)(n m:Int)(r:List PV):mxL b n (.sc (.int .i64 m)::r)=mxL b (bif b then max n m else min n m) r:=rfl
@[push_cast] theorem qwx(b:Bool)(n:Int)(r:List PV):mxF b (.sc (.int .i64 n)::r)=mxO (mxL b n r):=by
 show(mxL b n r).map _=_
 cases mxL b n r<;>rfl
@[push_cast] theorem qwy(ng:Bool):xfF (.ieq ng) (.sc .nilIface)=some (.sc (.bool (!ng))):=rfl
@[push_cast] theorem qwz(ng:Bool)(t:Nat)(v:Value):xfF (.ieq ng) (.sc (.iface t v))=some (.sc (.bool ng)):=rfl
@[push_cast] theorem qwA(f id:Nat):xfF (.bm f) (.ptr id 0)=some (.bm f id):=rfl
@[push_cast] theorem qwB(t:Nat):xfF (.mki t) (.agg [])=some (.sc (.iface t (.agg #[]))):=rfl
@[push_cast] theorem qwC(t:Nat)(k:IntKind)(n:Int):xfF (.mki t) (.sc (.int k n))=some (.sc (.iface t (.int k n))):=rfl
@[push_cast] theorem qwD(t:Nat):xfF (.tas t) (.sc (.iface t (.agg #[])))=some (.tup [.agg [],.sc (.bool true)]):=by simp[xfF]
def clxK(P:Env)(d:Option Nat)(f:Nat)(args:List PV)(r:List AO)(st:St)(K:St->Prop):Prop:=FnX P f args st fun rv st' =>opsK P r (st'.put d rv) K
@[congr] theorem qwE{P:Env}{d:Option Nat}{f:Nat}{args args' :List PV}{r:List AO}{st st' :St}{K:St->Prop}(h1:args=args')(h2:st=st'):clxK P d f args r st K=clxK P d f args' r st' K:=by rw[h1,h2]
@[push_cast] theorem qwH(t:Nat)(v:Value):panK P st (.sc (.iface t v))=P.pan [{ v:= .iface t v,recovered:=false }] st:=rfl
end
def FnPX(P:Program)(f:Nat)(args:List PV)(post:PV->Prop)(panv:List PanicEntry->Prop):Prop:=qcG P f=true/\
 ∀(w:World) (Z:Zone),GL P w->(∀b,Z true b->Z false b)->(∀p b,Z p b->b<w.heap.size)-> ∀vs:Array Value,vs.size=args.length->(∀j c,args[j]? =some c->TV w Z c (vs.getD j undef))->
  Calls P f vs w fun e w' =>(∃v r,e= .returned v/\post r/\TV w' (fun p b=>p=true/\(Z true b\/(w.heap.size<=b/\b<w'.heap.size))) r v/\Below w.heap.size w w')\/(∃ch,e= .panicked ch/\panv ch/\Below w.heap.size w w')
theorem FnPX.of_awp {P : Program} {f : Nat} {fn : Func} {ac : AC} {rvs : List RV} {args : List PV} {post : PV -> Prop} {panv : List PanicEntry -> Prop} (hf : P.funcs[f]? = some fn) (hok : fnOk P ac rvs fn = true) (hg : qcG P f = true) (hn : args.length <= fn.ntmps)
  (h:awp ⟨P,0,fun _ _ _ _=>False,fun ch _=>panv ch⟩ ac (retK rvs post) ⟨slots0 args,[],[],[]⟩):FnPX P f args post panv:=by
 refine⟨hg,fun w Z hgl zt zb vs hsz hrel=> ?_⟩
 simp only[fnOk,Bool.and_eq_true]at hok
 obtain⟨hb,hr⟩:=hok
 split at hb
 ·rename_i c hc
  have hsize:(vs++Array.replicate (fn.ntmps-vs.size) undef).size=fn.ntmps:=by simp;omega
  have hinit:Inv w Z ⟨fn.ntmps,0,fun _=>undef,⟨[],fun _=>0⟩,some (false,[])⟩ Z L00 ⟨slots0 args,[],[],[]⟩ { tmps:=vs++Array.replicate (fn.ntmps-vs.size) undef,defers:=[] } w:=by
   refine⟨zt,fun _ _ h=>h,fun _ _ h=> .inl h,zb,Below.refl _ _,?_,?_,?_,?_,?_,?_,?_,?_,?_,?_,fun x hx=>(by cases hx),fun _=>rfl,hsize,fun dd e=>⟨[],⟨by cases e;rfl,fun _=>rfl⟩,⟨.nil,fun D hD=>by cases hD⟩,fun D hD=>by cases hD⟩,?_⟩
   ·intro id cs hl;simp[lk]at hl
   ·intro id cs hl;simp[lk]at hl
   ·intro i j x y hl;simp[lk]at hl
   ·intro i j x y hl;simp[lk]at hl
   ·intro i j x y hl;simp[lk]at hl
   ·intro id cs hl;simp[lk]at hl
   ·intro id cs hl;simp[lk]at hl
   ·intro id cs hl;simp[lk]at hl
   ·intro i j x y hl;simp[lk]at hl
   ·intro id cs hl;simp[lk]at hl
   ·intro i v hl
    simp only[qgZ]at hl
    have hi:i<vs.size:=by rw[hsz];exact(List.getElem?_eq_some_iff.1 hl).1
    have:=hrel i v hl
    have e:(vs++Array.replicate (fn.ntmps-vs.size) undef).getD i undef=vs.getD i undef:=by
     simp only[Array.getD_eq_getD_getElem?,Array.getElem?_append_left hi]
    unfold Fr.val
    rw[if_pos ⟨Nat.zero_le _,by simp only;omega⟩]
    simp only[Nat.sub_zero]at e ⊢
    rw[e]
    exact this.vr _
  have h' :=qwn (Q' :=xQ ⟨P,0,fun _ _ _ _=>False,fun ch _=>panv ch⟩ (retK rvs post)) ac (fun e st hh=>by cases e<;>first|exact hh|(simp[retK,qgR]at hh)) _ h
  refine callsIn_wide (n:=0)|>.1 (callsIn_of_wp_marks hf hc trivial ?_)
  have hE2:EnvOK ⟨P,0,fun _ _ _ _=>False,fun ch _=>panv ch⟩ w Z ⟨[],fun _=>0⟩ fun _=>undef:=⟨hgl,fun _ _ _ _ _ _ _ _ _ _ _ _ _ h=>h.elim⟩
  refine wpIn_mono (qgP (P:=⟨P,0,fun _ _ _ _=>False,fun ch _=>panv ch⟩) (w0:=w) (Z0:=Z) ac (N:=⟨fn.ntmps,0,fun _=>undef,⟨[],fun _=>0⟩,some (false,[])⟩) (ro:=none) (n:=0) hE2 (Nat.le_refl _) c (xQ _ (retK rvs post)) _ _ w (.inr ⟨rfl,fun dd e=>by cases e;rfl⟩) (fun l st hh=>by simp[xQ,retK,qgR]at hh) (fun ch st hh=>hh) hb h' ⟨_,_,hinit⟩) ?_
  rintro e a' w' ⟨st',hq,Z',L',hI⟩
  have hend: ∀e,retK rvs post e st' ->LeavesInM Fence.wide 0 P fn a'.tmps (fun e w' =>(∃v r,e= .returned v/\post r/\TV w' (fun p b=>p=true/\(Z true b\/(w.heap.size<=b/\b<w'.heap.size))) r v/\Below w.heap.size w w')\/(∃ch,e= .panicked ch/\panv ch/\Below w.heap.size w w')) a'.defers .returning w' :=by
   rintro e ⟨he,h1,hfl,h2,h3⟩
   have hnt' : ∀cs ds,(resV st' rvs).2= .tup cs-> .tup ds∉cs:=fun cs ds e hm=>by rw[e]at hfl;have:=List.all_eq_true.1 hfl _ hm;simp[qgS]at this
   refine hI.leave2 rfl (by simp) fun w2 hI3=> ?_
   obtain⟨Z2,v,hI2,hrun,hvr⟩:=qgY hI3 hr h1 hnt'
   have htv:TV w2 (fun p b=>p=true/\(Z true b\/(w.heap.size<=b/\b<w2.heap.size))) (resV st' rvs).2 v:=by
    refine(VR.perm hvr h2).zone ?_
    rintro p b ⟨rfl,hb'⟩
    exact⟨rfl,(hI2.zn true b hb').imp (fun e=>e) (fun e=>⟨e,hI2.zb true b hb'⟩)⟩
   exact⟨v,hrun,.inl ⟨v,_,rfl,h3,htv,hI3.below⟩⟩
  cases e<;>first|exact hend _ hq|(simp[xQ,retK,qgR]at hq;done)|skip
  rename_i ch
  exact hI.leave2 rfl (by simp) fun w2 hI3=> .inr ⟨ch,rfl,hq,hI3.below⟩
 ·cases hb
@[push_cast] theorem qwL(st:St)(t:Nat)(agg:Bool)(sz:Nat):RV.val st (.cell t agg sz)=rvC st agg sz (st.get t):=qpb st t agg sz
theorem FnD.mono{P:Program}{g:Nat}{ids:List Nat}{u u' :FrameMode}{st:St}{Q Q' :St->Prop}(h:FnD P g ids u u' st Q)(hq: ∀st',Q st' ->Q' st'):FnD P g ids u u' st Q' :=
 fun w0 Z0 X G Z L w hg hM=>CallsDIn.mono (h w0 Z0 X G Z L w hg hM) fun _ _ _ ⟨e1,e2,st',Z',L',e3,e4⟩=>⟨e1,e2,st',Z',L',hq st' e3,e4⟩
theorem FnD.sub {P : Program} {g : Nat} {ids : List Nat} {u u' : FrameMode} {st : St} {Q : St -> Prop} (st1 : St) (h : FnD P g ids u u' st1 Q) (hs : ∀ i v, lk st1.s i = some v -> lk st.s i = some v) (hb : ∀ i v, lk st1.b i = some v -> lk st.b i = some v)
  (ha: ∀i v,lk st1.a i=some v->lk st.a i=some v) (hm: ∀i v,lk st1.m i=some v->lk st.m i=some v):FnD P g ids u u' st Q:=
 fun w0 Z0 X G Z L w hg hM=>h w0 Z0 X G Z L w hg (hM.forget (fun i v hl=> .inl (hs i v hl)) hb ha hm)
section
variable {P:Env} {ops:List XO} {n:Nat} {dn:List Nat} {st:St} {K:St->Prop}
@[push_cast] theorem qwP(P:Env)(keep:List Nat)(ops:List XO)(Q:Exit->St->Prop)(st:St):awp P (.dra keep ops) Q st=allK P ops ops.length [] (st.keepS keep) (Q .normal):=rfl
end
end Go.Vc
namespace Go.Proofs.YtecoaapkcnhlhaaDoor
open Go Go.Vc Txt
theorem qwQ(n lo hi:Int):FnEq Tryd.prog 40 [.int n,.int lo,.int hi] (.bool (decide (lo<=n/\n<=hi))):=by
 refine FnEq.of_awp Tryd.func40 ok40 (by show 3<=_;decide) (by simp only[push_cast,reduceIte,reduceEqDiff,reduceAdd,reduceSub,reduceMul,Nat.reduceBEq,reduceLT,reduceLeDiff,reduceCtorEq,reduceToNat,reduceNeg,cNI]<;>first|exact fun _ _=>trivial|simp) ?_
 simp only[ac40,rv40,push_cast,reduceIte,reduceEqDiff,reduceAdd,reduceSub,reduceMul,Nat.reduceBEq,reduceLT,reduceLeDiff,reduceCtorEq,reduceToNat,reduceNeg,cNI]
 (repeat' (first|(refine qrv rfl (fun _=> ?_) fun _=> ?_<;>simp only[push_cast,reduceIte,reduceEqDiff,reduceAdd,reduceSub,reduceMul,Nat.reduceBEq,reduceLT,reduceLeDiff,reduceCtorEq,reduceToNat,reduceNeg,cNI])|(refine qrw rfl (fun _=> ?_) fun _=> ?_<;>simp only[push_cast,reduceIte,reduceEqDiff,reduceAdd,reduceSub,reduceMul,Nat.reduceBEq,reduceLT,reduceLeDiff,reduceCtorEq,reduceToNat,reduceNeg,cNI])))
 all_goals (refine congrArg Value.bool ?_;first|rfl|(rw[decide_eq_decide];omega)|(rw[eq_comm,decide_eq_true_iff];omega)|(rw[eq_comm,decide_eq_false_iff_not];omega)|(simp[*];done))
def qwR(k m:Int):Bool:=if k=0 then decide (m=0)else if k=1 then decide (m≠3)else true
theorem qwS(k m:Int):FnEq Tryd.prog 67 [.int k,.int m] (.bool (qwR k m)):=by
 refine FnEq.of_awp Tryd.func67 ok67 (by show 2<=_;decide) (by simp only[push_cast,reduceIte,reduceEqDiff,reduceAdd,reduceSub,reduceMul,Nat.reduceBEq,reduceLT,reduceLeDiff,reduceCtorEq,reduceToNat,reduceNeg,cNI]<;>first|exact fun _ _=>trivial|simp) ?_
 simp only[ac67,rv67,push_cast,reduceIte,reduceEqDiff,reduceAdd,reduceSub,reduceMul,Nat.reduceBEq,reduceLT,reduceLeDiff,reduceCtorEq,reduceToNat,reduceNeg,cNI]
 refine qnU (fun h=> ?_) fun h=> ?_
 ·rw[qwR,if_pos h]
 ·refine qnU (fun h2=> ?_) fun h2=> ?_
  ·rw[qwR,if_neg h,if_pos h2]
  ·rw[qwR,if_neg h,if_neg h2]
structure Wire where
 kind:Int
 i:Int
 bit:Int
 deriving DecidableEq,Inhabited
structure Block where
 ins:List Int
 table:Int
 ram:Int
 reg:Int
 key:Int
 deriving DecidableEq,Inhabited
structure Packed where
 ins:List Wire
 blocks:List Block
 out:List Wire
 drive:List Int
 deriving DecidableEq,Inhabited
structure Route where
 sig:Int
 nodes:List Int
 frm:List Int
 deriving DecidableEq,Inhabited
structure Layout where
 pos:List Int
 routes:List Route
 deriving DecidableEq,Inhabited
structure Cfg where
 sel:List Int
 mode:List Int
 tab:List Int
 ram:List Int
 deriving DecidableEq,Inhabited
def qwT(w:Wire):List PV:=[.int w.kind,.int w.i,.int w.bit]
def qwU(q:Bool)(b:Block):List PV:=[.sl q 1 (ints b.ins),.int b.table,.int b.ram,.int b.reg,.sc (.int .u64 b.key)]
def qwV(q:Bool)(p:Packed):List PV:=[.sl q 3 (rows qwT p.ins),.sl q 5 (rows (qwU q) p.blocks),.sl q 3 (rows qwT p.out),.sl q 1 (ints p.drive)]
def qwW(q:Bool)(r:Route):List PV:=[.int r.sig,.sl q 1 (ints r.nodes),.sl q 1 (ints r.frm)]
def layC(q:Bool)(l:Layout):List PV:=[.sl q 1 (ints l.pos),.sl q 3 (rows (qwW q) l.routes)]
def cfgC(q:Bool)(c:Cfg):List PV:=[.sl q 1 (ints c.sel),.sl q 1 (ints c.mode),.sl q 1 (ints c.tab),.sl q 1 (ints c.ram)]
@[push_cast] theorem qwX(w:Wire):qwT w=[.int w.kind,.int w.i,.int w.bit]:=rfl
@[push_cast] theorem qwY(q:Bool)(b:Block):qwU q b=[.sl q 1 (ints b.ins),.int b.table,.int b.ram,.int b.reg,.sc (.int .u64 b.key)]:=rfl
@[push_cast] theorem qwZ(q:Bool)(p:Packed):qwV q p=[.sl q 3 (rows qwT p.ins),.sl q 5 (rows (qwU q) p.blocks),.sl q 3 (rows qwT p.out),.sl q 1 (ints p.drive)]:=rfl
@[push_cast] theorem qx0(q:Bool)(r:Route):qwW q r=[.int r.sig,.sl q 1 (ints r.nodes),.sl q 1 (ints r.frm)]:=rfl
@[push_cast] theorem qx1(q:Bool)(l:Layout):layC q l=[.sl q 1 (ints l.pos),.sl q 3 (rows (qwW q) l.routes)]:=rfl
@[push_cast] theorem qx2(q:Bool)(c:Cfg):cfgC q c=[.sl q 1 (ints c.sel),.sl q 1 (ints c.mode),.sl q 1 (ints c.tab),.sl q 1 (ints c.ram)]:=rfl
def cfg0:Cfg:=⟨[],[],[],[]⟩
def qx5(g:Grid):Cfg:=⟨List.replicate (quV g).toNat 0,List.replicate g.kind.length 0,List.replicate g.kind.length 0,List.replicate g.kind.length 0⟩
def qx6(b:Block):Prop:=(-1<=b.ram/\b.ram<=255)/\(-1<=b.reg/\b.reg<=255)/\(0<=b.table/\b.table<=65535)/\min b.ram b.reg= -1
instance (b:Block):Decidable (qx6 b):=by unfold qx6;infer_instance
def encA(c:Cfg):List (Nat×Arr):=[(109,⟨1,3,ints c.sel⟩),(111,⟨1,3,ints c.mode⟩),(113,⟨1,3,ints c.tab⟩),(115,⟨1,3,ints c.ram⟩)]
def wrC(g:Grid):List PV:=quQ false g++[.view 109 0 (quV g).toNat,.view 111 0 g.kind.length,.view 113 0 g.kind.length,.view 115 0 g.kind.length,.mp 17]
@[push_cast] theorem qxc(g:Grid):wrC g=[.int g.w,.int g.h,.int g.tracks,.int g.pads,.sl false 1 (ints g.kind),.view 109 0 (quV g).toNat,.view 111 0 g.kind.length,.view 113 0 g.kind.length,.view 115 0 g.kind.length,.mp 17]:=rfl
@[push_cast] theorem qxd(c:Cfg):encA c=[(109,⟨1,3,ints c.sel⟩),(111,⟨1,3,ints c.mode⟩),(113,⟨1,3,ints c.tab⟩),(115,⟨1,3,ints c.ram⟩)]:=rfl
structure CfgOk (g:Grid) (c:Cfg):Prop where
 sel:c.sel.length=(quV g).toNat
 mode:c.mode.length=g.kind.length
 tab:c.tab.length=g.kind.length
 ram:c.ram.length=g.kind.length
end Go.Proofs.YtecoaapkcnhlhaaDoor
namespace Go.Vc
theorem FnX.dropB{E:Env}{f:Nat}{args:List PV}{st:St}{Q:PV->St->Prop}(i:Nat)(h:FnX E f args st fun r st' =>Q r { st' with b:=rm st'.b i }):FnX E f args st Q:=
 ⟨h.1,fun w0 Z0 X G Z L w vs h1 h2 h3=>(h.2 w0 Z0 X G Z L w vs h1 h2 h3).mono fun _ _ h=>h.imp (fun⟨v,r,st',Z',L',e1,e2,e3,e4⟩=>⟨v,r,_,Z',L',e1,e2,e3.rmBox i,e4⟩) id⟩
end Go.Vc
namespace Go.Proofs.YtecoaapkcnhlhaaDoor
open Go Go.Vc Txt
theorem qxf(zs:List Int)(hs:zs.Pairwise (· <= ·)): ∀m,m<=zs.length->(Go.Lib.compactUpTo zs.toArray m).Pairwise (· < ·)/\ ∀x,x∈Go.Lib.compactUpTo zs.toArray m ↔ x∈zs.take m
 |0,_=>by simp[Go.Lib.compactUpTo]
 | m + 1, hm => by
   obtain⟨h1,h2⟩:=qxf zs hs m (by omega)
   have hlt:m<zs.length:=by omega
   have hget:zs.toArray[m]! =zs[m]:=by simp[hlt]
   have htk:zs.take (m+1)=zs.take m++[zs[m]]:=List.take_succ_eq_append_getElem hlt
   rw[Go.Lib.compactUpTo_succ,htk,hget]
   have hle: ∀a b (ha:a<zs.length) (hb:b<zs.length),a<=b->zs[a]<=zs[b]:=fun a b ha hb hab=>by
    by_cases e:a=b
    ·subst e;exact Int.le_refl _
    ·exact List.pairwise_iff_getElem.1 hs a b ha hb (by omega)
   by_cases hm0:m=0
   ·subst hm0
    rw[if_pos (Go.Lib.keeps_lt_one _ 0 (by omega))]
    simp[Go.Lib.compactUpTo]
   have hget2:zs.toArray[m-1]! =zs[m-1]:=by simp[show m-1<zs.length by omega]
   by_cases e:zs[m-1]=zs[m]
   ·rw[if_neg (by rw[Go.Lib.keeps_neg (by omega) (by rw[hget,hget2,e])];decide),List.append_nil]
    refine⟨h1,fun x=> ?_⟩
    rw[h2 x,List.mem_append,List.mem_singleton]
    refine⟨.inl,fun h=>h.elim _root_.id fun e2=> ?_⟩
    subst e2
    rw[<- e]
    exact List.mem_iff_getElem.2 ⟨m-1,by simp;omega,by simp⟩
   ·rw[if_pos (Go.Lib.keeps_pos (by rw[hget,hget2];exact Ne.symm e))]
    refine⟨List.pairwise_append.2 ⟨h1,List.pairwise_singleton _ _,fun x hx y hy=> ?_⟩,fun x=>by rw[List.mem_append,List.mem_append,h2 x]⟩
    rw[List.mem_singleton]at hy
    subst hy
    have hx:=(h2 x).1 hx
    obtain⟨j,hj,rfl⟩:=List.getElem_of_mem hx
    have hj2:j<m:=by simp at hj;omega
    rw[List.getElem_take]
    have h3:=hle j (m-1) (by omega) (by omega) (by omega)
    have h4:=hle (m-1) m (by omega) hlt (by omega)
    omega
theorem qxg(l:List Int):(qvK l).Pairwise (· <= ·):=by
 have:=List.pairwise_mergeSort (le:=fun x y:Int=>decide (x<=y)) (fun a b c h1 h2=>by simp at *;omega) (fun a b=>by simp;omega) l
 exact this.imp fun h=>by simpa using h
theorem qxh(l:List Int)(x:Int):x∈qvK l ↔ x∈l:=List.mem_mergeSort
theorem qxi(l:List Int):(Go.Lib.compact (qvK l)).Pairwise (· < ·)/\ ∀x,x∈Go.Lib.compact (qvK l) ↔ x∈l:=by
 obtain⟨h1,h2⟩:=qxf (qvK l) (qxg l) (qvK l).length (Nat.le_refl _)
 refine⟨h1,fun x=> ?_⟩
 rw[Go.Lib.compact,h2 x,List.take_length,qxh]
theorem qxj(l:List Int)(b:Int):(qw2 l b).Pairwise (· < ·)/\ ∀x,x∈qw2 l b ↔ x∈l/\x≠b:=by
 obtain⟨h1,h2⟩:=qxi l
 refine⟨h1.filter _,fun x=> ?_⟩
 rw[qw2,delF,List.mem_filter,h2 x]
 simp
theorem qxk(g:Grid)(n:Int):(qw4 g n).Pairwise (· < ·):=by
 rw[qw4]
 split
 ·exact(qxj _ _).1
 ·exact .nil
theorem qxl(g:Grid)(n x:Int):x∈qw4 g n ↔ (qv2 g n).2=0/\x∈rawD g (qv2 g n).1/\x≠n:=by
 rw[qw4]
 split
 ·rename_i h;rw[(qxj _ _).2];simp[h]
 ·rename_i h;simp[h]
theorem qxm(g:Grid)(hg:GOk g)(s:Spot):((rawD g s).length:Int)<=100000:=by
 have ht:=hg.tracks
 have hal: ∀x y,(allF g [] x y).length<=256:=fun x y=>by
  have:=qvt g x y [] g.tracks.toNat
  rw[allF]
  simp only[List.length_nil]at this
  omega
 rw[rawD]
 split
 ·split
  ·have:=qvl g (allF g [] s.x s.y) ⟨1,s.x,s.y-1,0⟩
   have:=hal s.x s.y
   omega
  ·have:=hal s.x s.y;omega
 ·split
  ·have:=hal (g.w-1) s.y;omega
  ·split
   ·have h1:=qvy g hg s [] s.x s.y
    have h2:=fun x y=>qvy g hg s (endF g s [] s.x s.y) x y
    simp only[List.length_nil]at h1
    have e:qvC g s []=qvF g s (endF g s [] s.x s.y):=rfl
    rw[e,qvF]
    split<;>split<;>first|omega|(have:=h2 (s.x+1) s.y;omega)|(have:=h2 s.x (s.y+1);omega)
   ·simp
theorem qxn(g:Grid)(hg:GOk g)(n:Int):((qw4 g n).length:Int)<=100000:=by
 rw[qw4]
 split
 ·rename_i h
  have h1:=qxm g hg (qv2 g n).1
  have h2:(qw2 (rawD g (qv2 g n).1) n).length<=(rawD g (qv2 g n).1).length:=by
   refine Nat.le_trans (List.length_filter_le _ _) (Nat.le_trans (Go.Lib.compact_length_le _) ?_)
   rw[qvK,List.length_mergeSort];exact Nat.le_refl _
  omega
 ·simp
def Rng(g:Grid)(n:Int):Prop:=0<=n/\n<quV g
structure DOk (g:Grid) (d:Spot):Prop where
 kind:1<=d.kind/\d.kind<=7
 pos:d.kind<=5->(0<=d.x/\d.x<g.w)/\(0<=d.y/\d.y<g.h)
 i0:d.kind<=2->d.i=0
 i3:d.kind=3->0<=d.i/\d.i<4
 i4:d.kind=4\/d.kind=5->0<=d.i/\d.i<g.tracks
 k6:d.kind=6->d.x= -1/\d.y=d.i%g.h/\0<=d.i/\d.i<g.pads
 k7:d.kind=7->d.x=g.w/\d.y=d.i%g.h/\0<=d.i/\d.i<g.pads
theorem qxy{g:Grid}(hg:GOk g){n:Int}(hn:Rng g n):DOk g (qv1 g n)/\qv6 g (qv1 g n)=n:=by
 obtain⟨n1,n2⟩:=hn
 have h1:=hg.each
 have h2:=hg.w
 have h3:=hg.h
 have h4:=hg.tracks
 have h5:=hg.pads
 have hc:quV g=allI g+2*g.pads:=rfl
 rw[qv1]
 split
 ·refine⟨⟨by simp,fun h=>by simp at h,fun h=>by simp at h,fun h=>by simp at h,fun h=>by simp at h,fun h=>by simp at h,fun _=>⟨rfl,rfl,by simp only;omega,by simp only;omega⟩⟩,?_⟩
  simp only[qv6];simp;omega
 rename_i c1
 split
 ·refine⟨⟨by simp,fun h=>by simp at h,fun h=>by simp at h,fun h=>by simp at h,fun h=>by simp at h,fun _=>⟨rfl,rfl,by simp only;omega,by simp only;omega⟩,fun h=>by simp at h⟩,?_⟩
  simp only[qv6];simp;omega
 rename_i c2
 have ha:n<g.w*g.h*quU g:=by unfold allI at c2;omega
 have hdm:quU g*(n/quU g)+n%quU g=n:=Int.mul_ediv_add_emod n (quU g)
 have hm1:0<=n%quU g:=Int.emod_nonneg _ (by omega)
 have hm2:n%quU g<quU g:=Int.emod_lt_of_pos _ (by omega)
 have he:quU g=6+2*g.tracks:=rfl
 have ht0:0<=n/quU g:=Int.ediv_nonneg n1 (by omega)
 have ht1:n/quU g<g.w*g.h:=Int.ediv_lt_of_lt_mul (by omega) ha
 dsimp only
 generalize n/quU g=t at *
 generalize n%quU g=i at *
 have hdm2:g.w*(t/g.w)+t%g.w=t:=Int.mul_ediv_add_emod t g.w
 have hx1:0<=t%g.w:=Int.emod_nonneg _ (by omega)
 have hx2:t%g.w<g.w:=Int.emod_lt_of_pos _ (by omega)
 have hy1:0<=t/g.w:=Int.ediv_nonneg ht0 (by omega)
 have hy2:t/g.w<g.h:=Int.ediv_lt_of_lt_mul (by omega) (by rw[Int.mul_comm];exact ht1)
 have hb:(t/g.w*g.w+t%g.w)*quU g+i=n:=by rw[Int.mul_comm (t/g.w),hdm2,Int.mul_comm];exact hdm
 generalize t%g.w=x at *
 generalize t/g.w=y at *
 have hbase: ∀k j:Int,qv5 g ⟨k,x,y,j⟩+i=n:=fun k j=>hb
 split
 ·refine⟨⟨by simp,fun _=>⟨⟨hx1,hx2⟩,hy1,hy2⟩,fun h=>by simp at h,fun h=>by simp at h,fun _=>⟨by simp only;omega,by simp only;omega⟩,fun h=>by simp at h,fun h=>by simp at h⟩,?_⟩
  have:=hbase 5 (i-6-g.tracks)
  simp only[qv6];simp;omega
 split
 ·refine⟨⟨by simp,fun _=>⟨⟨hx1,hx2⟩,hy1,hy2⟩,fun h=>by simp at h,fun h=>by simp at h,fun _=>⟨by simp only;omega,by simp only;omega⟩,fun h=>by simp at h,fun h=>by simp at h⟩,?_⟩
  have:=hbase 4 (i-6)
  simp only[qv6];simp;omega
 split
 ·refine⟨⟨by simp,fun _=>⟨⟨hx1,hx2⟩,hy1,hy2⟩,fun h=>by simp at h,fun _=>⟨by simp only;omega,by simp only;omega⟩,fun h=>by simp at h,fun h=>by simp at h,fun h=>by simp at h⟩,?_⟩
  have:=hbase 3 (i-2)
  simp only[qv6];simp;omega
 split
 ·refine⟨⟨by simp,fun _=>⟨⟨hx1,hx2⟩,hy1,hy2⟩,fun _=>rfl,fun h=>by simp at h,fun h=>by simp at h,fun h=>by simp at h,fun h=>by simp at h⟩,?_⟩
  have:=hbase 2 0
  simp only[qv6];simp;omega
 ·refine⟨⟨by simp,fun _=>⟨⟨hx1,hx2⟩,hy1,hy2⟩,fun _=>rfl,fun h=>by simp at h,fun h=>by simp at h,fun h=>by simp at h,fun h=>by simp at h⟩,?_⟩
  have:=hbase 1 0
  simp only[qv6];simp;omega
theorem qxz{g:Grid}{n:Int}(h:Rng g n):qv2 g n=(qv1 g n,0):=by
 unfold Rng at h
 rw[qv2,if_neg (by omega)]
theorem qxA{g:Grid}{n:Int}(h:(qv2 g n).2=0):Rng g n:=by
 unfold qv2 at h
 unfold Rng
 split at h
 ·cases h
 ·omega
theorem qxB{g:Grid}(hg:GOk g)(l:List Int)(s:Spot)(x:Int):x∈addF g l s ↔ x∈l\/(Rng g x/\qv1 g x=s):=by
 have key: ∀x,Rng g x->qv1 g x=s->qv7 g s=(x,0):=fun x hx e=>by
  obtain⟨_,h⟩:=qxy hg hx
  rw[e]at h
  rw[qv7,h,qxz hx,if_pos ⟨rfl,e⟩]
 rw[addF]
 split
 ·rename_i h
  rw[List.mem_append,List.mem_singleton]
  have h2:(qv2 g (qv6 g s)).2=0/\(qv2 g (qv6 g s)).1=s:=by
   unfold qv7 at h
   split at h
   ·assumption
   ·cases h
  have h3:=qxA h2.1
  have h4:qv1 g (qv6 g s)=s:=by rw[qxz h3]at h2;exact h2.2
  rw[key _ h3 h4]
  refine or_congr_right ⟨fun e=>by subst e;exact⟨h3,h4⟩,fun e=> ?_⟩
  have:=key x e.1 e.2
  rw[key _ h3 h4]at this
  cases this;rfl
 ·rename_i h
  refine⟨.inl,fun e=>e.elim id fun e=>absurd ?_ h⟩
  rw[key x e.1 e.2]
def qxC(g:Grid)(d:Spot)(x y:Int):Prop:= ¬(x<0\/g.w<=x\/y<0\/g.h<=y)/\((d.kind=4/\d.y=y/\(d.x=x\/d.x=x-1))\/(d.kind=5/\d.x=x/\(d.y=y\/d.y=y-1)))
theorem qxD(d:Spot)(k x y i:Int):d=⟨k,x,y,i⟩ ↔ d.kind=k/\d.x=x/\d.y=y/\d.i=i:=by
 obtain⟨a,b,c,e⟩:=d
 simp
section
variable {g:Grid} (hg:GOk g)
include hg
theorem qxE(l:List Int)(x y t n:Int):n∈qvq g l x y t ↔ n∈l\/(Rng g n/\(qv1 g n).i=t/\qxC g (qv1 g n) x y):=by
 unfold qvq qxC
 split
 ·rename_i h
  simp[h]
 ·rename_i h
  simp only[qxB hg,qxD]
  generalize qv1 g n=d
  constructor
  ·rintro((((h1|⟨r,h1⟩)|⟨r,h1⟩)|⟨r,h1⟩)|⟨r,h1⟩)
   ·exact .inl h1
   all_goals exact .inr ⟨r,by omega,h,by omega⟩
  ·rintro(h1|⟨r,h1,_,h2⟩)
   ·exact .inl (.inl (.inl (.inl h1)))
   ·rcases h2 with⟨a,b,c|c⟩|⟨a,b,c|c⟩
    ·exact .inl (.inl (.inl (.inr ⟨r,by omega⟩)))
    ·exact .inl (.inr ⟨r,by omega⟩)
    ·exact .inl (.inl (.inr ⟨r,by omega⟩))
    ·exact .inr ⟨r,by omega⟩
theorem qxF(x y n:Int)(l:List Int): ∀m:Nat,n∈allN g x y l m ↔ n∈l\/(Rng g n/\(0<=(qv1 g n).i/\(qv1 g n).i<m)/\qxC g (qv1 g n) x y)
 | 0 => by
   rw[allN]
   refine⟨.inl,fun h=>h.elim id fun h=> ?_⟩
   have:=h.2.1
   omega
 | m + 1 => by
   rw[allN,qxE hg,qxF x y n l m]
   constructor
   ·rintro((h|⟨r,h1,h2⟩)|⟨r,h1,h2⟩)
    ·exact .inl h
    ·exact .inr ⟨r,by omega,h2⟩
    ·exact .inr ⟨r,by omega,h2⟩
   ·rintro(h|⟨r,h1,h2⟩)
    ·exact .inl (.inl h)
    ·by_cases e:(qv1 g n).i=m
     ·exact .inr ⟨r,e,h2⟩
     ·exact .inl (.inr ⟨r,by omega,h2⟩)
theorem qxG(x y n:Int):n∈allF g [] x y ↔ Rng g n/\qxC g (qv1 g n) x y:=by
 have ht:=hg.tracks
 rw[allF,qxF hg]
 constructor
 ·rintro(h|⟨r,_,h⟩)
  ·cases h
  ·exact⟨r,h⟩
 ·rintro⟨r,h⟩
  have hd:=(qxy hg r).1.i4 (by unfold qxC at h;omega)
  exact .inr ⟨r,by omega,h⟩
theorem qxH(y n:Int): ∀(f:Nat) (k:Int) (l:List Int),g.pads<=k+f->(n∈padR g y f k l ↔ n∈l\/(Rng g n/\(qv1 g n).kind=6/\(qv1 g n).x= -1/\(qv1 g n).y=y/\k<=(qv1 g n).i/\(qv1 g n).i<g.pads/\((qv1 g n).i-k)%g.h=0))
 | 0, k, l, hf => by
   rw[padR]
   refine⟨.inl,fun h=>h.elim id fun h=> ?_⟩
   omega
 | f + 1, k, l, hf => by
   have hh:=hg.h
   rw[padR]
   split
   ·rename_i hk
    rw[qxH y n f (k+g.h) _ (by omega),qxB hg,qxD]
    generalize qv1 g n=d
    have e:(d.i-(k+g.h))%g.h=(d.i-k)%g.h:=by
     rw[show d.i-(k+g.h)=d.i-k-g.h by omega]
     exact Int.sub_emod_right (d.i-k) g.h
    rw[e]
    constructor
    ·rintro((h|⟨r,h⟩)|⟨r,h⟩)
     ·exact .inl h
     ·refine .inr ⟨r,h.1,h.2.1,h.2.2.1,by omega,by omega,?_⟩
      rw[h.2.2.2];simp
     ·exact .inr ⟨r,h.1,h.2.1,h.2.2.1,by omega,by omega,h.2.2.2.2.2⟩
    ·rintro(h|⟨r,h1,h2,h3,h4,h5,h6⟩)
     ·exact .inl (.inl h)
     ·by_cases e2:d.i=k
      ·exact .inl (.inr ⟨r,h1,h2,h3,e2⟩)
      ·refine .inr ⟨r,h1,h2,h3,?_,h5,h6⟩
       have:=Int.emod_lt_of_pos (d.i-k) (show 0<g.h by omega)
       by_cases e3:d.i-k<g.h
       ·rw[Int.emod_eq_of_lt (by omega) e3]at h6;omega
       ·omega
   ·rename_i hk
    refine⟨.inl,fun h=>h.elim id fun h=> ?_⟩
    omega
theorem qxI(l:List Int)(y n:Int)(hy:0<=y/\y<g.h):n∈qvv g l y ↔ n∈l\/(Rng g n/\(qv1 g n).kind=6/\(qv1 g n).y=y):=by
 have hp:=hg.pads
 rw[qvv,qxH hg _ _ _ _ _ (by omega)]
 refine or_congr_right ⟨fun h=>⟨h.1,h.2.1,h.2.2.2.1⟩,fun⟨r,h1,h2⟩=> ?_⟩
 obtain⟨k1,k2,k3,k4⟩:=(qxy hg r).1.k6 h1
 generalize qv1 g n=d at *
 have hh:=hg.h
 have e:=Int.mul_ediv_add_emod d.i g.h
 have hle:d.i%g.h<=d.i:=by
  have:=Int.ediv_nonneg k3 (show 0<=g.h by omega)
  have:=Int.mul_nonneg (show 0<=g.h by omega) this
  omega
 refine⟨r,h1,k1,h2,by omega,k4,?_⟩
 rw[show d.i-y=g.h*(d.i/g.h)by omega]
 exact Int.mul_emod_right _ _
theorem qxJ (s : Spot) (l : List Int) (x y n : Int) (hy : 0 <= y /\ y < g.h) : n ∈ endF g s l x y ↔ n ∈ l \/ (Rng g n /\ (((qv1 g n).kind = 1 /\ (qv1 g n).x = x /\ (qv1 g n).y = y) \/ ((qv1 g n).kind = 2 /\ (qv1 g n).x = x /\ (qv1 g n).y = y) \/
  ((qv1 g n).i=s.i/\qxC g (qv1 g n) x y)\/(x=0/\(qv1 g n).kind=6/\(qv1 g n).y=y))):=by
 have key:n∈qvq g (addF g (addF g l ⟨1,x,y,0⟩) ⟨2,x,y,0⟩) x y s.i ↔ n∈l\/(Rng g n/\(((qv1 g n).kind=1/\(qv1 g n).x=x/\(qv1 g n).y=y)\/((qv1 g n).kind=2/\(qv1 g n).x=x/\(qv1 g n).y=y)\/
  ((qv1 g n).i=s.i/\qxC g (qv1 g n) x y))):=by
  rw[qxE hg,qxB hg,qxB hg,qxD,qxD]
  constructor
  ·rintro(((h|⟨r,h⟩)|⟨r,h⟩)|⟨r,h⟩)
   ·exact .inl h
   ·exact .inr ⟨r,.inl ⟨h.1,h.2.1,h.2.2.1⟩⟩
   ·exact .inr ⟨r,.inr (.inl ⟨h.1,h.2.1,h.2.2.1⟩)⟩
   ·exact .inr ⟨r,.inr (.inr h)⟩
  ·rintro(h|⟨r,h|h|h⟩)
   ·exact .inl (.inl (.inl h))
   ·exact .inl (.inl (.inr ⟨r,h.1,h.2.1,h.2.2,(qxy hg r).1.i0 (by omega)⟩))
   ·exact .inl (.inr ⟨r,h.1,h.2.1,h.2.2,(qxy hg r).1.i0 (by omega)⟩)
   ·exact .inr ⟨r,h⟩
 simp only[endF]
 split
 ·rename_i hx
  rw[qxI hg _ _ _ hy,key]
  constructor
  ·rintro((h|⟨r,h|h|h⟩)|⟨r,h⟩)
   ·exact .inl h
   ·exact .inr ⟨r,.inl h⟩
   ·exact .inr ⟨r,.inr (.inl h)⟩
   ·exact .inr ⟨r,.inr (.inr (.inl h))⟩
   ·exact .inr ⟨r,.inr (.inr (.inr ⟨hx,h⟩))⟩
  ·rintro(h|⟨r,h|h|h|h⟩)
   ·exact .inl (.inl h)
   ·exact .inl (.inr ⟨r,.inl h⟩)
   ·exact .inl (.inr ⟨r,.inr (.inl h)⟩)
   ·exact .inl (.inr ⟨r,.inr (.inr h)⟩)
   ·exact .inr ⟨r,h.2⟩
 ·rename_i hx
  rw[key]
  constructor
  ·rintro(h|⟨r,h|h|h⟩)
   ·exact .inl h
   ·exact .inr ⟨r,.inl h⟩
   ·exact .inr ⟨r,.inr (.inl h)⟩
   ·exact .inr ⟨r,.inr (.inr (.inl h))⟩
  ·rintro(h|⟨r,h|h|h|h⟩)
   ·exact .inl h
   ·exact .inr ⟨r,.inl h⟩
   ·exact .inr ⟨r,.inr (.inl h)⟩
   ·exact .inr ⟨r,.inr (.inr h)⟩
   ·exact absurd h.1 hx
end
theorem qxK{g:Grid}{w:Spot}{x y:Int}(h:w.kind≠4)(h2:w.kind≠5): ¬Adj g w x y:=by unfold Adj;omega
theorem qxL{g:Grid}{d:Spot}{x y:Int} :Adj g d x y ↔ qxC g d x y:=by
 obtain⟨k,dx,dy,i⟩:=d
 simp only[Adj,qxC]
 refine and_congr_right fun _=> ?_
 omega
def Can2(g:Grid)(a b:Spot):Prop:=(a.kind=1/\(Adj g b a.x a.y\/(b.kind=3/\b.i=3/\b.x=a.x/\b.y=a.y+1)))\/(a.kind=2/\Adj g b a.x a.y)\/(a.kind=6/\Adj g b 0 a.y)\/
 ((a.kind=4\/a.kind=5)/\(b.kind=4\/b.kind=5)/\a≠b/\a.i=b.i/\Meet g a b)\/((a.kind=4\/a.kind=5)/\b.kind=3/\Adj g a b.x b.y)\/((a.kind=4\/a.kind=5)/\b.kind=7/\Adj g a (g.w-1) b.y)
theorem qxM(g:Grid)(a b:Spot):CanD g a b ↔ Can2 g a b:=by
 unfold CanD Can2
 by_cases h1:a.kind=1
 ·simp[h1]
 by_cases h2:a.kind=2
 ·simp[h2]
 by_cases h6:a.kind=6
 ·simp[h6]
 by_cases h4:a.kind=4\/a.kind=5
 ·rw[if_neg h1,if_neg h2,if_neg h6,if_pos h4]
  simp only[h1,h2,h6,h4,false_and,false_or,true_and]
  split
  ·rename_i hb
   have h3: ¬b.kind=3:=by omega
   have h7: ¬b.kind=7:=by omega
   simp[hb,h3,h7]
  ·rename_i hb
   simp[hb]
 ·rw[if_neg h1,if_neg h2,if_neg h6,if_neg h4]
  simp[h1,h2,h6,h4]
section
variable {g:Grid} (hg:GOk g)
include hg
theorem qxN(s:Spot)(hs:DOk g s)(k3:s.kind=3)(n:Int)(hn:Rng g n):(n∈rawD g s/\qv1 g n≠s) ↔ CanD g (qv1 g n) s:=by
 have hd:=(qxy hg hn).1
 have e1:n∈rawD g s ↔ qxC g (qv1 g n) s.x s.y\/(s.i=3/\(qv1 g n).kind=1/\(qv1 g n).x=s.x/\(qv1 g n).y=s.y-1):=by
  rw[rawD,if_pos k3]
  split
  ·rename_i h3
   rw[qxB hg,qxG hg,qxD]
   refine or_congr ⟨fun h=>h.2,fun h=>⟨hn,h⟩⟩ ⟨fun h=>⟨h3,h.2.1,h.2.2.1,h.2.2.2.1⟩,fun h=>⟨hn,h.2.1,h.2.2.1,h.2.2.2,hd.i0 (by omega)⟩⟩
  ·rename_i h3
   rw[qxG hg]
   exact⟨fun h=> .inl h.2,fun h=>h.elim (fun h=>⟨hn,h⟩) fun h=>absurd h.1 h3⟩
 have n1: ∀x y,¬Adj g s x y:=fun x y=>qxK (by omega) (by omega)
 rw[e1,qxM,Can2]
 simp only[n1,qxL,k3,true_and,false_or,and_false,show ¬((3:Int)=4\/(3:Int)=5)by decide,show ¬(3:Int)=7 by decide,false_and,or_false]
 generalize qv1 g n=d at *
 constructor
 ·rintro⟨h|h,_⟩
  ·refine .inr ⟨?_,h⟩
   unfold qxC at h;omega
  ·exact .inl ⟨h.2.1,h.1,h.2.2.1.symm,by omega⟩
 ·rintro(h|h)
  ·exact⟨.inr ⟨h.2.1,h.1,h.2.2.1.symm,by omega⟩,fun e=>by rw[e]at h;omega⟩
  ·exact⟨.inl h.2,fun e=>by rw[e]at h;omega⟩
theorem qxO(s:Spot)(hs:DOk g s)(k7:s.kind=7)(n:Int)(hn:Rng g n):(n∈rawD g s/\qv1 g n≠s) ↔ CanD g (qv1 g n) s:=by
 have e1:n∈rawD g s ↔ qxC g (qv1 g n) (g.w-1) s.y:=by
  rw[rawD,if_neg (by omega),if_pos k7,qxG hg]
  exact⟨fun h=>h.2,fun h=>⟨hn,h⟩⟩
 have n1: ∀x y,¬Adj g s x y:=fun x y=>qxK (by omega) (by omega)
 rw[e1,qxM,Can2]
 simp only[n1,qxL,k7,true_and,false_or,and_false,show ¬((7:Int)=4\/(7:Int)=5)by decide,show ¬(7:Int)=3 by decide,false_and,or_false]
 generalize qv1 g n=d at *
 constructor
 ·rintro⟨h,_⟩
  refine⟨?_,h⟩
  unfold qxC at h;omega
 ·rintro h
  exact⟨h.2,fun e=>by rw[e]at h;omega⟩
omit hg in
theorem qxP(s:Spot)(k:s.kind=1\/s.kind=2\/s.kind=6)(n:Int):(n∈rawD g s/\qv1 g n≠s) ↔ CanD g (qv1 g n) s:=by
 have e1:rawD g s=[]:=by rw[rawD,if_neg (by omega),if_neg (by omega),if_neg (by omega)]
 have n1: ∀x y,¬Adj g s x y:=fun x y=>qxK (by omega) (by omega)
 rw[e1,qxM,Can2]
 simp only[n1,List.not_mem_nil,false_and,false_or,and_false,show ¬(s.kind=4\/s.kind=5)by omega,show ¬s.kind=3 by omega,show ¬s.kind=7 by omega,or_false]
end
theorem qxQ {g : Grid} (d s : Spot) (hs : s.kind = 4 \/ s.kind = 5) (hsx : (0 <= s.x /\ s.x < g.w) /\ (0 <= s.y /\ s.y < g.h)) (hdx : (0 <= d.x /\ d.x < g.w) /\ (0 <= d.y /\ d.y < g.h)) (hd : d.kind = 4 \/ d.kind = 5) :
  Meet g d s ↔ qxC g d s.x s.y\/(s.kind=4/\s.x+1<g.w/\qxC g d (s.x+1) s.y)\/(s.kind=5/\s.y+1<g.h/\qxC g d s.x (s.y+1)):=by
 obtain⟨k,x,y,i⟩:=d
 obtain⟨k',x',y',i'⟩:=s
 simp only[Meet,Adj,qxC]at *
 rcases hs with rfl|rfl<;>rcases hd with rfl|rfl<;>simp only[show ¬(4:Int)=5 by decide,show ¬(5:Int)=4 by decide,or_false,false_or,true_or,or_true,true_and,false_and]<;>omega
section
variable {g:Grid} (hg:GOk g)
include hg
theorem qxR(s:Spot)(hs:DOk g s)(k:s.kind=4\/s.kind=5)(n:Int)(hn:Rng g n):(n∈rawD g s/\qv1 g n≠s) ↔ CanD g (qv1 g n) s:=by
 have hd:=(qxy hg hn).1
 obtain⟨sx,sy⟩:=hs.pos (by omega)
 have hw:=hg.w
 have hh:=hg.h
 have e1:n∈rawD g s ↔ n∈qvF g s (endF g s [] s.x s.y):=by
  rw[rawD,if_neg (by omega),if_neg (by omega),if_pos k];rfl
 have hsk3: ¬s.kind=3:=by omega
 have hsk7: ¬s.kind=7:=by omega
 have hh0:0<g.h:=by omega
 let E:Int->Int->Prop:=fun x y=>((qv1 g n).kind=1/\(qv1 g n).x=x/\(qv1 g n).y=y)\/((qv1 g n).kind=2/\(qv1 g n).x=x/\(qv1 g n).y=y)\/((qv1 g n).i=s.i/\qxC g (qv1 g n) x y)\/(x=0/\(qv1 g n).kind=6/\(qv1 g n).y=y)
 have e2:n∈qvF g s (endF g s [] s.x s.y) ↔ E s.x s.y\/(s.kind=4/\s.x+1<g.w/\E (s.x+1) s.y)\/(s.kind=5/\s.y+1<g.h/\E s.x (s.y+1)):=by
  have m1:n∈endF g s [] s.x s.y ↔ E s.x s.y:=by
   rw[qxJ hg _ _ _ _ _ sy]
   simp only[List.not_mem_nil,false_or,hn,true_and]
   rfl
  rw[qvF]
  split
  ·rename_i k4
   have h5: ¬s.kind=5:=by omega
   simp only[k4,show ¬(4:Int)=5 by decide,false_and,or_false,true_and]
   split
   ·rename_i hh2
    rw[qxJ hg _ _ _ _ _ sy,m1]
    exact or_congr_right ⟨fun h=>⟨hh2.1,h.2⟩,fun h=>⟨hn,h.2⟩⟩
   ·rename_i hh2
    rw[m1]
    exact⟨.inl,fun h=>h.elim _root_.id fun h=>absurd ⟨h.1,sy.2⟩ hh2⟩
  ·rename_i k4
   have h5:s.kind=5:=by omega
   simp only[h5,show ¬(5:Int)=4 by decide,false_and,false_or,true_and]
   split
   ·rename_i hh2
    rw[qxJ hg _ _ _ _ _ (by omega),m1]
    exact or_congr_right ⟨fun h=>⟨hh2.2,h.2⟩,fun h=>⟨hn,h.2⟩⟩
   ·rename_i hh2
    rw[m1]
    exact⟨.inl,fun h=>h.elim _root_.id fun h=>absurd ⟨sx.2,h.1⟩ hh2⟩
 rw[e1,e2,qxM,Can2]
 show((((qv1 g n).kind=1/\_/\_)\/_)\/_)/\_ ↔ _
 have dpos:=hd.pos
 have d6:=hd.k6
 have hmw:=qxQ (g:=g) (qv1 g n) s k ⟨sx,sy⟩
 have dk:=hd.kind
 have dy:(qv1 g n).kind=6->0<=(qv1 g n).y/\(qv1 g n).y<g.h:=fun h=>by
  obtain⟨_,e,_⟩:=d6 h
  rw[e]
  exact⟨Int.emod_nonneg _ (fun e=>by rw[e]at hh0;exact absurd hh0 (by decide)),Int.emod_lt_of_pos _ hh0⟩
 simp only[E]
 clear e1 e2 E hs hd d6
 generalize qv1 g n=d at *
 have hne: ¬(d.kind=4\/d.kind=5)->d≠s:=fun h e=>by rw[e]at h;exact h k
 have hwn: ¬(d.kind=4\/d.kind=5)-> ∀x y,¬qxC g d x y:=fun h x y hW=>h (hW.2.elim (fun z=> .inl z.1) fun z=> .inr z.1)
 by_cases k45:d.kind=4\/d.kind=5
 ·have m:=hmw (dpos (by rcases k45 with h|h<;>rw[h]<;>decide)) k45
  have a1: ¬d.kind=1:=fun e=>by rw[e]at k45;exact absurd k45 (by decide)
  have a2: ¬d.kind=2:=fun e=>by rw[e]at k45;exact absurd k45 (by decide)
  have a6: ¬d.kind=6:=fun e=>by rw[e]at k45;exact absurd k45 (by decide)
  simp only[a1,a2,a6,hsk3,hsk7,k45,k,m,false_and,and_false,or_false,false_or,true_and]
  constructor
  ·rintro⟨h|⟨b,c,h⟩|⟨b,c,h⟩,h2⟩
   ·exact⟨h2,h.1,.inl h.2⟩
   ·exact⟨h2,h.1,.inr (.inl ⟨b,c,h.2⟩)⟩
   ·exact⟨h2,h.1,.inr (.inr ⟨b,c,h.2⟩)⟩
  ·rintro⟨h2,h1,h|⟨b,c,h⟩|⟨b,c,h⟩⟩
   ·exact⟨.inl ⟨h1,h⟩,h2⟩
   ·exact⟨.inr (.inl ⟨b,c,h1,h⟩),h2⟩
   ·exact⟨.inr (.inr ⟨b,c,h1,h⟩),h2⟩
 ·have hn2:=hne k45
  have hw2:=hwn k45
  clear hne hwn hmw
  simp only[hw2,hn2,k45,hsk3,hsk7,and_false,false_and,or_false,false_or,ne_eq,not_false_eq_true,and_true]
  by_cases a1:d.kind=1
  ·have dp:=dpos (by rw[a1];decide)
   clear dpos dy hw2
   simp only[a1,true_and,show ¬(1:Int)=2 by decide,show ¬(1:Int)=6 by decide,false_and,and_false,or_false,Adj,k,true_and]
   omega
  by_cases a2:d.kind=2
  ·have dp:=dpos (by rw[a2];decide)
   clear dpos dy hw2
   simp only[a2,true_and,show ¬(2:Int)=1 by decide,show ¬(2:Int)=6 by decide,false_and,and_false,or_false,false_or,Adj,k,true_and]
   omega
  by_cases a6:d.kind=6
  ·have dp:=dy a6
   clear dpos dy hw2
   simp only[a6,true_and,show ¬(6:Int)=1 by decide,show ¬(6:Int)=2 by decide,false_and,and_false,or_false,false_or,and_true,Adj,k]
   omega
  ·simp only[a1,a2,a6,false_and,and_false,or_false]
theorem qxS(s:Spot)(hs:DOk g s)(n:Int)(hn:Rng g n):(n∈rawD g s/\qv1 g n≠s) ↔ CanD g (qv1 g n) s:=by
 have h1:=hs.kind
 by_cases k3:s.kind=3
 ·exact qxN hg s hs k3 n hn
 by_cases k7:s.kind=7
 ·exact qxO hg s hs k7 n hn
 by_cases k4:s.kind=4\/s.kind=5
 ·exact qxR hg s hs k4 n hn
 ·exact qxP s (by omega) n
theorem qxT(s:Spot)(hs:DOk g s)(n:Int)(h:n∈rawD g s):Rng g n:=by
 have hE: ∀(x y:Int) (l:List Int),(n∈l->Rng g n)->0<=y/\y<g.h->n∈endF g s l x y->Rng g n:=fun x y l hl hy hm=>by
  rw[qxJ hg _ _ _ _ _ hy]at hm
  exact hm.elim hl fun h=>h.1
 rw[rawD]at h
 split at h
 ·split at h
  ·rw[qxB hg,qxG hg]at h
   exact h.elim (fun h=>h.1) fun h=>h.1
  ·rw[qxG hg]at h
   exact h.1
 ·split at h
  ·rw[qxG hg]at h
   exact h.1
  ·split at h
   ·rename_i k
    obtain⟨sx,sy⟩:=hs.pos (by omega)
    have h0:=hE s.x s.y [] (fun h=>by cases h) sy
    simp only[qvC]at h
    split at h
    ·split at h
     ·exact hE _ _ _ h0 sy h
     ·exact h0 h
    ·split at h
     ·exact hE _ _ _ h0 (by omega) h
     ·exact h0 h
   ·cases h
end
theorem qxU: ∀ {l1 l2:List Int},l1.Pairwise (· < ·)->l2.Pairwise (· < ·)->(∀x,x∈l1 ↔ x∈l2)->l1=l2
 |[],[],_,_,_=>rfl
 |[],y::r,_,_,h=>by have:=(h y).2 List.mem_cons_self;cases this
 |x::r,[],_,_,h=>by have:=(h x).1 List.mem_cons_self;cases this
 | x :: r, y :: s, h1, h2, h => by
   have e:x=y:=by
    have a:=(h x).1 List.mem_cons_self
    have b:=(h y).2 List.mem_cons_self
    rcases List.mem_cons.1 a with a|a
    ·exact a
    rcases List.mem_cons.1 b with b|b
    ·exact b.symm
    have c:=(List.pairwise_cons.1 h2).1 x a
    have d:=(List.pairwise_cons.1 h1).1 y b
    omega
   subst e
   rw[qxU (List.pairwise_cons.1 h1).2 (List.pairwise_cons.1 h2).2 fun z=>⟨fun hz=> ?_,fun hz=> ?_⟩]
   ·have:=(h z).1 (List.mem_cons_of_mem _ hz)
    rcases List.mem_cons.1 this with e|e
    ·subst e
     have:=(List.pairwise_cons.1 h1).1 z hz
     omega
    ·exact e
   ·have:=(h z).2 (List.mem_cons_of_mem _ hz)
    rcases List.mem_cons.1 this with e|e
    ·subst e
     have:=(List.pairwise_cons.1 h2).1 z hz
     omega
    ·exact e
theorem qxV(g:Grid)(s:Spot): ∀k:Nat,(qwh g s k).Pairwise (· < ·)/\ ∀x,x∈qwh g s k ↔ (0<=x/\x<k)/\CanD g (qv1 g x) s
 |0=>⟨.nil,fun x=>by simp[qwh];omega⟩
 | k + 1 => by
   obtain⟨h1,h2⟩:=qxV g s k
   have hm: ∀x,x∈qwh g s (k+1) ↔ (0<=x/\x<((k+1:Nat):Int))/\CanD g (qv1 g x) s:=fun x=>by
    rw[qwh,List.mem_append,h2 x]
    split
    ·rename_i hc
     rw[List.mem_singleton]
     constructor
     ·rintro(h|h)
      ·exact⟨by omega,h.2⟩
      ·subst h;exact⟨by omega,hc⟩
     ·rintro⟨h,h3⟩
      by_cases e:x=k
      ·exact .inr e
      ·exact .inl ⟨by omega,h3⟩
    ·rename_i hc
     simp only[List.not_mem_nil,or_false]
     constructor
     ·exact fun h=>⟨by omega,h.2⟩
     ·rintro⟨h,h3⟩
      by_cases e:x=k
      ·subst e;exact absurd h3 hc
      ·exact⟨by omega,h3⟩
   refine⟨?_,hm⟩
   rw[qwh]
   split
   ·refine List.pairwise_append.2 ⟨h1,List.pairwise_singleton _ _,fun x hx y hy=> ?_⟩
    rw[List.mem_singleton]at hy
    have:=((h2 x).1 hx).1
    omega
   ·simpa using h1
theorem qxW{g:Grid}(hg:GOk g)(n:Int):qw4 g n=rdrF g n:=by
 have hc:=hg.count
 rw[rdrF]
 split
 ·rename_i h
  have hr:=qxA h
  have he:=qxz hr
  refine qxU (qxk g n) (qxV g _ _).1 fun x=> ?_
  rw[qxl,(qxV g _ _).2 x,he]
  simp only[true_and]
  obtain⟨hd,hN⟩:=qxy hg hr
  constructor
  ·rintro⟨h1,h2⟩
   have hx:=qxT hg _ hd x h1
   refine⟨by unfold Rng at hx;omega,(qxS hg _ hd x hx).1 ⟨h1,fun e=>h2 ?_⟩⟩
   rw[<- (qxy hg hx).2,e,hN]
  ·rintro⟨h1,h2⟩
   have hx:Rng g x:=by unfold Rng;omega
   have:=(qxS hg _ hd x hx).2 h2
   exact⟨this.1,fun e=>this.2 (by rw[e])⟩
 ·rename_i h
  rw[qw4,if_neg h]
end Go.Proofs.YtecoaapkcnhlhaaDoor
namespace Go.Proofs.YtecoaapkcnhlhaaDoor.Txt
open Go Go.Vc
set_option maxRecDepth 100000
def ac16:AC:=
 (.seq (.reg [0,31,0,1] [
 (aO 2 (.box (.t 0))),(aO 3 (.box (.t 1))),(aO 4 (.mv (.c (.sc (.bool false)))))])
 (.seq (.reg [0,31,2,3] [
 (aO 5 (.fa 0 (.t 2))),(aO 6 (.ld false 1 (.t 5))),(aO 7 (.fa 0 (.t 3))),(aO 8 (.ld false 1 (.t 7))),(aO 9 (.cal 36 [(.t 6),(.t 8)])),(aO 10 (.mv (.t 9))),⟨some 11,some (10,true),.fa 1 (.t 2)⟩,⟨some 12,some (10,true),.ld false 1 (.t 11)⟩,⟨some 13,some (10,true),.fa 1 (.t 3)⟩,⟨some 14,some (10,true),.ld false 1 (.t 13)⟩,⟨some 15,some (10,true),.cal 36 [(.t 12),(.t 14)]⟩,(aO 16 (.pick (.t 10) (.t 15) (.c (.sc (.bool false))))),(aO 17 (.mv (.t 16))),⟨some 18,some (17,true),.fa 2 (.t 2)⟩,⟨some 19,some (17,true),.ld false 1 (.t 18)⟩,⟨some 20,some (17,true),.fa 2 (.t 3)⟩,⟨some 21,some (17,true),.ld false 1 (.t 20)⟩,⟨some 22,some (17,true),.cal 36 [(.t 19),(.t 21)]⟩,(aO 23 (.pick (.t 17) (.t 22) (.c (.sc (.bool false))))),(aO 24 (.mv (.t 23))),⟨some 25,some (24,true),.fa 3 (.t 2)⟩,⟨some 26,some (24,true),.ld false 1 (.t 25)⟩,⟨some 27,some (24,true),.fa 3 (.t 3)⟩,⟨some 28,some (24,true),.ld false 1 (.t 27)⟩,⟨some 29,some (24,true),.cal 36 [(.t 26),(.t 28)]⟩,(aO 30 (.pick (.t 24) (.t 29) (.c (.sc (.bool false))))),(aO 4 (.mv (.t 30)))])
 .ret))
def rv16:List RV:=[.tmp 4]
theorem ok16:fnOk Tryd.prog ac16 rv16 Tryd.f16=true:=by kernel_rfl
end Go.Proofs.YtecoaapkcnhlhaaDoor.Txt
namespace Go.Proofs.YtecoaapkcnhlhaaDoor
open Go Go.Vc Txt
theorem qxZ(a b:List Int)(ha:(a.length:Int)<=1000000)(hb:(b.length:Int)<=1000000):FnEq Tryd.prog 36 [.sl false 1 (ints a),.sl false 1 (ints b)] (.bool (decide (a=b))):=by
 refine FnEq.of_awp Tryd.func36 ok36 (by show 2<=_;decide) (by simp only[push_cast,reduceIte,reduceEqDiff,reduceAdd,reduceSub,reduceMul,Nat.reduceBEq,reduceLT,reduceLeDiff,reduceCtorEq,reduceToNat,reduceNeg,cNI]<;>first|exact fun _ _=>trivial|simp) ?_
 simp only[ac36,rv36,push_cast,reduceIte,reduceEqDiff,reduceAdd,reduceSub,reduceMul,Nat.reduceBEq,reduceLT,reduceLeDiff,reduceCtorEq,reduceToNat,reduceNeg,cNI]
 refine qnU (fun h=> ?_) fun h=> ?_
 ·rw[decide_eq_false];intro e;exact h (by rw[e])
 have hab:a.length=b.length:=by omega
 refine qoL (fun m st=> ∃k:Nat,k<=a.length/\m=a.length-k/\a.take k=b.take k/\st=⟨[(0,.sl false 1 (ints a)),(1,.sl false 1 (ints b)),(5,.int k)],[],[],[]⟩) a.length ?_ ?_
 ·refine⟨0,by omega,by omega,by simp,?_⟩
  exact sC
 ·rintro m st ⟨k,hk,rfl,h1,rfl⟩
  refine sB ?_
  refine qnU (fun h2=> ?_) fun h2=> ?_
  ·have ka:k<a.length:=by omega
   have kb:k<b.length:=by omega
   have ga:a.getD k default=a[k]:=by simp[ka]
   have gb:b.getD k default=b[k]:=by simp[kb]
   rw[ga,gb]
   refine⟨⟨by omega,by omega⟩,ka,⟨by omega,by omega⟩,kb,qnU (fun h3=> ?_) fun h3=> ?_⟩
   ·rw[decide_eq_false];intro e;subst e;exact h3 rfl
   ·refine⟨⟨by omega,by omega⟩,_,?_,k+1,by omega,rfl,?_,?_⟩
    ·omega
    ·rw[List.take_succ_eq_append_getElem ka,List.take_succ_eq_append_getElem kb,h1,Classical.not_not.1 h3]
    ·simp
  ·rw[List.take_of_length_le (by omega),List.take_of_length_le (by omega)]at h1
   rw[decide_eq_true h1]
theorem qy0(g:Grid)(hg:GOk g):FnEq Tryd.prog 56 [.agg (quQ false g)] (.agg (cfgC true (qx5 g))):=by
 have h1:=hg.count
 have h2:=hg.wh
 have h3:=hg.kind
 refine FnEq.of_awp Tryd.func56 ok56 (by show 1<=_;decide) (by simp only[push_cast,reduceIte,reduceEqDiff,reduceAdd,reduceSub,reduceMul,Nat.reduceBEq,reduceLT,reduceLeDiff,reduceCtorEq,reduceToNat,reduceNeg,cNI]<;>first|exact fun _ _=>trivial|simp) ?_
 simp only[ac56,rv56,push_cast,reduceIte,reduceEqDiff,reduceAdd,reduceSub,reduceMul,Nat.reduceBEq,reduceLT,reduceLeDiff,reduceCtorEq,reduceToNat,reduceNeg,cNI]
 refine qrt (quY g hg) sC rfl ?_
 refine sB ?_
 refine⟨by omega,by omega,by omega,by omega,?_⟩
 simp only[qx5,push_cast,reduceIte,reduceEqDiff,reduceAdd,reduceSub,reduceMul,Nat.reduceBEq,reduceLT,reduceLeDiff,reduceCtorEq,reduceToNat,reduceNeg,cNI]
 exact⟨fun _ _=>trivial,fun _ _=>trivial⟩
def lvN(id:Nat):List Int->PV
 |[]=> .nil
 |x::l=> .view id 0 (x::l).length
def laN(id:Nat):List Int->List (Nat×Arr)
 |[]=>[]
 |x::l=>[(id,⟨1,3,ints (x::l)⟩)]
@[push_cast] theorem qy4(id:Nat):lvN id []= .nil:=rfl
@[push_cast] theorem qy5(id:Nat)(x:Int)(l:List Int):lvN id (x::l)= .view id 0 (l.length+1):=rfl
@[push_cast] theorem qy6(id:Nat):laN id []=[]:=rfl
@[push_cast] theorem qy7(id:Nat)(x:Int)(l:List Int):laN id (x::l)=[(id,⟨1,3,ints (x::l)⟩)]:=rfl
end Go.Proofs.YtecoaapkcnhlhaaDoor
namespace Go.Vc
end Go.Vc
namespace Go.Proofs.YtecoaapkcnhlhaaDoor
open Go Go.Vc Txt
end Go.Proofs.YtecoaapkcnhlhaaDoor
namespace Go.Vc
end Go.Vc
namespace Go.Proofs.YtecoaapkcnhlhaaDoor
open Go Go.Vc Txt
def lsC(l:List Int):List PV:=[.sl true 1 (ints l)]
@[push_cast] theorem qya(l:List Int):lsC l=[.sl true 1 (ints l)]:=rfl
structure CfgSm (c:Cfg):Prop where
 sel:(c.sel.length:Int)<=1000000
 mode:(c.mode.length:Int)<=1000000
 tab:(c.tab.length:Int)<=1000000
 ram:(c.ram.length:Int)<=1000000
end Go.Proofs.YtecoaapkcnhlhaaDoor
namespace Go.Proofs.YtecoaapkcnhlhaaDoor.Txt
open Go Go.Vc
set_option maxRecDepth 100000
def ac42b_r6:AC:=
 (.seq (.reg [0,40,0,1,2,3,9,10] [
 (aO 23 (.mv (.t 1))),(aO 24 (.cal 40 [(.t 23),(kI 0),(kI 3)])),(aO 25 (.mv (.t 24))),⟨some 26,some (25,true),.mv (.t 0)⟩,⟨some 27,some (25,true),.mv (.t 1)⟩,⟨some 28,some (25,true),.cal 67 [(.t 26),(.t 27)]⟩,(aO 29 (.pick (.t 25) (.t 28) (.c (.sc (.bool false))))),(aO 30 (.mv (.t 29))),⟨some 31,some (30,true),.mv (.t 2)⟩,⟨some 32,some (30,true),.mv (.t 9)⟩,⟨some 33,some (30,true),.cal 40 [(.t 31),(kI 0),(.t 32)]⟩,(aO 34 (.pick (.t 30) (.t 33) (.c (.sc (.bool false))))),(aO 35 (.mv (.t 34))),⟨some 36,some (35,true),.mv (.t 3)⟩,⟨some 37,some (35,true),.mv (.t 10)⟩,⟨some 38,some (35,true),.cal 40 [(.t 36),(kI 0),(.t 37)]⟩,(aO 39 (.pick (.t 35) (.t 38) (.c (.sc (.bool false))))),(aO 8 (.mv (.t 39)))])
 .ret)
def ac42b:AC:=
 (.seq (.reg [0,40,0,1,2,3] [
 (aO 8 (.mv (.c (.sc (.bool false)))))])
 (.seq (.reg [0,40,0,1,2,3] [
 (aO 9 (.mv (kI 0))),(aO 10 (.mv (kI 0)))])
 (.seq (.seq (.reg [0,40,0,1,2,3,9,10] [
 (aO 11 (.mv (.t 1))),(aO 12 (.cmp .eql .i64 (.t 11) (kI 1))),(aO 13 (.mv (.t 12))),⟨some 14,some (13,false),.mv (.t 1)⟩,⟨some 15,some (13,false),.cmp .eql .i64 (.t 14) (kI 2)⟩,(aO 16 (.pick (.t 13) (.c (.sc (.bool true))) (.t 15)))])
 (.cut [0,40,0,1,2,3,9,10,16] (.cond (.t 16)
 (.reg [0,40,0,1,2,3,10] [
 (aO 9 (.mv (kI 65535)))])
 .skip)))
 (.seq (.seq (.reg [0,40,0,1,2,3,9,10] [
 (aO 17 (.mv (.t 1))),(aO 18 (.cmp .eql .i64 (.t 17) (kI 2))),(aO 19 (.mv (.t 18))),⟨some 20,some (19,false),.mv (.t 1)⟩,⟨some 21,some (19,false),.cmp .eql .i64 (.t 20) (kI 3)⟩,(aO 22 (.pick (.t 19) (.c (.sc (.bool true))) (.t 21)))])
 (.cut [0,40,0,1,2,3,9,10,22] (.cond (.t 22)
 (.reg [0,40,0,1,2,3,9] [
 (aO 10 (.mv (kI 255)))])
 .skip)))
 ac42b_r6))))
def rv42b:List RV:=[.tmp 8]
theorem ok42b:fnOk Tryd.prog ac42b rv42b Tryd.f42=true:=by kernel_rfl
end Go.Proofs.YtecoaapkcnhlhaaDoor.Txt
namespace Go.Proofs.YtecoaapkcnhlhaaDoor
open Go Go.Vc Txt
def qyf(k m t r:Int):Prop:=(0<=m/\m<=3)/\qwR k m=true/\(0<=t/\t<=if m=1\/m=2 then 65535 else 0)/\(0<=r/\r<=if m=2\/m=3 then 255 else 0)
instance (k m t r:Int):Decidable (qyf k m t r):=by unfold qyf;infer_instance
set_option maxHeartbeats 2000000 in
theorem qyg(k m t r:Int):FnEq Tryd.prog 42 [.int k,.int m,.int t,.int r] (.bool (decide (qyf k m t r))):=by
 have key: ∀T R:Int,(T=if m=1\/m=2 then 65535 else 0)->(R=if m=2\/m=3 then 255 else 0)->(qyf k m t r ↔ (0<=m/\m<=3)/\qwR k m=true/\(0<=t/\t<=T)/\(0<=r/\r<=R)):=fun T R hT hR=>by rw[qyf,hT,hR]
 have fin : ∀ T R : Int, (T = if m = 1 \/ m = 2 then 65535 else 0) -> (R = if m = 2 \/ m = 3 then 255 else 0) -> ∀ {st : St}, st.keepS [0, 40, 0, 1, 2, 3, 9, 10] = ⟨[(0, .int k), (1, .int m), (2, .int t), (3, .int r), (9, .int T), (10, .int R)], [], [], []⟩ ->
   awp (Env.of Tryd.prog) ac42b_r6 (retK rv42b fun x=>Sub x (.bool (decide (qyf k m t r)))) st:=by
  intro T R hT hR st hst
  have hk:=key T R hT hR
  simp only[ac42b_r6,rv42b,push_cast,reduceIte,reduceEqDiff,reduceAdd,reduceSub,reduceMul,Nat.reduceBEq,reduceLT,reduceLeDiff,reduceCtorEq,reduceToNat,reduceNeg,cNI,hst]
  refine qoI (qwQ _ _ _) ?_
  refine sB ?_
  refine qrv rfl (fun w1=> ?_) fun w1=> ?_<;>simp only[push_cast,reduceIte,reduceEqDiff,reduceAdd,reduceSub,reduceMul,Nat.reduceBEq,reduceLT,reduceLeDiff,reduceCtorEq,reduceToNat,reduceNeg,cNI]
  rotate_left
  ·rw[decide_eq_false fun h=>w1 (hk.1 h).1]
  refine qoI (qwS _ _) ?_
  refine sB ?_
  refine qrx rfl (fun w2=> ?_) fun w2=> ?_<;>simp only[push_cast,reduceIte,reduceEqDiff,reduceAdd,reduceSub,reduceMul,Nat.reduceBEq,reduceLT,reduceLeDiff,reduceCtorEq,reduceToNat,reduceNeg,cNI]
  rotate_left
  ·rw[decide_eq_false fun h=>by have:=(hk.1 h).2.1;rw[w2]at this;cases this]
  refine qoI (qwQ _ _ _) ?_
  refine sB ?_
  refine qrv rfl (fun w3=> ?_) fun w3=> ?_<;>simp only[push_cast,reduceIte,reduceEqDiff,reduceAdd,reduceSub,reduceMul,Nat.reduceBEq,reduceLT,reduceLeDiff,reduceCtorEq,reduceToNat,reduceNeg,cNI]
  rotate_left
  ·rw[decide_eq_false fun h=>w3 (hk.1 h).2.2.1]
  refine qoI (qwQ _ _ _) ?_
  refine sB ?_
  rw[decide_eq_decide.2 (show(0<=r/\r<=R) ↔ qyf k m t r from⟨fun h=>hk.2 ⟨w1,w2,w3,h⟩,fun h=>(hk.1 h).2.2.2⟩)]
 refine FnEq.of_awp Tryd.func42 ok42b (by show 4<=_;decide) (by simp only[push_cast,reduceIte,reduceEqDiff,reduceAdd,reduceSub,reduceMul,Nat.reduceBEq,reduceLT,reduceLeDiff,reduceCtorEq,reduceToNat,reduceNeg,cNI]<;>first|exact fun _ _=>trivial|simp) ?_
 simp only[ac42b,push_cast,reduceIte,reduceEqDiff,reduceAdd,reduceSub,reduceMul,Nat.reduceBEq,reduceLT,reduceLeDiff,reduceCtorEq,reduceToNat,reduceNeg,cNI]
 cases e1:decide (m=1)<;>cases e2:decide (m=2)<;>cases e3:decide (m=3)
 all_goals have h1:=e1
 all_goals have h2:=e2
 all_goals have h3:=e3
 all_goals simp only[decide_eq_true_eq,decide_eq_false_iff_not]at h1 h2 h3
 all_goals first|(exfalso;omega)|skip
 all_goals simp only[e1,e2,e3,push_cast,reduceIte,reduceEqDiff,reduceAdd,reduceSub,reduceMul,Nat.reduceBEq,reduceLT,reduceLeDiff,reduceCtorEq,reduceToNat,reduceNeg,cNI]
 ·refine fin 0 0 (by rw[if_neg (by omega)]) (by rw[if_neg (by omega)]) ?_
  exact sC
 ·refine fin 0 255 (by rw[if_neg (by omega)]) (by rw[if_pos (by omega)]) ?_
  exact sC
 ·refine fin 65535 255 (by rw[if_pos (by omega)]) (by rw[if_pos (by omega)]) ?_
  exact sC
 ·refine fin 65535 0 (by rw[if_pos (by omega)]) (by rw[if_neg (by omega)]) ?_
  exact sC
def qyh(g:Grid)(c:Cfg):Prop:=(c.sel.length=(quV g).toNat/\c.mode.length=g.kind.length/\c.tab.length=g.kind.length/\c.ram.length=g.kind.length)/\
 (∀i,i<c.sel.length->c.sel.getD i 0≠0->1<=c.sel.getD i 0/\c.sel.getD i 0<=(qw4 g i).length)/\ ∀t,t<g.kind.length->qyf (g.kind.getD t 0) (c.mode.getD t 0) (c.tab.getD t 0) (c.ram.getD t 0)
open Classical in
noncomputable def validE (g:Grid) (c:Cfg):Int:=if qyh g c then 0 else 310
end Go.Proofs.YtecoaapkcnhlhaaDoor
