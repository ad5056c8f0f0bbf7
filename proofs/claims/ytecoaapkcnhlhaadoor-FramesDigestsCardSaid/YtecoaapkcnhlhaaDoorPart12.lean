/- ID HR IE HS VcZr IF TxtF HW HX TxtC: lemmas -/
import Derived.Test.YtecoaapkcnhlhaaDoorPart11
import Derived.Test.YtecoaapkcnhlhaaDoorPart10
import Derived.Test.YtecoaapkcnhlhaaDoorPart06
import Derived.Test.YtecoaapkcnhlhaaDoorChecked
set_option linter.unusedSimpArgs false
set_option linter.unusedVariables false
open Nat (reduceEqDiff reduceAdd reduceSub reduceMul reduceLT reduceLeDiff)
open Int (reduceToNat reduceNeg)
namespace Go.Proofs.YtecoaapkcnhlhaaDoor
open Go Go.Vc Txt
set_option maxHeartbeats 2000000 in
theorem qCT {E : Env} (hE : E.p = Tryd.prog) (hkk : E.kk <= 400) (hpn : ∀ ch st, ¬ E.pan ch st) {s : List (Nat × PV)} (hs : qtT 400 s = true) (g : Grid) (hg : GOk g) (iy ic ig cf : Nat) (v0 v1 v2 v3 : PV) (x frm n e : Nat) (he : e = frm + n)
  (B:Nat->List (Nat×List PV)) (A:Nat->List (Nat×Arr)) (m:List (Nat×Mp))
  (hB: ∀k,k<=n->lk (B k) iy=some [.yl 999]/\lk (B k) ic=some [.ptr cf 0]/\lk (B k) ig=some (quQ false g)/\lk (B k) cf=some [v0,v1,v2,v3])
  (hv: ∀k,k<=n->slOk (A k) v0) (hl:frm+n<=qCJ v0) (hb:frm+n<=1000000)
  (hf:iy<1000/\ic<1000/\ig<1000/\cf<1000) (hvv: ∀j,1000<=j->v0.toV (isId j) nul=false/\v0.toV nul (isId j)=false) (hv0: ∀n j,1000<=j->(qCI v0 n).to (isId j) nul=false/\(qCI v0 n).to nul (isId j)=false)
  (hY: ∀k,k<n-> ∀t:List (Nat×PV),qtT 1000 t=true->(∀x∈t,400<=x.1)->(∀j,1000<=j->farL j t)->E.Y 999 [.int x,.agg [qCI v0 (frm+k),.int (qC7 g (frm+k):Nat)]] ⟨s++t,B k,A k,m⟩ (fun st' =>st' =⟨s++t,B (k+1),A (k+1),m⟩)):
  FnM E 76 [.int x,.int frm,.int e,.ptr iy 0,.ptr ic 0,.ptr ig 0] ⟨s,B 0,A 0,m⟩ (fun r st' =>r= .bool true/\st' =⟨s,B n,A n,m⟩):=by
 refine qub 400 (by rw[hE];exact Tryd.func76) (by rw[hE];exact ok76_400) (by show 6<=_;decide) hs hkk ?_ hpn
 simp only[ac76_400,rv76_400,qCo hs,qCn hs,qCp hs,qCq hs,qCr hs,push_cast,reduceIte,reduceEqDiff,reduceAdd,reduceSub,reduceMul,Nat.reduceBEq,reduceLT,reduceLeDiff,reduceCtorEq,reduceToNat,reduceNeg,cNI]
 refine qoK (fun j st=> ∃k p:Nat,k<=n/\p=frm+k/\j=n-k/\st=⟨s++[(400,.int x),(402,.int e),(403,.ptr iy 0),(404,.ptr ic 0),(405,.ptr ig 0),(410,.int p)],B k,A k,m⟩) n ⟨_,SWk.refl _,0,frm,by omega,by omega,by omega,?_⟩ ?_
 ·simp only[qCn hs,qCp hs,qCq hs,push_cast,reduceIte,reduceEqDiff,reduceAdd,reduceSub,reduceMul,Nat.reduceBEq,reduceLT,reduceLeDiff,reduceCtorEq,reduceToNat,reduceNeg,cNI]
 rintro j st ⟨k,p,hk,hp,rfl,rfl⟩
 obtain⟨b1,b2,b3,b4⟩:=hB k hk
 simp only[qCo hs,qCn hs,qCp hs,qCq hs,qCr hs,b1,b2,b3,b4,push_cast,reduceIte,reduceEqDiff,reduceAdd,reduceSub,reduceMul,Nat.reduceBEq,reduceLT,reduceLeDiff,reduceCtorEq,reduceToNat,reduceNeg,cNI]
 refine qnU (fun h=> ?_) fun h=> ?_
 ·obtain⟨C,hC,hix⟩:=qCK (hv k hk) (n:=p) (by omega)
  obtain⟨p1,p2⟩:=qCL (hv k hk) p
  have hdl:=qxn g hg p
  simp only[hix,qCo hs,qCn hs,qCp hs,qCq hs,qCr hs,b1,b2,b3,b4,push_cast,reduceIte,reduceEqDiff,reduceAdd,reduceSub,reduceMul,Nat.reduceBEq,reduceLT,reduceLeDiff,reduceCtorEq,reduceToNat,reduceNeg,cNI]
  refine⟨hC,?_⟩
  refine qrt (by rw[hE];exact qw8 g hg p (by omega)) sC rfl ?_
  simp only[p1,p2,qCo hs,qCn hs,qCp hs,qCq hs,qCr hs,push_cast,reduceIte,reduceEqDiff,reduceAdd,reduceSub,reduceMul,Nat.reduceBEq,reduceLT,reduceLeDiff,reduceCtorEq,reduceToNat,reduceNeg,cNI]
  refine⟨⟨by omega,by omega⟩,?_⟩
  refine qrt (by rw[hE];exact qB9 (qw4 g p).length (by omega)) sC rfl ?_
  simp only[p1,p2,qCo hs,qCn hs,qCp hs,qCq hs,qCr hs,push_cast,reduceIte,reduceEqDiff,reduceAdd,reduceSub,reduceMul,Nat.reduceBEq,reduceLT,reduceLeDiff,reduceCtorEq,reduceToNat,reduceNeg,cNI]
  have hYk:=hY k (by omega)
  rw[<- hp]at hYk
  refine⟨_,hYk _ sC (by simp) (fun j hj=> ?_),?_⟩
  ·obtain⟨f1,f2,f3,f4⟩:=hf
   have n1:(iy==j)=false:=beq_false_of_ne (by omega)
   have n2:(ic==j)=false:=beq_false_of_ne (by omega)
   have n3:(ig==j)=false:=beq_false_of_ne (by omega)
   have n4:(cf==j)=false:=beq_false_of_ne (by omega)
   have n5:(999==j)=false:=beq_false_of_ne (by omega)
   obtain⟨q1,q2⟩:=hvv j hj
   obtain⟨q3,q4⟩:=hv0 p j hj
   simp only[n1,n2,n3,n4,n5,q1,q2,q3,q4,qCR,push_cast,reduceIte,reduceEqDiff,reduceAdd,reduceSub,reduceMul,Nat.reduceBEq,reduceLT,reduceLeDiff,reduceCtorEq,reduceToNat,reduceNeg,cNI]
  rintro _ rfl
  obtain⟨c1,c2,c3,c4⟩:=hB (k+1) (by omega)
  simp only[qCo hs,qCn hs,qCp hs,qCq hs,qCr hs,push_cast,reduceIte,reduceEqDiff,reduceAdd,reduceSub,reduceMul,Nat.reduceBEq,reduceLT,reduceLeDiff,reduceCtorEq,reduceToNat,reduceNeg,cNI]
  exact⟨⟨by omega,by omega⟩,_,SWk.refl _,n-(k+1),by omega,k+1,p+1,by omega,by omega,rfl,rfl⟩
 ·obtain rfl:k=n:=by omega
  rfl
end Go.Proofs.YtecoaapkcnhlhaaDoor
namespace Go.Proofs.YtecoaapkcnhlhaaDoor
open Go Go.Vc Go.Ham
structure FIn (g:Grid) (f:Fld):Prop where
 x:f.x<=wN g
 key:(f.kind=0/\f.i<cN g/\f.n=qC7 g f.i)\/(f.kind=1/\f.i<g.kind.length/\f.n=2)\/(f.kind=2/\f.i<g.kind.length/\f.n=16)\/(f.kind=3/\f.i<g.kind.length/\f.n=8)
theorem qCU{w h x y:Nat}(hx:x<w)(hy:y<h):y*w+x<w*h:=by
 have:(y+1)*w<=h*w:=Nat.mul_le_mul_right _ (by omega)
 rw[Nat.add_mul,Nat.one_mul]at this
 rw[Nat.mul_comm w h];omega
theorem qCV{e t j n:Nat}(ht:t<n)(hj:j<e):t*e+j<n*e:=by
 have:(t+1)*e<=n*e:=Nat.mul_le_mul_right _ (by omega)
 rw[Nat.add_mul,Nat.one_mul]at this
 omega
theorem qCW{g:Grid}(hg:GOk g){f:Fld}(h:f∈qCe g):FIn g f:=by
 have hn:=hg.n
 rcases List.mem_append.1 h with h|h
 ·simp only[qCc,qCb,List.mem_flatMap,List.mem_range]at h
  obtain⟨x,hx,y,hy,h⟩:=h
  have ht:=qCU hx hy
  rcases List.mem_append.1 h with h|h
  ·simp only[qC8,List.mem_map,List.mem_range]at h
   obtain⟨j,hj,rfl⟩:=h
   have:=qCV (e:=eN g) ht hj
   have:=hn.ce
   exact⟨by show x<=_;omega,.inl ⟨rfl,by show(y*wN g+x)*eN g+j<cN g;omega,rfl⟩⟩
  ·have hk:=hn.k
   simp only[qC9,List.mem_cons,List.not_mem_nil,or_false]at h
   rcases h with rfl|rfl|rfl
   ·exact⟨by show x<=_;omega,.inr (.inl ⟨rfl,by show y*wN g+x<g.kind.length;omega,rfl⟩)⟩
   ·exact⟨by show x<=_;omega,.inr (.inr (.inl ⟨rfl,by show y*wN g+x<g.kind.length;omega,rfl⟩))⟩
   ·exact⟨by show x<=_;omega,.inr (.inr (.inr ⟨rfl,by show y*wN g+x<g.kind.length;omega,rfl⟩))⟩
 ·simp only[qCd,qC8,List.mem_map,List.mem_range]at h
  obtain⟨j,hj,rfl⟩:=h
  exact⟨Nat.le_refl _,.inl ⟨rfl,by show wN g*hN g*eN g+j<cN g;omega,rfl⟩⟩
theorem qCX{g:Grid}(hg:GOk g){n:Nat}(h:n<cN g): ∃f∈qCe g,f.kind=0/\f.i=n/\f.x=(if n<wN g*hN g*eN g then n/eN g%wN g else wN g):=by
 have hn:=hg.n
 by_cases h2:n<wN g*hN g*eN g
 ·have he:=hn.e1
  have hw:=hn.w1
  have ht:n/eN g<wN g*hN g:=(Nat.div_lt_iff_lt_mul (by omega)).2 h2
  have hy:n/eN g/wN g<hN g:=(Nat.div_lt_iff_lt_mul (by omega)).2 (by rw[Nat.mul_comm];exact ht)
  have hd:n/eN g/wN g*wN g+n/eN g%wN g=n/eN g:=by rw[Nat.mul_comm];exact Nat.div_add_mod _ _
  have hd2:n/eN g*eN g+n%eN g=n:=by rw[Nat.mul_comm];exact Nat.div_add_mod _ _
  refine⟨⟨n/eN g%wN g,0,n,qC7 g n⟩,List.mem_append_left _ ?_,rfl,rfl,by rw[if_pos h2]⟩
  simp only[qCc,qCb,List.mem_flatMap,List.mem_range]
  refine⟨n/eN g%wN g,Nat.mod_lt _ (by omega),n/eN g/wN g,hy,List.mem_append_left _ ?_⟩
  simp only[qC8,List.mem_map,List.mem_range]
  refine⟨n%eN g,Nat.mod_lt _ (by omega),?_⟩
  rw[hd,hd2]
 ·refine⟨⟨wN g,0,n,qC7 g n⟩,List.mem_append_right _ ?_,rfl,rfl,by rw[if_neg h2]⟩
  simp only[qCd,qC8,List.mem_map,List.mem_range]
  refine⟨n-wN g*hN g*eN g,by omega,?_⟩
  rw[show wN g*hN g*eN g+(n-wN g*hN g*eN g)=n from by omega]
theorem qCY{g:Grid}(hg:GOk g){t:Nat}(h:t<g.kind.length){k:Nat}(hk:k=1\/k=2\/k=3): ∃f∈qCe g,f.kind=k/\f.i=t/\f.x=t%wN g:=by
 have hn:=hg.n
 have hw:=hn.w1
 rw[hn.k]at h
 have hy:t/wN g<hN g:=(Nat.div_lt_iff_lt_mul (by omega)).2 (by rw[Nat.mul_comm];exact h)
 have hd:t/wN g*wN g+t%wN g=t:=by rw[Nat.mul_comm];exact Nat.div_add_mod _ _
 have key: ∀f,f∈qC9 (t%wN g) t->f∈qCe g:=fun f hf=>by
  refine List.mem_append_left _ ?_
  simp only[qCc,qCb,List.mem_flatMap,List.mem_range]
  exact⟨t%wN g,Nat.mod_lt _ (by omega),t/wN g,hy,List.mem_append_right _ (by rw[hd];exact hf)⟩
 rcases hk with rfl|rfl|rfl
 ·exact⟨_,key ⟨t%wN g,1,t,2⟩ (by simp[qC9]),rfl,rfl,rfl⟩
 ·exact⟨_,key ⟨t%wN g,2,t,16⟩ (by simp[qC9]),rfl,rfl,rfl⟩
 ·exact⟨_,key ⟨t%wN g,3,t,8⟩ (by simp[qC9]),rfl,rfl,rfl⟩
def fkey(f:Fld):Nat×Nat:=(f.kind,f.i)
theorem qCZ{α:Type}(n:Nat)(f:Nat->α)(h: ∀i j,i<n->j<n->f i=f j->i=j):((List.range n).map f).Nodup:=by
 rw[List.Nodup,List.pairwise_map]
 refine List.Pairwise.imp_of_mem ?_ (List.nodup_range (n:=n))
 intro a b ha hb hab e
 exact hab (h a b (List.mem_range.1 ha) (List.mem_range.1 hb) e)
theorem qD0{α:Type}(n:Nat)(f:Nat->List α)(h1: ∀i,i<n->(f i).Nodup)(h2: ∀i j x,i<n->j<n->x∈f i->x∈f j->i=j):((List.range n).flatMap f).Nodup:=by
 induction n with
 |zero=>simp
 |succ n ih=>
   rw[List.range_succ,List.flatMap_append,List.nodup_append]
   refine⟨ih (fun i hi=>h1 i (by omega)) fun i j x hi hj=>h2 i j x (by omega) (by omega),by simpa using h1 n (by omega),?_⟩
   intro a ha b hb e
   subst e
   simp only[List.mem_flatMap,List.mem_range,List.mem_singleton]at ha hb
   obtain⟨i,hi,ha⟩:=ha
   obtain⟨j,rfl,hb⟩:=hb
   have:=h2 i j a (by omega) (by omega) ha hb
   omega
theorem qD1{g:Grid}(hg:GOk g):((qCe g).map fkey).Nodup:=by
 have hn:=hg.n
 have hw:=hn.w1
 have he:=hn.e1
 have hdiv: ∀t j,j<eN g->(t*eN g+j)/eN g=t:=fun t j hj=>by rw[Nat.mul_comm,Nat.mul_add_div (by omega),Nat.div_eq_of_lt hj];omega
 have hmod: ∀y x,x<wN g->(y*wN g+x)%wN g=x/\(y*wN g+x)/wN g=y:=fun y x hx=>by
  rw[Nat.mul_comm];exact⟨by rw[Nat.mul_add_mod,Nat.mod_eq_of_lt hx],by rw[Nat.mul_add_div (by omega),Nat.div_eq_of_lt hx];omega⟩
 have inT: ∀x t k,k∈(qCa g x t).map fkey->(k.1=0/\ ∃j,j<eN g/\k.2=t*eN g+j)\/((k.1=1\/k.1=2\/k.1=3)/\k.2=t):=fun x t k hk=>by
  simp only[qCa,List.map_append,List.mem_append,qC8,List.map_map,List.mem_map,List.mem_range,Function.comp,fkey]at hk
  rcases hk with⟨j,hj,rfl⟩|⟨f,hf,rfl⟩
  ·exact .inl ⟨rfl,j,hj,rfl⟩
  ·simp only[qC9,List.mem_cons,List.not_mem_nil,or_false]at hf
   rcases hf with rfl|rfl|rfl
   ·exact .inr ⟨.inl rfl,rfl⟩
   ·exact .inr ⟨.inr (.inl rfl),rfl⟩
   ·exact .inr ⟨.inr (.inr rfl),rfl⟩
 have sameT: ∀x t x' t' k,k∈(qCa g x t).map fkey->k∈(qCa g x' t').map fkey->t=t' :=fun x t x' t' k h1 h2=>by
  rcases inT x t k h1 with⟨a,j,hj,b⟩|⟨a,b⟩<;>rcases inT x' t' k h2 with⟨a',j',hj',b'⟩|⟨a',b'⟩
  ·have e1:=hdiv t j hj
   have e2:=hdiv t' j' hj'
   rw[<- b]at e1;rw[<- b']at e2
   omega
  ·omega
  ·omega
  ·omega
 have ndT: ∀x t,((qCa g x t).map fkey).Nodup:=fun x t=>by
  rw[qCa,List.map_append,List.nodup_append]
  refine⟨?_,?_,?_⟩
  ·rw[qC8,List.map_map]
   refine qCZ _ _ fun i j _ _ e=> ?_
   simp only[Function.comp,fkey,Prod.mk.injEq]at e
   omega
  ·simp[qC9,fkey]
  ·intro a ha b hb e
   subst e
   simp only[qC8,List.map_map,List.mem_map,Function.comp,fkey]at ha
   obtain⟨j,_,rfl⟩:=ha
   simp[qC9,fkey]at hb
 rw[qCe,List.map_append,List.nodup_append]
 refine⟨?_,?_,?_⟩
 ·rw[qCc,List.map_flatMap]
  refine qD0 _ _ (fun x hx=> ?_) fun i j k hi hj h1 h2=> ?_
  ·rw[qCb,List.map_flatMap]
   refine qD0 _ _ (fun y _=>ndT _ _) fun y y' k _ _ h1 h2=> ?_
   have:=sameT _ _ _ _ k h1 h2
   have e1:=(hmod y x hx).2
   have e2:=(hmod y' x hx).2
   rw[this]at e1;omega
  ·simp only[qCb,List.map_flatMap,List.mem_flatMap,List.mem_range]at h1 h2
   obtain⟨y,_,h1⟩:=h1
   obtain⟨y',_,h2⟩:=h2
   have:=sameT _ _ _ _ k h1 h2
   have e1:=(hmod y i hi).1
   have e2:=(hmod y' j hj).1
   rw[this]at e1;omega
 ·rw[qCd,qC8,List.map_map]
  refine qCZ _ _ fun i j _ _ e=> ?_
  simp only[Function.comp,fkey,Prod.mk.injEq]at e
  omega
 ·intro a ha b hb e
  subst e
  simp only[qCd,qC8,List.map_map,List.mem_map,List.mem_range,Function.comp,fkey]at hb
  obtain⟨j,hj,rfl⟩:=hb
  simp only[qCc,qCb,List.map_flatMap,List.mem_flatMap,List.mem_range]at ha
  obtain⟨x,hx,y,hy,ha⟩:=ha
  rcases inT _ _ _ ha with⟨_,j',hj',b⟩|⟨b,_⟩
  ·have:=qCV (e:=eN g) (qCU hx hy) hj'
   simp only at b
   omega
  ·simp at b
end Go.Proofs.YtecoaapkcnhlhaaDoor
namespace Go.Proofs.YtecoaapkcnhlhaaDoor
open Go Go.Vc Go.Ham Txt
def cfK(v0 v1 v2 v3:PV):Nat->PV
 |0=>v0
 |1=>v1
 |2=>v2
 |_=>v3
def farV(v:PV):Prop:=(∀j,1000<=j->v.toV (isId j) nul=false/\v.toV nul (isId j)=false)/\ ∀n j,1000<=j->(qCI v n).to (isId j) nul=false/\(qCI v n).to nul (isId j)=false
theorem qD2{k:Nat}{t:List (Nat×PV)}(h:(t.all fun x=>Nat.ble k x.1)=true): ∀x∈t,k<=x.1:=fun x hx=>Nat.le_of_ble_eq_true (List.all_eq_true.1 h x hx)
theorem qD3(g:Grid){pre:List Fld}(h:pre<+:qCd g):qCc g (wN g)++pre<+:qCe g:=by
 rw[qCe,List.prefix_append_right_inj]
 exact h
set_option maxHeartbeats 4000000 in
theorem qD4 {E : Env} (hE : E.p = Tryd.prog) (hkk : E.kk <= 200) (hpn : ∀ ch st, ¬ E.pan ch st) {s : List (Nat × PV)} (hs : qtT 200 s = true) (g : Grid) (hg : GOk g) (ic ig ie cf : Nat) (v0 v1 v2 v3 : PV)
  (b0:List (Nat×List PV)) (B:List Fld->List (Nat×List PV)) (A:List Fld->List (Nat×Arr))
  (hc1:(ic==204)=false) (hc2:(ig==204)=false) (hc3:(ie==204)=false) (hks:qiB (isId 204) nul s=s) (h0:up (qiC (isId 204) nul b0) 204 [.yl 999]=B [])
  (hB: ∀pre,pre<+:qCe g->lk (B pre) 204=some [.yl 999]/\lk (B pre) ic=some [.ptr cf 0]/\lk (B pre) ig=some (quQ false g)/\lk (B pre) ie=some [.int (quU g)]/\lk (B pre) cf=some [v0,v1,v2,v3])
  (hA: ∀pre,pre<+:qCe g->slOk (A pre) v0/\slOk (A pre) v1/\slOk (A pre) v2/\slOk (A pre) v3)
  (hl:qCJ v0=cN g/\qCJ v1=wN g*hN g/\qCJ v2=wN g*hN g/\qCJ v3=wN g*hN g)
  (hf:ic<1000/\ig<1000/\ie<1000/\cf<1000) (hfv:farV v0/\farV v1/\farV v2/\farV v3)
  (hY: ∀pre f,pre++[f]<+:qCe g-> ∀t:List (Nat×PV),qtT 1000 t=true->(∀x∈t,200<=x.1)->(∀j,1000<=j->farL j t)->E.Y 999 [.int f.x,.agg [qCI (cfK v0 v1 v2 v3 f.kind) f.i,.int f.n]] ⟨s++t,B pre,A pre,[]⟩ (fun st' =>st' =⟨s++t,B (pre++[f]),A (pre++[f]),[]⟩)):
  FnM E 75 [.yl 999,.ptr ic 0,.ptr ig 0,.ptr ie 0] ⟨s,b0,A [],[]⟩ (fun _ st' =>st' =⟨s,B (qCe g),A (qCe g),[]⟩):=by
 have hn:=hg.n
 have hfar: ∀j,1000<=j->(204==j)=false/\(999==j)=false/\(ic==j)=false/\(ig==j)=false/\(ie==j)=false/\(cf==j)=false:=by
  obtain⟨f1,f2,f3,f4⟩:=hf
  exact fun j hj=>⟨beq_false_of_ne (by omega),beq_false_of_ne (by omega),beq_false_of_ne (by omega),beq_false_of_ne (by omega),beq_false_of_ne (by omega),beq_false_of_ne (by omega)⟩
 obtain⟨fv0,fv1,fv2,fv3⟩:=hfv
 have hk2: ∀t,qiB (isId 204) nul (s++t)=s++qiB (isId 204) nul t:=fun t=>by rw[qCS,hks]
 refine qub 200 (by rw[hE];exact Tryd.func75) (by rw[hE];exact ok75_200) (by show 4<=_;decide) hs hkk ?_ hpn
 simp only[ac75_200,rv75_200,qCo hs,qCn hs,qCp hs,qCq hs,qCr hs,hk2,h0,hc1,hc2,hc3,push_cast,reduceIte,reduceEqDiff,reduceAdd,reduceSub,reduceMul,Nat.reduceBEq,reduceLT,reduceLeDiff,reduceCtorEq,reduceToNat,reduceNeg,cNI]
 obtain⟨b0,b1,b2,b3,b4⟩:=hB [] List.nil_prefix
 simp only[qCo hs,qCn hs,qCp hs,qCq hs,qCr hs,b0,b1,b2,b3,b4,push_cast,reduceIte,reduceEqDiff,reduceAdd,reduceSub,reduceMul,Nat.reduceBEq,reduceLT,reduceLeDiff,reduceCtorEq,reduceToNat,reduceNeg,cNI]
 refine qoK (fun j st=> ∃x:Nat,x<=wN g/\j=wN g-x/\st=⟨s++[(201,.ptr ic 0),(202,.ptr ig 0),(203,.ptr ie 0),(204,.ptr 204 0),(205,.clo 76 [204,ic,ig]),(211,.int (wN g)),(212,.int x)],B (qCc g x),A (qCc g x),[]⟩) (wN g) ⟨_,SWk.refl _,0,by omega,by omega,?_⟩ ?_
 ·simp only[qCn hs,qCp hs,qCq hs,hn.w,push_cast,reduceIte,reduceEqDiff,reduceAdd,reduceSub,reduceMul,Nat.reduceBEq,reduceLT,reduceLeDiff,reduceCtorEq,reduceToNat,reduceNeg,cNI]
  rfl
 rintro j st ⟨x,hx,rfl,rfl⟩
 simp only[qCo hs,qCn hs,qCp hs,qCq hs,qCr hs,push_cast,reduceIte,reduceEqDiff,reduceAdd,reduceSub,reduceMul,Nat.reduceBEq,reduceLT,reduceLeDiff,reduceCtorEq,reduceToNat,reduceNeg,cNI]
 refine qnU (fun h=> ?_) fun h=> ?_
 ·obtain⟨b0,b1,b2,b3,b4⟩:=hB _ ((qCh g hx).trans (List.prefix_append _ _))
  simp only[b0,b1,b2,b3,b4,qCo hs,qCn hs,qCp hs,qCq hs,qCr hs,hk2,hc1,hc2,hc3,push_cast,reduceIte,reduceEqDiff,reduceAdd,reduceSub,reduceMul,Nat.reduceBEq,reduceLT,reduceLeDiff,reduceCtorEq,reduceToNat,reduceNeg,cNI]
  refine qoK (fun j st=> ∃y:Nat,y<=hN g/\j=hN g-y/\st=⟨s++[(201,.ptr ic 0),(202,.ptr ig 0),(203,.ptr ie 0),(204,.ptr 204 0),(205,.clo 76 [204,ic,ig]),(206,.int x),(211,.int (wN g)),(212,.int x),(216,.int (hN g)),(217,.int y)],B (qCc g x++qCb g x y),A (qCc g x++qCb g x y),[]⟩) (hN g) ⟨_,SWk.refl _,0,by omega,by omega,?_⟩ ?_
  ·rw[show qCc g x++qCb g x 0=qCc g x from List.append_nil _]
   simp only[hn.h,qCo hs,qCn hs,qCp hs,qCq hs,qCr hs,hk2,hc1,hc2,hc3,push_cast,reduceIte,reduceEqDiff,reduceAdd,reduceSub,reduceMul,Nat.reduceBEq,reduceLT,reduceLeDiff,reduceCtorEq,reduceToNat,reduceNeg,cNI]
  rintro j st ⟨y,hy,rfl,rfl⟩
  simp only[qCo hs,qCn hs,qCp hs,qCq hs,qCr hs,hk2,hc1,hc2,hc3,push_cast,reduceIte,reduceEqDiff,reduceAdd,reduceSub,reduceMul,Nat.reduceBEq,reduceLT,reduceLeDiff,reduceCtorEq,reduceToNat,reduceNeg,cNI]
  refine qnU (fun h2=> ?_) fun h2=> ?_
  ·have hx' :x<wN g:=by omega
   have hy' :y<hN g:=by omega
   have hp:=qCj hx' hy'
   obtain⟨t,ht⟩: ∃t,t=y*wN g+x:=⟨_,rfl⟩
   obtain⟨q,hq⟩: ∃q,q=t*eN g:=⟨_,rfl⟩
   obtain⟨r,hr⟩: ∃r,r=q+eN g:=⟨_,rfl⟩
   have htI:(y:Int)*g.w+x=t:=by rw[ht,Int.natCast_add,Int.natCast_mul,hn.w]
   have hqI:(t:Int)*quU g=q:=by rw[hq,Int.natCast_mul,hn.e]
   have hrI:((t:Int)+1)*quU g=r:=by rw[hr,Int.natCast_add,Int.add_mul,hqI,hn.e,Int.one_mul]
   have ht1:t+1<=wN g*hN g:=by
    have h3:(y+1)*wN g<=hN g*wN g:=Nat.mul_le_mul_right _ hy'
    rw[Nat.add_mul,Nat.one_mul,Nat.mul_comm (hN g)]at h3
    omega
   have hr1:r<=wN g*hN g*eN g:=by
    have h3:=Nat.mul_le_mul_right (eN g) ht1
    rw[Nat.add_mul,Nat.one_mul,<- hq,<- hr]at h3
    exact h3
   have hce:=hn.ce
   have hw2:=hn.w2
   have hh2:=hn.h2
   have he2:=hn.e2
   have hwh2:wN g*hN g<=64*64:=Nat.mul_le_mul hw2 hh2
   have hr2:wN g*hN g*eN g<=4096*134:=Nat.mul_le_mul hwh2 he2
   have hyw:(0:Int)<=y*g.w:=Int.mul_nonneg (by omega) (by have:=hn.w;omega)
   rw[<- ht]at hp
   generalize hpre:qCc g x++qCb g x y=pre at hp ⊢
   have hp1:pre++qC8 g x q (eN g)++[⟨x,1,t,2⟩]++[⟨x,2,t,16⟩]++[⟨x,3,t,8⟩]<+:qCe g:=by
    rw[qCa,<- hq]at hp
    simpa[qC9]using hp
   have hp2:=(List.prefix_append _ _).trans hp1
   have hp3:=(List.prefix_append _ _).trans hp2
   have hp4:=(List.prefix_append _ _).trans hp3
   have hp5:=(List.prefix_append _ _).trans hp4
   obtain⟨b0,b1,b2,b3,b4⟩:=hB _ hp5
   simp only[b0,b1,b2,b3,b4,htI,hqI,hrI,qCo hs,qCn hs,qCp hs,qCq hs,qCr hs,hk2,hc1,hc2,hc3,push_cast,reduceIte,reduceEqDiff,reduceAdd,reduceSub,reduceMul,Nat.reduceBEq,reduceLT,reduceLeDiff,reduceCtorEq,reduceToNat,reduceNeg,cNI]
   refine⟨⟨by omega,by omega⟩,⟨by omega,by omega⟩,⟨by omega,by omega⟩,⟨by omega,by omega⟩,⟨by omega,by omega⟩,?_⟩
   have hsel:=qCT hE (by omega) hpn (s:=s++[(201,.ptr ic 0),(202,.ptr ig 0),(203,.ptr ie 0),(204,.ptr 204 0),(205,.clo 76 [204,ic,ig]),(206,.int x),(208,.int t),(211,.int (wN g)),(212,.int x),(216,.int (hN g)),(217,.int y),(226,.clo 76 [204,ic,ig]),(227,.int x),(228,.int t),(229,.int (quU g)),(230,.int q),(231,.int t),(232,.int ((t:Int)+1)),(233,.int (quU g)),(234,.int r)]) (by rw[qCs hs _ _ (by omega)];rfl) g hg 204 ic ig cf v0 v1 v2 v3 x q (eN g) r hr (fun k=>B (pre++qC8 g x q k)) (fun k=>A (pre++qC8 g x q k)) []
    (fun k hk=>by
     obtain⟨b0,b1,b2,b3,b4⟩:=hB _ (((List.prefix_append_right_inj pre).2 (qCl g x q hk)).trans hp4)
     exact⟨b0,b1,b2,b4⟩)
    (fun k hk=>(hA _ (((List.prefix_append_right_inj pre).2 (qCl g x q hk)).trans hp4)).1)
    (by omega) (by omega) ⟨by omega,hf.1,hf.2.1,hf.2.2.2⟩ fv0.1 fv0.2
    (fun k hk t ht h4 hft=>by
     have h5:=hY (pre++qC8 g x q k) ⟨x,0,q+k,qC7 g (q+k)⟩ (by rw[List.append_assoc,<- qCk];exact((List.prefix_append_right_inj pre).2 (qCl g x q hk)).trans hp4)
     rw[List.append_assoc,<- qCk]at h5
     rw[List.append_assoc]
     exact h5 _ (by simp only[ht,push_cast,reduceIte,reduceEqDiff,reduceAdd,reduceSub,reduceMul,Nat.reduceBEq,reduceLT,reduceLeDiff,reduceCtorEq,reduceToNat,reduceNeg,cNI]) (by
      intro z hz
      rcases List.mem_append.1 hz with hz|hz
      ·exact qD2 (k:=200) rfl z hz
      ·have:=h4 z hz;omega) (by
      intro j hj
      obtain⟨n1,n2,n3,n4,n5,n6⟩:=hfar j hj
      simp only[qCO,n1,n2,n3,n4,n5,n6,hft j hj,push_cast,reduceIte,reduceEqDiff,reduceAdd,reduceSub,reduceMul,Nat.reduceBEq,reduceLT,reduceLeDiff,reduceCtorEq,reduceToNat,reduceNeg,cNI]))
   simp only[show qC8 g x q 0=[]from rfl,List.append_nil]at hsel
   refine qsL hsel ?_
   obtain⟨C1,hC1,hx1⟩:=qCK (hA _ hp4).2.1 (n:=t) (by omega)
   obtain⟨C2,hC2,hx2⟩:=qCK (hA _ hp3).2.2.1 (n:=t) (by omega)
   obtain⟨C3,hC3,hx3⟩:=qCK (hA _ hp2).2.2.2 (n:=t) (by omega)
   obtain⟨p1,p2⟩:=qCL (hA _ hp4).2.1 t
   obtain⟨p3,p4⟩:=qCL (hA _ hp3).2.2.1 t
   obtain⟨p5,p6⟩:=qCL (hA _ hp2).2.2.2 t
   have y1:=hY _ _ hp3
   have y2:=hY _ _ hp2
   have y3:=hY _ _ hp1
   obtain⟨c0,c1,c2,c3,c4⟩:=hB _ hp4
   obtain⟨d0,d1,d2,d3,d4⟩:=hB _ hp3
   obtain⟨e0,e1,e2,e3,e4⟩:=hB _ hp2
   simp only[c0,c1,c2,c3,c4,hx1,p1,p2,qCo hs,qCn hs,qCp hs,qCq hs,qCr hs,hk2,hc1,hc2,hc3,push_cast,reduceIte,reduceEqDiff,reduceAdd,reduceSub,reduceMul,Nat.reduceBEq,reduceLT,reduceLeDiff,reduceCtorEq,reduceToNat,reduceNeg,cNI]
   refine⟨hC1,_,y1 _ sC (qD2 rfl) (fun j hj=>by
    obtain⟨n1,n2,n3,n4,n5,n6⟩:=hfar j hj
    simp only[n1,n2,n3,n4,n5,n6,qCR,(fv1.1 j hj).1,(fv1.1 j hj).2,(fv1.2 t j hj).1,(fv1.2 t j hj).2,push_cast,reduceIte,reduceEqDiff,reduceAdd,reduceSub,reduceMul,Nat.reduceBEq,reduceLT,reduceLeDiff,reduceCtorEq,reduceToNat,reduceNeg,cNI]),?_⟩
   rintro _ rfl
   simp only[d0,d1,d2,d3,d4,hx2,p3,p4,qCo hs,qCn hs,qCp hs,qCq hs,qCr hs,hk2,hc1,hc2,hc3,push_cast,reduceIte,reduceEqDiff,reduceAdd,reduceSub,reduceMul,Nat.reduceBEq,reduceLT,reduceLeDiff,reduceCtorEq,reduceToNat,reduceNeg,cNI]
   refine⟨hC2,_,y2 _ sC (qD2 rfl) (fun j hj=>by
    obtain⟨n1,n2,n3,n4,n5,n6⟩:=hfar j hj
    simp only[n1,n2,n3,n4,n5,n6,qCR,(fv1.1 j hj).1,(fv1.1 j hj).2,(fv1.2 t j hj).1,(fv1.2 t j hj).2,(fv2.1 j hj).1,(fv2.1 j hj).2,(fv2.2 t j hj).1,(fv2.2 t j hj).2,push_cast,reduceIte,reduceEqDiff,reduceAdd,reduceSub,reduceMul,Nat.reduceBEq,reduceLT,reduceLeDiff,reduceCtorEq,reduceToNat,reduceNeg,cNI]),?_⟩
   rintro _ rfl
   generalize hKK:Exit.thn (awp E (AC.cut _ _) _) _=KK
   simp only[e0,e1,e2,e3,e4,qCo hs,qCn hs,qCp hs,qCq hs,qCr hs,hk2,hc1,hc2,hc3,push_cast,reduceIte,reduceEqDiff,reduceAdd,reduceSub,reduceMul,Nat.reduceBEq,reduceLT,reduceLeDiff,reduceCtorEq,reduceToNat,reduceNeg,cNI]
   rw[hx3]
   simp only[p5,p6,qCo hs,qCn hs,qCp hs,qCq hs,qCr hs,hk2,hc1,hc2,hc3,push_cast,reduceIte,reduceEqDiff,reduceAdd,reduceSub,reduceMul,Nat.reduceBEq,reduceLT,reduceLeDiff,reduceCtorEq,reduceToNat,reduceNeg,cNI]
   refine⟨hC3,_,y3 _ sC (qD2 rfl) (fun j hj=>by
    obtain⟨n1,n2,n3,n4,n5,n6⟩:=hfar j hj
    simp only[n1,n2,n3,n4,n5,n6,qCR,(fv1.1 j hj).1,(fv1.1 j hj).2,(fv1.2 t j hj).1,(fv1.2 t j hj).2,(fv2.1 j hj).1,(fv2.1 j hj).2,(fv2.2 t j hj).1,(fv2.2 t j hj).2,(fv3.1 j hj).1,(fv3.1 j hj).2,(fv3.2 t j hj).1,(fv3.2 t j hj).2,push_cast,reduceIte,reduceEqDiff,reduceAdd,reduceSub,reduceMul,Nat.reduceBEq,reduceLT,reduceLeDiff,reduceCtorEq,reduceToNat,reduceNeg,cNI]),?_⟩
   rintro _ rfl
   simp only[qCo hs,qCn hs,qCp hs,qCq hs,qCr hs,hk2,hc1,hc2,hc3,push_cast,reduceIte,reduceEqDiff,reduceAdd,reduceSub,reduceMul,Nat.reduceBEq,reduceLT,reduceLeDiff,reduceCtorEq,reduceToNat,reduceNeg,cNI]
   subst hKK
   rw[qnL]
   simp only[qCo hs,qCn hs,qCp hs,qCq hs,qCr hs,hk2,hc1,hc2,hc3,push_cast,reduceIte,reduceEqDiff,reduceAdd,reduceSub,reduceMul,Nat.reduceBEq,reduceLT,reduceLeDiff,reduceCtorEq,reduceToNat,reduceNeg,cNI]
   refine⟨⟨by omega,by omega⟩,_,SWk.refl _,hN g-(y+1),by omega,y+1,by omega,rfl,?_⟩
   rw[qCg,<- List.append_assoc,hpre,qCa,qC9,<- ht,<- hq]
   simp only[List.append_assoc,List.cons_append,List.nil_append]
   rfl
  ·obtain rfl:y=hN g:=by omega
   have hw2:=hn.w2
   rw[<- qCf]
   exact⟨⟨by omega,by omega⟩,_,SWk.refl _,wN g-(x+1),by omega,x+1,by omega,rfl,rfl⟩
 ·obtain⟨b0,b1,b2,b3,b4⟩:=hB _ ((qCh g hx).trans (List.prefix_append _ _))
  simp only[b0,b1,b2,b3,b4,qCo hs,qCn hs,qCp hs,qCq hs,qCr hs,hk2,hc1,hc2,hc3,push_cast,reduceIte,reduceEqDiff,reduceAdd,reduceSub,reduceMul,Nat.reduceBEq,reduceLT,reduceLeDiff,reduceCtorEq,reduceToNat,reduceNeg,cNI]
  obtain rfl:x=wN g:=by omega
  have hc:=hn.c
  have hall:=hn.all
  have hce:=hn.ce
  have hwh2:wN g*hN g<=64*64:=Nat.mul_le_mul hn.w2 hn.h2
  have hr2:wN g*hN g*eN g<=4096*134:=Nat.mul_le_mul hwh2 hn.e2
  obtain⟨q,hq⟩: ∃q,q=wN g*hN g*eN g:=⟨_,rfl⟩
  have hwh:g.w*g.h=((wN g*hN g:Nat):Int):=by rw[Int.natCast_mul,hn.w,hn.h]
  have hqI:g.w*g.h*quU g=q:=by rw[hq,Int.natCast_mul,hwh,hn.e]
  have hcb:=hg.count
  have hpq:=hg.pads
  have hsel := qCT hE (by omega) hpn (s := s ++ [(202, .ptr ig 0), (203, .ptr ie 0), (205, .clo 76 [204, ic, ig]), (278, .clo 76 [204, ic, ig]), (279, .ptr ig 0), (280, .int g.w), (281, .ptr ig 0), (282, .int g.w), (283, .ptr ig 1), (284, .int g.h), (285, .int (g.w * g.h)), (286, .int (quU g)), (287, .int q), (288, .agg (quQ false g)), (289, .int (quV g))]) (by rw [qCs hs _ _ (by omega)]; rfl) g hg 204 ic ig cf v0 v1 v2 v3 (wN g) q (cN g - q) (cN g) (by omega) (fun k => B (qCc g (wN g) ++ qC8 g (wN g) q k)) (fun k => A (qCc g (wN g) ++ qC8 g (wN g) q k)) []
    (fun k hk=>by
     obtain⟨b0,b1,b2,b3,b4⟩:=hB _ (qD3 g (by rw[qCd,<- hq];exact qCl g _ q hk))
     exact⟨b0,b1,b2,b4⟩)
    (fun k hk=>(hA _ (qD3 g (by rw[qCd,<- hq];exact qCl g _ q hk))).1)
    (by omega) (by omega) ⟨by omega,hf.1,hf.2.1,hf.2.2.2⟩ fv0.1 fv0.2
    (fun k hk t ht h4 hft=>by
     have h5:=hY (qCc g (wN g)++qC8 g (wN g) q k) ⟨wN g,0,q+k,qC7 g (q+k)⟩ (by rw[List.append_assoc,<- qCk];exact qD3 g (by rw[qCd,<- hq];exact qCl g _ q hk))
     rw[List.append_assoc,<- qCk]at h5
     rw[List.append_assoc]
     exact h5 _ (by simp only[ht,push_cast,reduceIte,reduceEqDiff,reduceAdd,reduceSub,reduceMul,Nat.reduceBEq,reduceLT,reduceLeDiff,reduceCtorEq,reduceToNat,reduceNeg,cNI]) (by
      intro z hz
      rcases List.mem_append.1 hz with hz|hz
      ·exact qD2 (k:=200) rfl z hz
      ·have:=h4 z hz;omega) (by
      intro j hj
      obtain⟨n1,n2,n3,n4,n5,n6⟩:=hfar j hj
      simp only[qCO,n1,n2,n3,n4,n5,n6,hft j hj,push_cast,reduceIte,reduceEqDiff,reduceAdd,reduceSub,reduceMul,Nat.reduceBEq,reduceLT,reduceLeDiff,reduceCtorEq,reduceToNat,reduceNeg,cNI]))
  simp only[show qC8 g (wN g) q 0=[]from rfl,List.append_nil]at hsel
  rw[hqI]
  refine⟨⟨by omega,by omega⟩,⟨by omega,by omega⟩,?_⟩
  refine qrt (by rw[hE];exact quY g hg) sC rfl ?_
  simp only[qCo hs,qCn hs,qCp hs,qCq hs,qCr hs,hk2,hc1,hc2,hc3,push_cast,reduceIte,reduceEqDiff,reduceAdd,reduceSub,reduceMul,Nat.reduceBEq,reduceLT,reduceLeDiff,reduceCtorEq,reduceToNat,reduceNeg,cNI]
  rw[hn.w,hn.c]at hsel
  refine qsL hsel ?_
  simp only[qCo hs,qCn hs,qCp hs,qCq hs,qCr hs,hk2,hc1,hc2,hc3,push_cast,reduceIte,reduceEqDiff,reduceAdd,reduceSub,reduceMul,Nat.reduceBEq,reduceLT,reduceLeDiff,reduceCtorEq,reduceToNat,reduceNeg,cNI]
  rw[qCe,qCd,<- hq]
end Go.Proofs.YtecoaapkcnhlhaaDoor
namespace Go.Proofs.YtecoaapkcnhlhaaDoor
open Go Go.Vc Go.Ham
def cfgI(c:Cfg)(k i:Nat):Int:=if k=0 then c.sel.getD i 0 else if k=1 then c.mode.getD i 0 else if k=2 then c.tab.getD i 0 else c.ram.getD i 0
def cfgV(c:Cfg)(k i:Nat):Nat:=(cfgI c k i).toNat
def qD5(c:Cfg)(k i:Nat)(v:Int):Cfg:=if k=0 then { c with sel:=c.sel.set i v } else if k=1 then { c with mode:=c.mode.set i v } else if k=2 then { c with tab:=c.tab.set i v } else { c with ram:=c.ram.set i v }
def keyIn(g:Grid)(k i:Nat):Prop:=(k=0/\i<cN g)\/((k=1\/k=2\/k=3)/\i<g.kind.length)
theorem FIn.keyIn{g:Grid}{f:Fld}(h:FIn g f):keyIn g f.kind f.i:=by
 rcases h.key with⟨a,b,_⟩|⟨a,b,_⟩|⟨a,b,_⟩|⟨a,b,_⟩
 ·exact .inl ⟨a,b⟩
 ·exact .inr ⟨.inl a,b⟩
 ·exact .inr ⟨.inr (.inl a),b⟩
 ·exact .inr ⟨.inr (.inr a),b⟩
theorem CfgLn.lens{g:Grid}{c:Cfg}(h:CfgLn g c):c.sel.length=cN g/\c.mode.length=g.kind.length/\c.tab.length=g.kind.length/\c.ram.length=g.kind.length:=h
theorem qD6{g:Grid}{c:Cfg}(h:CfgLn g c)(k i:Nat)(v:Int):CfgLn g (qD5 c k i v):=by
 obtain⟨h1,h2,h3,h4⟩:=h
 unfold qD5
 repeat' split
 all_goals (refine⟨?_,?_,?_,?_⟩<;>simp[*])
theorem qD7(l:List Int)(i j:Nat)(v:Int)(h:i<l.length):(l.set i v).getD j 0=if i=j then v else l.getD j 0:=by
 simp only[List.getD_eq_getElem?_getD,List.getElem?_set]
 split
 ·subst_vars;simp[h]
 ·rfl
theorem qD8{g:Grid}{c:Cfg}(hl:CfgLn g c){k i k' i' :Nat}(h:keyIn g k i)(h' :keyIn g k' i')(v:Int):cfgI (qD5 c k i v) k' i' =if k=k' /\i=i' then v else cfgI c k' i' :=by
 obtain⟨h1,h2,h3,h4⟩:=hl.lens
 rcases h with⟨rfl,h⟩|⟨rfl|rfl|rfl,h⟩<;>rcases h' with⟨rfl,h'⟩|⟨rfl|rfl|rfl,h'⟩<;>simp[cfgI,qD5,-List.getD_eq_getElem?_getD]<;>(rw[qD7 _ _ _ _ (by omega)])
theorem qD9 {g : Grid} : ∀ (rl : List (Fld × Nat)) (c : Cfg), CfgLn g c -> (∀ p ∈ rl, keyIn g p.1.kind p.1.i) -> (rl.map fun p => fkey p.1).Nodup ->
  CfgLn g (rl.foldl (fun c p=>qD5 c p.1.kind p.1.i p.2) c)/\(∀p∈rl,cfgI (rl.foldl (fun c p=>qD5 c p.1.kind p.1.i p.2) c) p.1.kind p.1.i=p.2)/\
  ∀k i,keyIn g k i->(k,i)∉rl.map (fun p=>fkey p.1)->cfgI (rl.foldl (fun c p=>qD5 c p.1.kind p.1.i p.2) c) k i=cfgI c k i
 |[],c,h,_,_=>⟨h,fun p hp=>(by cases hp),fun _ _ _ _=>rfl⟩
 | q :: r, c, h, hk, hn => by
   rw[List.map_cons,List.nodup_cons]at hn
   obtain⟨a1,a2,a3⟩:=qD9 r (qD5 c q.1.kind q.1.i q.2) (qD6 h _ _ _) (fun p hp=>hk p (List.mem_cons_of_mem _ hp)) hn.2
   have hq:=hk q List.mem_cons_self
   refine⟨a1,fun p hp=> ?_,fun k i h1 h2=> ?_⟩
   ·rcases List.mem_cons.1 hp with rfl|hp
    ·rw[List.foldl_cons,a3 _ _ hq hn.1,qD8 h hq hq,if_pos ⟨rfl,rfl⟩]
    ·exact a2 p hp
   ·rw[List.map_cons,List.mem_cons,not_or]at h2
    rw[List.foldl_cons,a3 k i h1 h2.2,qD8 h hq h1,if_neg]
    rintro⟨rfl,rfl⟩
    exact h2.1 rfl
theorem ext0{l m:List Int}{n:Nat}(hl:l.length=n)(hm:m.length=n)(h: ∀i,i<n->l.getD i 0=m.getD i 0):l=m:=by
 apply List.ext_getElem (by omega)
 intro i h1 h2
 have:=h i (by omega)
 simpa[List.getD_eq_getElem?_getD,h1,h2]using this
theorem qDa{g:Grid}{c d:Cfg}(hc:CfgLn g c)(hd:CfgLn g d)(h: ∀k i,keyIn g k i->cfgI c k i=cfgI d k i):c=d:=by
 obtain⟨a1,a2,a3,a4⟩:=hc.lens
 obtain⟨b1,b2,b3,b4⟩:=hd.lens
 have e1:=ext0 a1 b1 fun i hi=>h 0 i (.inl ⟨rfl,hi⟩)
 have e2:=ext0 a2 b2 fun i hi=>h 1 i (.inr ⟨.inl rfl,hi⟩)
 have e3:=ext0 a3 b3 fun i hi=>h 2 i (.inr ⟨.inr (.inl rfl),hi⟩)
 have e4:=ext0 a4 b4 fun i hi=>h 3 i (.inr ⟨.inr (.inr rfl),hi⟩)
 cases c;cases d
 simp only at e1 e2 e3 e4
 rw[e1,e2,e3,e4]
theorem qDb(g:Grid):CfgLn g (qx5 g):=by refine⟨?_,?_,?_,?_⟩<;>simp[qx5]
def decC(g:Grid)(S:Nat->List Bool):Cfg:=(qBR (qCe g) S).foldl (fun c p=>qD5 c p.1.kind p.1.i p.2) (qx5 g)
theorem qDc{g:Grid}(hg:GOk g){k i:Nat}(h:keyIn g k i): ∃f∈qCe g,f.kind=k/\f.i=i:=by
 rcases h with⟨rfl,h⟩|⟨hk,h⟩
 ·obtain⟨f,h1,h2,h3,_⟩:=qCX hg h;exact⟨f,h1,h2,h3⟩
 ·obtain⟨f,h1,h2,h3,_⟩:=qCY hg h hk;exact⟨f,h1,h2,h3⟩
theorem qDd(g:Grid)(S:Nat->List Bool):(qBR (qCe g) S).map (fun p=>fkey p.1)=(qCe g).map fkey:=by
 rw[show(fun p:Fld×Nat=>fkey p.1)=fkey ∘ Prod.fst from rfl,<- List.map_map,qBS]
theorem qDe{g:Grid}{S:Nat->List Bool}{p:Fld×Nat}(h:p∈qBR (qCe g) S):p.1∈qCe g:=by
 rw[<- qBS (qCe g) S];exact List.mem_map_of_mem h
theorem qDf{g:Grid}(hg:GOk g)(S:Nat->List Bool):CfgLn g (decC g S)/\ ∀p∈qBR (qCe g) S,cfgI (decC g S) p.1.kind p.1.i=p.2:=by
 obtain⟨a1,a2,_⟩:=qD9 (qBR (qCe g) S) (qx5 g) (qDb g) (fun p hp=>(qCW hg (qDe hp)).keyIn) (by rw[qDd];exact qD1 hg)
 exact⟨a1,a2⟩
theorem qDg(g:Grid)(c:Cfg):validE g c=0 ↔ qyk g c/\(∀i,i<c.sel.length->qyl g c i)/\ ∀t,t<g.kind.length->qym g c t:=by
 constructor
 ·intro h
  unfold validE at h
  split at h
  ·rename_i e;exact e
  ·cases h
 ·rintro⟨h1,h2,h3⟩
  exact qyn h1 h2 h3
theorem qDh{g:Grid}(hg:GOk g)(n:Nat):(qw4 g n).length<2^64:=by
 have:=qxn g hg n
 omega
theorem qDi{g:Grid}(hg:GOk g){c:Cfg}(h:validE g c=0){f:Fld}(hf:FIn g f):0<=cfgI c f.kind f.i/\cfgV c f.kind f.i<2^f.n:=by
 obtain⟨⟨l1,l2,l3,l4⟩,h2,h3⟩:=(qDg g c).1 h
 unfold cfgV
 rcases hf.key with⟨a,b,d⟩|⟨a,b,d⟩|⟨a,b,d⟩|⟨a,b,d⟩
 ·have hs:=h2 f.i (by rw[l1];exact b)
  have hb:=qC6 _ (qDh hg f.i)
  unfold qyl at hs
  rw[a,d]
  simp only[cfgI,if_true,qC7]
  by_cases e:c.sel.getD f.i 0=0
  ·rw[e];exact⟨Int.le_refl _,Nat.two_pow_pos _⟩
  ·have:=hs e
   exact⟨by omega,by omega⟩
 ·have ht:=h3 f.i b
  unfold qym qyf at ht
  rw[a,d]
  simp[cfgI,-List.getD_eq_getElem?_getD]
  omega
 ·have ht:=h3 f.i b
  unfold qym qyf at ht
  rw[a,d]
  simp[cfgI,-List.getD_eq_getElem?_getD]
  have:=ht.2.2.1
  split at this<;>omega
 ·have ht:=h3 f.i b
  unfold qym qyf at ht
  rw[a,d]
  simp[cfgI,-List.getD_eq_getElem?_getD]
  have:=ht.2.2.2
  split at this<;>omega
def qDj(g:Grid)(x:Nat):Nat:=qBM (qCe g) x
def qDk(g:Grid):List Nat:=(List.range (wN g+1)).map fun x=>nW (qDj g x)
def qDl(g:Grid)(c:Cfg):List (List Nat):=(List.range (wN g+1)).map (rowB (qCe g) (cfgV c))
def qDm(ws:List Nat):Bool:=ws.all fun w=>decide (chkW w≠2)
def qDn(ws:List Nat):Nat:=ws.countP fun w=>decide (chkW w=1)
def datF(l:List (List Nat))(x:Nat):List Nat:=(l.getD x []).map datW
structure Dec38 (g:Grid) (l:List (List Nat)):Prop where
 size:l.map List.length=qDk g
 ok: ∀ws∈l,qDm ws=true
 rest: ∀x,x<wN g+1->qC1 (datF l x) (qDj g x)
 valid:validE g (decC g fun x=>unW (datF l x))=0
def qDo(l:List (List Nat)):Prop:= ∀ws∈l,∀w∈ws,w<2^64
theorem qDp{d:Nat}(h:d<2^57):datW (encW d)=d:=by
 unfold datW;rw[if_neg (by rw[qzZ];decide),qzY h]
theorem qDq{g:Grid}(hg:GOk g){x:Nat}(h:wN g<x):qDj g x=0:=by
 have key: ∀fs:List Fld,(∀f∈fs,f.x<=wN g)->qBM fs x=0:=by
  intro fs
  induction fs with
  |nil=>intro _;rfl
  |cons f r ih=>
    intro hf
    have:=hf f List.mem_cons_self
    rw[qBM,if_neg (by omega),ih fun f hf' =>hf f (List.mem_cons_of_mem _ hf')]
 exact key _ fun f hf=>(qCW hg hf).x
theorem qDu{g:Grid}{c:Cfg}{x:Nat}(hx:x<wN g+1):(qDl g c).getD x []=rowB (qCe g) (cfgV c) x:=by
 simp[qDl,List.getD_eq_getElem?_getD,hx]
theorem qDv {g : Grid} (hg : GOk g) {c : Cfg} (hc : validE g c = 0) {l : List (List Nat)} (hs : l.map List.length = qDk g) (ho : ∀ ws ∈ l, qDm ws = true) (hd : ∀ x, x < wN g + 1 -> datF l x = qBZ (qCe g) (cfgV c) x) :
  Dec38 g l/\decC g (fun x=>unW (datF l x))=c:=by
 have hlen:l.length=wN g+1:=by
  have:=congrArg List.length hs
  simpa[qDk]using this
 have hn:=hg.n
 obtain⟨hL,hp⟩:=qDf hg fun x=>unW (datF l x)
 have hread:qBR (qCe g) (fun x=>unW (datF l x))=(qCe g).map fun f=>(f,cfgV c f.kind f.i):=by
  refine qBU (cfgV c) _ _ (fun f hf=>(qDi hg hc (qCW hg hf)).2) fun x=> ?_
  by_cases hx:x<wN g+1
  ·rw[hd x hx];exact qC3 _ _ _
  ·have h0:qBM (qCe g) x=0:=qDq hg (by omega)
   have h1:=qBN (cfgV c) x (qCe g)
   rw[h0]at h1
   rw[h0,List.take_zero,List.length_eq_zero_iff.1 h1]
 have hceq:decC g (fun x=>unW (datF l x))=c:=by
  have hcl:CfgLn g c:=((qDg g c).1 hc).1
  refine qDa hL hcl fun k i hk=> ?_
  obtain⟨f,hf,rfl,rfl⟩:=qDc hg hk
  have h1:=hp (f,cfgV c f.kind f.i) (by rw[hread];exact List.mem_map_of_mem (f:=fun f=>(f,cfgV c f.kind f.i)) hf)
  have h2:=(qDi hg hc (qCW hg hf)).1
  simp only at h1
  rw[h1,cfgV]
  omega
 refine⟨⟨hs,ho,fun x hx=>by rw[hd x hx];exact qC2 _ _ _,by rw[hceq];exact hc⟩,hceq⟩
theorem qDw(fs:List Fld)(c:Nat->Nat->Nat)(x:Nat):(rowB fs c x).length=nW (qBM fs x):=by rw[rowB,List.length_map,qC0]
theorem qDx(g:Grid)(c:Cfg):(qDl g c).map List.length=qDk g:=by
 rw[qDl,List.map_map]
 exact List.map_congr_left fun x _=>qDw _ _ _
theorem qDy{g:Grid}{c:Cfg}{ws:List Nat}(h:ws∈qDl g c){w:Nat}(hw:w∈ws): ∃d,d<2^57/\w=encW d:=by
 simp only[qDl,List.mem_map]at h
 obtain⟨x,_,rfl⟩:=h
 simp only[rowB,List.mem_map]at hw
 obtain⟨d,hd,rfl⟩:=hw
 exact⟨d,qBB hd,rfl⟩
theorem qDz(g:Grid)(c:Cfg):qDo (qDl g c):=fun ws hws w hw=>by
 obtain⟨d,_,rfl⟩:=qDy hws hw
 exact qzX d
theorem qDA{g:Grid}{c:Cfg}{ws:List Nat}(h:ws∈qDl g c){w:Nat}(hw:w∈ws):chkW w=0:=by
 obtain⟨d,_,rfl⟩:=qDy h hw
 exact qzZ d
theorem qDB{g:Grid}{c:Cfg}{x:Nat}(hx:x<wN g+1):datF (qDl g c) x=qBZ (qCe g) (cfgV c) x:=by
 unfold datF
 rw[qDu hx,rowB,List.map_map]
 conv=>rhs;rw[<- List.map_id (qBZ (qCe g) (cfgV c) x)]
 apply List.map_congr_left
 intro d hd
 exact qDp (qBB hd)
end Go.Proofs.YtecoaapkcnhlhaaDoor
namespace Go.Vc
open Go Go.RowKit
def outL(l:List Nat)(i:Nat):Bool:= !inL l i
def qDC(nb na:List Nat)(r:PV)(st:St):Bool:=
 (st.s.isEmpty&&st.m.isEmpty)&&(st.b.all (fun x=>inL nb x.1&& !x.2.any (PV.to (outL nb) (outL na)))&&st.a.all (fun x=>inL na x.1))&& !r.toV (outL nb) (outL na)
def qDD(nb na:List Nat)(st:St):Bool:=st.noTo (inL nb) (inL na)&&(st.b.all (fun x=> !inL nb x.1)&&st.a.all (fun x=> !inL na x.1))
theorem qDE{α:Type}{l:List (Nat×α)}{i:Nat}{v:α}(h:lk l i=some v):(i,v)∈l:=by
 induction l with
 |nil=>cases h
 |cons x r ih=>
   obtain⟨k,u⟩:=x
   simp only[lk]at h
   split at h
   ·rename_i e;cases h;subst e;simp
   ·exact List.mem_cons_of_mem _ (ih h)
theorem qDF{α:Type}{l r:List (Nat×α)}{i:Nat}{v:α}(h:lk (l++r) i=some v):lk l i=some v\/lk r i=some v:=by
 induction l with
 |nil=>exact .inr h
 |cons x l ih=>
   obtain⟨k,u⟩:=x
   simp only[List.cons_append,lk]at h ⊢
   split at h
   ·rename_i e;rw[if_pos e];exact .inl h
   ·rename_i e;rw[if_neg e];exact ih h
section
variable {w0:World} {Z0:Zone} {X:Gh} {G:Nat->Value} {Z:Zone} {L:Lay} {st:St} {w:World}
theorem Inv.join (hM : Mem w0 Z0 X G Z L st w) {w' : World} {Z' : Zone} {L' : Lay} {st' : St} {nb na : List Nat} {r : PV} {X' : Gh} {G' : Nat -> Value} (hX : X'.y = X.y) (hN : Mem w Z X' G' Z' L' st' w') (ho : qDC nb na r st' = true) (hst : qDD nb na st = true) :
  ∃L2,LSame L' L2 (outL nb) (outL na)/\Mem w0 Z0 X G Z' L2 ⟨st.s,st.b++st'.b,st.a++st'.a,st.m⟩ w' :=by
 simp only[qDC,qDD,Bool.and_eq_true,List.all_eq_true,Bool.not_eq_true']at ho hst
 obtain⟨⟨⟨hs0,hm0⟩,hob,hoa⟩,_⟩:=ho
 obtain⟨hno,hsb,hsa⟩:=hst
 let L2:Lay:=⟨fun i=>if inL nb i=true then L'.bx i else L.bx i,fun i=>if inL na i=true then L'.ab i else L.ab i,fun i=>if inL na i=true then L'.ac i else L.ac i,fun i=>if inL na i=true then L'.ae i else L.ae i,fun i=>if inL na i=true then L'.al i else L.al i,L.yb⟩
 have hyb: ∀i,L'.yb i=L.yb i:=fun i=>by rw[hN.yb i,hM.yb i];exact congrFun hX i
 have l1:LSame L L2 (inL nb) (inL na):=⟨fun i hi=>by simp[L2,hi],fun i hi=>by simp[L2,hi],fun i hi=>by simp[L2,hi],fun i hi=>by simp[L2,hi],fun i hi=>by simp[L2,hi],fun _ _=>rfl⟩
 have l2:LSame L' L2 (outL nb) (outL na):=⟨fun i hi=>by simp[outL]at hi;simp[L2,hi],fun i hi=>by simp[outL]at hi;simp[L2,hi],fun i hi=>by simp[outL]at hi;simp[L2,hi],fun i hi=>by simp[outL]at hi;simp[L2,hi],fun i hi=>by simp[outL]at hi;simp[L2,hi],fun i _=>(hyb i).symm⟩
 refine⟨L2,l2,?_⟩
 have hmv:Mem w0 Z0 X G Z' L st w' :=hM.move hN.z0 hN.zt hN.zn hN.zb hN.below
 have hw:w0.heap.size<=w.heap.size:=hM.below.size
 have hk:Kept Z' w' w' :=⟨fun _ _ _=>rfl⟩
 have hz: ∀p b,Z' p b->Z' p b:=fun _ _ h=>h
 have ob: ∀ {i cs},lk st.b i=some cs->inL nb i=false:=fun h=>hsb _ (qDE h)
 have oa: ∀ {i A},lk st.a i=some A->inL na i=false:=fun h=>hsa _ (qDE h)
 have nB: ∀ {i cs},lk st'.b i=some cs->inL nb i=true/\cs.any (PV.to (outL nb) (outL na))=false:=fun h=>hob _ (qDE h)
 have nA: ∀ {i A},lk st'.a i=some A->inL na i=true:=fun h=>hoa _ (qDE h)
 have obx: ∀ {i cs},lk st.b i=some cs->L2.bx i=L.bx i:=fun h=>l1.bx _ (ob h)
 have oax: ∀ {i A},lk st.a i=some A->L2.ab i=L.ab i:=fun h=>l1.ab _ (oa h)
 have nbx: ∀ {i cs},lk st'.b i=some cs->L2.bx i=L'.bx i:=fun h=>l2.bx _ (by simp[outL,(nB h).1])
 have nax: ∀ {i A},lk st'.a i=some A->L2.ab i=L'.ab i:=fun h=>l2.ab _ (by simp[outL,nA h])
 refine⟨hmv.zt,hmv.z0,hmv.zn,hmv.zb,hmv.below,?_,?_,?_,?_,?_,?_,?_,?_,?_,?_,hmv.oth,hM.yb,hmv.size,hmv.defers,?_⟩
 ·intro i cs hi
  rcases qDF hi with hi|hi
  ·rw[obx hi];exact hmv.ownb i cs hi
  ·rw[nbx hi];exact⟨Nat.le_trans hw (hN.ownb i cs hi).1,(hN.ownb i cs hi).2⟩
 ·intro i A hi
  rcases qDF hi with hi|hi
  ·rw[oax hi];exact hmv.owna i A hi
  ·rw[nax hi];exact⟨Nat.le_trans hw (hN.owna i A hi).1,(hN.owna i A hi).2⟩
 ·intro i j x y hi hj he
  rcases qDF hi with hi|hi<;>rcases qDF hj with hj|hj
  ·rw[obx hi,obx hj]at he;exact hM.injb i j x y hi hj he
  ·rw[obx hi,nbx hj]at he
   have h1:=(hM.ownb i x hi).2.1;have h2:=(hN.ownb j y hj).1;omega
  ·rw[nbx hi,obx hj]at he
   have h1:=(hN.ownb i x hi).1;have h2:=(hM.ownb j y hj).2.1;omega
  ·rw[nbx hi,nbx hj]at he;exact hN.injb i j x y hi hj he
 ·intro i j x y hi hj he
  rcases qDF hi with hi|hi<;>rcases qDF hj with hj|hj
  ·rw[oax hi,oax hj]at he;exact hM.inja i j x y hi hj he
  ·rw[oax hi,nax hj]at he
   have h1:=(hM.owna i x hi).2.1;have h2:=(hN.owna j y hj).1;omega
  ·rw[nax hi,oax hj]at he
   have h1:=(hN.owna i x hi).1;have h2:=(hM.owna j y hj).2.1;omega
  ·rw[nax hi,nax hj]at he;exact hN.inja i j x y hi hj he
 ·intro i j x y hi hj he
  rcases qDF hi with hi|hi<;>rcases qDF hj with hj|hj
  ·rw[obx hi,oax hj]at he;exact hM.injx i j x y hi hj he
  ·rw[obx hi,nax hj]at he
   have h1:=(hM.ownb i x hi).2.1;have h2:=(hN.owna j y hj).1;omega
  ·rw[nbx hi,oax hj]at he
   have h1:=(hN.ownb i x hi).1;have h2:=(hM.owna j y hj).2.1;omega
  ·rw[nbx hi,nax hj]at he;exact hN.injx i j x y hi hj he
 ·intro i cs hi
  rcases qDF hi with hi|hi
  ·exact(hmv.boxes i cs hi).keep hk hz rfl l1 (ob hi) (St.noTo_box hno hi)
  ·exact(hN.boxes i cs hi).keep hk hz rfl l2 (by simp[outL,(nB hi).1]) (nB hi).2
 ·intro i A hi
  rcases qDF hi with hi|hi
  ·obtain⟨cur,hx⟩:=hmv.arrs i A hi
   exact⟨cur,hx.keep hk hz rfl l1 (oa hi)⟩
  ·obtain⟨cur,hx⟩:=hN.arrs i A hi
   exact⟨cur,hx.keep hk hz rfl l2 (by simp[outL,nA hi])⟩
 ·intro i M hi
  rw[show L2.bx i=L.bx i from l1.bx i (St.noTo_map hno hi).1]
  exact hmv.ownm i M hi
 ·intro i j x y hi hj he
  rw[show L2.bx i=L.bx i from l1.bx i (St.noTo_map hno hi).1,show L2.bx j=L.bx j from l1.bx j (St.noTo_map hno hj).1]at he
  exact hM.injm i j x y hi hj he
 ·intro i M hi
  obtain⟨ents,clock,hR⟩:=hmv.maps i M hi
  refine⟨ents,clock,hR.keep hk hz rfl (fun j x y e=>⟨rfl,?_⟩) l1 (St.noTo_map hno hi).1 (St.noTo_map hno hi).2⟩
  have hit:=hR.it
  rw[e]at hit
  obtain⟨seen,_,_,h3,_⟩:=hit
  exact h3
 ·intro i v hi
  exact(hmv.slots i v hi).keep hk hz l1 (St.noTo_slot hno hi)
end
theorem FnM.fresh {E : Env} {f : Nat} {args : List PV} {st : St} {Q0 : PV -> St -> Prop} (nb na : List Nat) (hp : args.all qbO = true) (hst : qDD nb na st = true) (ho : ∀ r st', Q0 r st' -> qDC nb na r st' = true)
  (h:FnM (Env.of E.p) f args ⟨[],[],[],[]⟩ Q0):FnM E f args st fun r st' => ∃st0,Q0 r st0/\st' =⟨st.s,st.b++st0.b,st.a++st0.a,st.m⟩:=by
 refine⟨h.1,fun w0 Z0 X G Z L w vs hE hM hA=> ?_⟩
 have hin:Mem w Z ⟨[],X.y⟩ (fun _=>undef) Z { L00 with yb:=X.y } ⟨[],[],[],[]⟩ w:=by
  refine⟨hM.zt,fun _ _ h=>h,fun _ _ h=> .inl h,hM.zb,Below.refl _ _,?_,?_,?_,?_,?_,?_,?_,?_,?_,?_,fun x hx=>(by cases hx),fun _=>rfl,rfl,fun _ e=>(by cases e),fun i v hl=>(by cases hl)⟩
  all_goals (intros;rename_i hl _;first|(cases hl;done)|skip)
  all_goals (simp[lk]at *)
 have hargs:ArgsR w Z { L00 with yb:=X.y } args vs:=⟨hA.1,fun j c hj=>by
  have:=List.all_eq_true.1 hp c (List.mem_of_getElem? hj)
  exact qbr (qck (hA.2 j c hj) this)⟩
 refine(h.2 w Z ⟨[],X.y⟩ (fun _=>undef) Z { L00 with yb:=X.y } w vs (EnvOK.of E.p w Z ⟨[],X.y⟩ (fun _=>undef) (hE.1.below hM.below)) hin hargs).mono ?_
 rintro e w' ⟨v,r,st',Z',L',rfl,hq,hN,hr⟩
 have hoo:=ho r st' hq
 obtain⟨L2,l2,hJ⟩:=hM.join (X' :=⟨[],X.y⟩) rfl hN hoo hst
 refine⟨v,r,_,Z',L2,rfl,⟨st',hq,rfl⟩,hJ,hr.keep ⟨fun _ _ _=>rfl⟩ (fun _ _ h=>h) l2 ?_⟩
 simp only[qDC,Bool.and_eq_true,Bool.not_eq_true']at hoo
 exact hoo.2
theorem qDG {P : Env} {d : Option Nat} {f : Nat} {args : List PV} {r : List AO} {st : St} {K : St -> Prop} {v : PV} {b' : List (Nat × List PV)} {a' : List (Nat × Arr)} (nb na : List Nat)
  (h:FnM (Env.of P.p) f args ⟨[],[],[],[]⟩ fun rv st' =>rv=v/\st' =⟨[],b',a',[]⟩) (hp:args.all qbO=true) (hst:qDD nb na st=true) (ho:qDC nb na v ⟨[],b',a',[]⟩=true)
  (hk:opsK P r ((⟨st.s,st.b++b',st.a++a',st.m⟩:St).put d v) K):clmK P d f args r st K:=by
 refine qsK (FnM.fresh nb na hp hst (fun rv st' h=> ?_) h) ?_
 ·obtain⟨rfl,rfl⟩:=h;exact ho
 ·rintro rv st' ⟨st0,⟨rfl,rfl⟩,rfl⟩
  exact hk
end Go.Vc
namespace Go.Proofs.YtecoaapkcnhlhaaDoor
open Go Go.Vc Go.Ham Txt
def qDH(g:Grid)(fs:List Fld):List Int:=(List.range (wN g+1)).map fun x=>(qBM fs x:Int)
theorem qDI{m:Nat}(x:Nat): ∀(fs:List Fld),(∀f∈fs,f.n<=m)->qBM fs x<=m*fs.length
 |[],_=>Nat.zero_le _
 | f :: r, h => by
   have h1:=qDI x r fun f hf=>h f (List.mem_cons_of_mem _ hf)
   have h2:=h f List.mem_cons_self
   rw[qBM,List.length_cons,Nat.mul_add,Nat.mul_one]
   split<;>omega
theorem qDJ(g:Grid)(x a n:Nat):(qC8 g x a n).length=n:=by simp[qC8]
theorem qDK(g:Grid)(x:Nat): ∀k,(qCb g x k).length=k*(eN g+3)
 |0=>by simp[qCb]
 |k+1=>by rw[qCg,List.length_append,qDK g x k,qCa,List.length_append,qDJ,Nat.add_mul,Nat.one_mul];rfl
theorem qDL(g:Grid): ∀k,(qCc g k).length=k*(hN g*(eN g+3))
 |0=>by simp[qCc]
 |k+1=>by rw[qCf,List.length_append,qDL g k,qDK,Nat.add_mul,Nat.one_mul]
theorem qDM{g:Grid}(hg:GOk g):(qCe g).length<=10000000:=by
 have hn:=hg.n
 have hc:=hg.count
 have hcc:=hn.c
 have h1:hN g*(eN g+3)<=64*137:=Nat.mul_le_mul hn.h2 (by have:=hn.e2;omega)
 have h2:wN g*(hN g*(eN g+3))<=64*(64*137):=Nat.mul_le_mul hn.w2 h1
 rw[qCe,List.length_append,qDL,qCd,qDJ]
 omega
theorem qDN: ∀(k n:Nat),Go.Lib.bitLenAux k n<=k
 |0,_=>Nat.le_refl _
 | k + 1, n => by
   have h:=qDN k
   unfold Go.Lib.bitLenAux
   split<;>first|omega|(have:=h (n/2);omega)
theorem qDO{g:Grid}(hg:GOk g){fs:List Fld}(h:fs<+:qCe g)(x:Nat):qBM fs x<=1000000000:=by
 obtain⟨r,hr⟩:=h
 have h1:=qDI (m:=64) x (qCe g) fun f hf=>by
  rcases(qCW hg hf).key with h|h|h|h<;>rw[h.2.2]<;>first|exact qDN 64 _|decide
 rw[<- hr,qBQ]at h1
 have:=qDM hg
 rw[hr]at h1
 omega
theorem qDP(g:Grid)(fs:List Fld):(qDH g fs).length=wN g+1:=by simp[qDH]
theorem qDQ{g:Grid}{x:Nat}(h:x<=wN g)(fs:List Fld):(qDH g fs).getD x default=(qBM fs x:Int):=by
 rw[List.getD_eq_getElem?_getD,qDH,List.getElem?_map,List.getElem?_range (by omega)];rfl
theorem qDR{g:Grid}{f:Fld}(fs:List Fld):(qDH g fs).set f.x ((qBM fs f.x:Int)+f.n)=qDH g (fs++[f]):=by
 refine List.ext_getElem (by simp[qDH]) fun i h1 h2=> ?_
 rw[List.getElem_set]
 simp only[qDH,List.getElem_map,List.getElem_range,qBQ,qBM]
 split
 all_goals first|omega|simp_all
theorem qDS(l:List Int):farV (.sl true 1 (ints l)):=⟨fun _ _=>⟨rfl,rfl⟩,fun _ _ _=>⟨rfl,rfl⟩⟩
theorem qDT(g:Grid):qDH g []=List.replicate (wN g+1) 0:=by
 rw[List.eq_replicate_iff]
 refine⟨by simp[qDH],fun b hb=> ?_⟩
 obtain⟨x,_,rfl⟩:=List.mem_map.1 hb
 rfl
set_option maxHeartbeats 4000000 in
theorem qDU(g:Grid)(hg:GOk g):FnM (Env.of Tryd.prog) 35 [.agg (quQ false g)] ⟨[],[],[],[]⟩ (fun v st' =>v= .view 62 0 (wN g+1)/\ ∃b,st' =⟨[],b,[(62,⟨1,3,ints (qDH g (qCe g))⟩)],[]⟩):=by
 have hn:=hg.n
 have hb:=qy0 g hg
 refine qub 50 Tryd.func35 ok35_50 (by show 1<=_;decide) rfl (by decide) ?_
 simp only[ac35_50,rv35_50,push_cast,reduceIte,reduceEqDiff,reduceAdd,reduceSub,reduceMul,Nat.reduceBEq,reduceLT,reduceLeDiff,reduceCtorEq,reduceToNat,reduceNeg,cNI]
 refine qrr hb sC ?_
 refine sB ?_
 have hw:=hg.w
 have hw2:=hn.w
 refine⟨⟨by omega,by omega⟩,⟨by omega,by omega,by omega,by omega⟩,?_⟩
 rw[show(g.w+1).toNat=wN g+1 by omega,List.length_replicate,<- qDT g]
 have hF : FnM (Env.of Tryd.prog) 53 [.agg (quQ false g), .ptr 53 0] ⟨[(51, .ptr 51 0), (53, .ptr 53 0), (54, .ptr 54 0), (63, .agg (quQ false g))], [(51, quQ false g), (53, cfgC true (qx5 g)), (54, [.view 62 0 (wN g + 1 : Nat)])], [(62, ⟨1, 3, ints (qDH g [])⟩)], []⟩
   (fun v st' =>v= .clo 75 [103,102,105]/\st' =⟨[(51,.ptr 51 0),(53,.ptr 53 0),(54,.ptr 54 0),(63,.agg (quQ false g))],[(51,quQ false g),(53,cfgC true (qx5 g)),(54,[.view 62 0 (wN g+1:Nat)]),(102,quQ false g),(103,[.ptr 53 0]),(105,[.int (quU g)])],[(62,⟨1,3,ints (qDH g [])⟩)],[]⟩):=by
  refine qub 100 Tryd.func53 ok53_100 (by show 2<=_;decide) rfl (by decide) ?_
  have ht:=hg.tracks
  simp only[ac53_100,rv53_100,push_cast,reduceIte,reduceEqDiff,reduceAdd,reduceSub,reduceMul,Nat.reduceBEq,reduceLT,reduceLeDiff,reduceCtorEq,reduceToNat,reduceNeg,cNI]
  exact⟨⟨by omega,by omega⟩,⟨by omega,by omega⟩,rfl⟩
 refine qsL hF ?_
 refine sB ?_
 refine qu9 (st1:=⟨[(54,.ptr 54 0),(64,.clo 75 [103,102,105])],[(51,quQ false g),(53,cfgC true (qx5 g)),(54,[.view 62 0 (wN g+1)]),(102,quQ false g),(103,[.ptr 53 0]),(105,[.int (quU g)])],[(62,⟨1,3,ints (qDH g [])⟩)],[]⟩) (Env.of_noY _) rfl sC
  (qD4 (s:=[(54,.ptr 54 0),(64,.clo 75 [103,102,105])]) rfl (by show 76<=200;decide) (fun _ _ h=>h) rfl g hg 103 102 105 53 _ _ _ _ _ (fun _=>[(51,quQ false g),(53,cfgC true (qx5 g)),(54,[.view 62 0 (wN g+1)]),(102,quQ false g),(103,[.ptr 53 0]),(105,[.int (quU g)]),(204,[.yl 999])]) (fun pre=>[(62,⟨1,3,ints (qDH g pre)⟩)]) rfl rfl rfl sC sC (fun pre hp=>⟨rfl,rfl,rfl,rfl,rfl⟩) (fun pre hp=>⟨rfl,rfl,rfl,rfl⟩) ?_ ⟨by decide,by decide,by decide,by decide⟩ ⟨qDS _,qDS _,qDS _,qDS _⟩ ?_) ?_
 ·have hc:=hn.c
  have hk:=hn.k
  refine⟨?_,?_,?_,?_⟩<;>simp[qCJ,qx5,cN,hk,rows]
 ·intro pre f hpf t ht h4 hft
  have hm:midL 50 26 ([(54,.ptr 54 0),(64,.clo 75 [103,102,105])]++t)=[(54,.ptr 54 0),(64,.clo 75 [103,102,105])]:=by
   rw[List.cons_append,List.cons_append,List.nil_append,qtQ,qtQ,qCH fun x hx=>by have:=h4 x hx;omega]
   rfl
  have hs:qtT 1000 ([(54,.ptr 54 0),(64,.clo 75 [103,102,105])]++t)=true:=by simpa[qtT]using ht
  refine qCt rfl rfl hs ?_
  rw[hm]
  have hS: ∀j,1000<=j->farL j ([(54,.ptr 54 0),(64,.clo 75 [103,102,105])]++t):=by
   intro j hj
   have n1: ∀i,i<1000->(i==j)=false:=fun i hi=>beq_false_of_ne (by omega)
   simp only[qCO,n1 54 (by decide),n1 103 (by decide),n1 102 (by decide),n1 105 (by decide),hft j hj,push_cast,reduceIte,reduceEqDiff,reduceAdd,reduceSub,reduceMul,Nat.reduceBEq,reduceLT,reduceLeDiff,reduceCtorEq,reduceToNat,reduceNeg,cNI]
  have hg4:getL ([(54,.ptr 54 0),(64,.clo 75 [103,102,105])]++t) 54= .ptr 54 0:=rfl
  clear hm ht h4
  generalize [(54,PV.ptr 54 0),(64,.clo 75 [103,102,105])]++t=S at hs hS hg4 ⊢
  unfold qu6
  have hfi:=qCW hg (hpf.subset (List.mem_append_right _ List.mem_cons_self))
  have hfx:=hfi.x
  have hbd:=qDO hg hpf f.x
  rw[qBQ]at hbd
  simp only[qBM,if_true]at hbd
  obtain⟨l,hl⟩: ∃l,cfK (.sl true 1 (ints (qx5 g).sel)) (.sl true 1 (ints (qx5 g).mode)) (.sl true 1 (ints (qx5 g).tab)) (.sl true 1 (ints (qx5 g).ram)) f.kind= .sl true 1 (ints l):=by
   rcases hfi.key with h|h|h|h<;>rw[h.1]<;>exact⟨_,rfl⟩
  obtain⟨p1,p2⟩:=qCL (a:=[]) (v:= .sl true 1 (ints l)) rfl f.i
  obtain⟨p3,-⟩:=(qDS l).2 f.i 1006 (by decide)
  simp only[qCo hs,qCn hs,hg4,qCp hs,qCq hs,qCr hs,qCS,qCP (hS 1006 (by decide)),hl,p1,p2,p3,push_cast,reduceIte,reduceEqDiff,reduceAdd,reduceSub,reduceMul,Nat.reduceBEq,reduceLT,reduceLeDiff,reduceCtorEq,reduceToNat,reduceNeg,cNI]
  rw[qDQ hfx,qDR,qDP]
  exact⟨⟨by omega,by omega⟩,by omega,⟨by omega,by omega⟩,⟨by omega,by omega⟩,by omega,_,SWk.drop (fun i=>Nat.blt i 1000) (fun _=>true),hs,rfl⟩
 ·rintro _ _ rfl
  refine sB ?_
  exact⟨rfl,_,rfl⟩
theorem qDV(g:Grid)(hg:GOk g):FnM (Env.of Tryd.prog) 35 [.agg (quQ false g)] ⟨[],[],[],[]⟩ (fun v st' =>v= .view 62 0 (wN g+1)/\st' =⟨[],[],[(62,⟨1,3,ints (qDH g (qCe g))⟩)],[]⟩):=by
 refine FnM.mono (FnM.postB (fun _=>[]) (qDU g hg)) ?_
 rintro v _ ⟨_,⟨rfl,b,rfl⟩,rfl⟩
 exact⟨rfl,by rw[qui];congr 1;induction b with
  |nil=>rfl
  |cons x r ih=>exact ih⟩
def midV(g:Grid)(k:Nat):List Int:=(List.range (wN g+1)).map fun x=>if x<k then(nW (qDj g x):Int)else(qDj g x:Int)
theorem qDW(g:Grid)(k:Nat):(midV g k).length=wN g+1:=by simp[midV]
theorem qDX{g:Grid}{k:Nat}(h:k<=wN g):(midV g k).getD k default=(qDj g k:Int):=by
 rw[List.getD_eq_getElem?_getD,midV,List.getElem?_map,List.getElem?_range (by omega),Option.map_some,if_neg (by omega)];rfl
theorem qDY(g:Grid)(k:Nat):(midV g k).set k (nW (qDj g k):Int)=midV g (k+1):=by
 refine List.ext_getElem (by simp[midV]) fun i h1 h2=> ?_
 rw[List.getElem_set]
 simp only[midV,List.getElem_map,List.getElem_range]
 split
 ·next h=>subst h;rw[if_pos (by omega)]
 ·next h => by_cases h3 : i < k
            ·rw[if_pos h3,if_pos (by omega)]
            ·rw[if_neg h3,if_neg (by omega)]
theorem qDZ(g:Grid):midV g 0=qDH g (qCe g):=rfl
theorem qE0(g:Grid):midV g (wN g+1)=(qDk g).map Int.ofNat:=by
 rw[midV,qDk,List.map_map]
 exact List.map_congr_left fun x hx=>by rw[if_pos (List.mem_range.1 hx)];rfl
theorem qE1(g:Grid)(hg:GOk g):FnEq Tryd.prog 15 [.agg (quQ false g)] (.sl true 1 (ints ((qDk g).map Int.ofNat))):=by
 have hn:=hg.n
 refine FnEq.of_awp Tryd.func15 ok15 (by show 1<=_;decide) (by simp only[push_cast,reduceIte,reduceEqDiff,reduceAdd,reduceSub,reduceMul,Nat.reduceBEq,reduceLT,reduceLeDiff,reduceCtorEq,reduceToNat,reduceNeg,cNI]<;>first|exact fun _ _=>trivial|simp) ?_
 simp only[ac15,rv15,push_cast,reduceIte,reduceEqDiff,reduceAdd,reduceSub,reduceMul,Nat.reduceBEq,reduceLT,reduceLeDiff,reduceCtorEq,reduceToNat,reduceNeg,cNI]
 refine qDG [] [62] (qDV g hg) rfl rfl rfl ?_
 refine sB ?_
 rw[<- qDZ]
 refine qoL (fun j st=> ∃k:Nat,k<=wN g+1/\j=wN g+1-k/\st=⟨[(3,.view 62 0 (wN g+1)),(8,.int ((wN g:Int)+1)),(9,.int k)],[],[(62,⟨1,3,ints (midV g k)⟩)],[]⟩) (wN g+1) ⟨0,by omega,by omega,by simp only[push_cast,reduceIte,reduceEqDiff,reduceAdd,reduceSub,reduceMul,Nat.reduceBEq,reduceLT,reduceLeDiff,reduceCtorEq,reduceToNat,reduceNeg,cNI]⟩ ?_
 rintro j st ⟨k,hk,rfl,rfl⟩
 refine sB ?_
 have hw2:=hn.w2
 refine qnU (fun h=> ?_) fun h=> ?_
 ·have hb:=qDO hg List.prefix_rfl k
  have hb2:qDj g k<=1000000000:=hb
  rw[qDX (by omega),qDW,show((qDj g k:Int)+57-1)/57=(nW (qDj g k):Int)from by unfold nW;omega,qDY]
  exact⟨⟨by omega,by omega⟩,by omega,⟨by omega,by omega⟩,⟨by omega,by omega⟩,⟨by omega,by omega,by decide⟩,⟨by omega,by omega⟩,by omega,⟨by omega,by omega⟩,wN g+1-(k+1),by omega,k+1,by omega,rfl,rfl⟩
 ·obtain rfl:k=wN g+1:=by omega
  rw[List.take_of_length_le (by rw[qDW];exact Nat.le_refl _),qE0]
  exact⟨fun _ _=>trivial,.refl _⟩
end Go.Proofs.YtecoaapkcnhlhaaDoor
namespace Go.Proofs.YtecoaapkcnhlhaaDoor.Txt
open Go Go.Vc
set_option maxRecDepth 100000
def xs33_13:List XO:=[⟨0,[],(aO 1048 (.ld false 1 (.t 1008)))⟩,⟨1,[],(aO 1049 (.mv (.t 1009)))⟩,⟨2,[],(aO 1050 (.ld false 1 (.t 1008)))⟩,⟨3,[],(aO 1051 (.mv (.t 1009)))⟩,⟨4,[2,3],(aO 1052 (.ixs 1 (.t 1050) (.t 1051)))⟩,⟨5,[4],(aO 1053 (.ld false 1 (.t 1052)))⟩,⟨6,[],(aO 1054 (.bsl 1 54 [.sc (.int .u64 0)] 1 [(0,(.c (.sc (.int .u64 0))))]))⟩,⟨7,[5,6],(aO 1055 (.app 1 54 8 (.t 1053) (.t 1054)))⟩,⟨8,[0,1,2,3,4,5,6,7],(aO 1056 (.ixs 1 (.t 1048) (.t 1049)))⟩,⟨9,[0,1,2,3,4,5,6,7,8],(aN (.sto 1 (.t 1056) (.t 1055)))⟩]
theorem xs33_13_all{p:XO->Prop} :(∀x∈xs33_13,p x) ↔ p ⟨0,[],(aO 1048 (.ld false 1 (.t 1008)))⟩/\p ⟨1,[],(aO 1049 (.mv (.t 1009)))⟩/\p ⟨2,[],(aO 1050 (.ld false 1 (.t 1008)))⟩/\p ⟨3,[],(aO 1051 (.mv (.t 1009)))⟩/\p ⟨4,[2,3],(aO 1052 (.ixs 1 (.t 1050) (.t 1051)))⟩/\p ⟨5,[4],(aO 1053 (.ld false 1 (.t 1052)))⟩/\p ⟨6,[],(aO 1054 (.bsl 1 54 [.sc (.int .u64 0)] 1 [(0,(.c (.sc (.int .u64 0))))]))⟩/\p ⟨7,[5,6],(aO 1055 (.app 1 54 8 (.t 1053) (.t 1054)))⟩/\p ⟨8,[0,1,2,3,4,5,6,7],(aO 1056 (.ixs 1 (.t 1048) (.t 1049)))⟩/\p ⟨9,[0,1,2,3,4,5,6,7,8],(aN (.sto 1 (.t 1056) (.t 1055)))⟩:=by simp only[xs33_13,List.forall_mem_cons,List.not_mem_nil,false_implies,implies_true,and_true]
def ac33_r14:AC:=
 (.seq (.drw [1000,125,1007,1008,1009,1010,1011,1038,1039] [
 (eT 1057 (.ld false 1 (.t 1008))),(eT 1058 (.mv (.t 1009))),(eT 1059 (.ixs 1 (.t 1057) (.t 1058))),(eT 1060 (.ld false 1 (.t 1059))),(eT 1061 (.ld false 1 (.t 1007))),(eT 1062 (.mv (.t 1009))),(eT 1063 (.ixs 1 (.t 1061) (.t 1062))),(eT 1064 (.ld false 1 (.t 1063))),(eT 1065 (.dvd .quo true .i64 (.t 1064) (kI 57))),(eT 1066 (.ixs 1 (.t 1060) (.t 1065))),(eT 1067 (.ld false 1 (.t 1066))),(eT 1068 (.fa 0 (.t 1010))),(eT 1069 (.ld false 1 (.t 1068))),(eT 1070 (.nck (.t 1069))),(eT 1071 (.ld false 1 (.t 1070))),(eT 1072 (.mv (.t 1011))),(eT 1073 (.shf .shr .i64 (.t 1071) (.t 1072))),(eT 1074 (.bit .and .i64 (.t 1073) (kI 1))),(eT 1075 (.cnv true .u64 (.t 1074))),(eT 1076 (.ld false 1 (.t 1007))),(eT 1077 (.mv (.t 1009))),(eT 1078 (.ixs 1 (.t 1076) (.t 1077))),(eT 1079 (.ld false 1 (.t 1078))),(eT 1080 (.dvd .rem true .i64 (.t 1079) (kI 57))),(eT 1081 (.shf .shl .u64 (.t 1075) (.t 1080))),(eF 1082 (.bit .or .u64 (.t 1067) (.t 1081))),(eF 1083 (.ixs 1 (.t 1060) (.t 1065))),⟨(aN (.sto 1 (.t 1083) (.t 1082))),[],[],false⟩])
 (.reg [1000,125,1007,1008,1009,1010,1038,1039] [
 (aO 1084 (.ld false 1 (.t 1007))),(aO 1085 (.mv (.t 1009))),(aO 1086 (.ixs 1 (.t 1084) (.t 1085))),(aO 1087 (.ld false 1 (.t 1086))),(aO 1088 (.ari .add true .i64 (.t 1087) (kI 1))),(aO 1089 (.ixs 1 (.t 1084) (.t 1085))),(aN (.sto 1 (.t 1089) (.t 1088)))]))
def ac33_r11:AC:=
 (.seq (.reg [1000,125,1007,1008,1009,1010,1038,1039] [
 (aO 1041 (.mv (.t 1039))),(aO 1011 (.mv (.t 1041)))])
 (.seq (.seq (.reg [1000,125,1007,1008,1009,1010,1011,1038,1039] [
 (aO 1042 (.ld false 1 (.t 1007))),(aO 1043 (.mv (.t 1009))),(aO 1044 (.ixs 1 (.t 1042) (.t 1043))),(aO 1045 (.ld false 1 (.t 1044))),(aO 1046 (.dvd .rem true .i64 (.t 1045) (kI 57))),(aO 1047 (.cmp .eql .i64 (.t 1046) (kI 0)))])
 (.cond (.t 1047)
 (.dra [1000,125,1007,1008,1009,1010,1011,1038,1039] xs33_13)
 .skip))
 ac33_r14))
def ac33_r9:AC:=
 (.seq (.reg [1000,125,1007,1008,1009,1010] [
 (aO 1037 (.fa 1 (.t 1010))),(aO 1038 (.ld false 1 (.t 1037))),(aO 1039 (.mv (kI 0)))])
 (.block 2
 (.lps [1000,125,1007,1008,1009,1010,1038,1039]
 (.seq (.reg [1000,125,1007,1008,1009,1010,1038,1039] [
 (aO 1040 (.cmp .lss .i64 (.t 1039) (.t 1038)))])
 (.seq (.cond (.t 1040)
 .skip
 (.exit 2))
 (.seq (.block 3
 ac33_r11)
 (.reg [1000,125,1007,1008,1009,1010,1038,1039] [
 (aO 1090 (.ari .add true .i64 (.t 1039) (kI 1))),(aO 1039 (.mv (.t 1090)))])))))))
def ac33_r17:AC:=
 (.seq (.seq (.wk (.reg [0,125,6,8] [
 (aO 91 (.mv (.t 6))),(aO 92 (.len (.t 91))),(aO 93 (.mv (kI 0)))]))
 (.block 4
 (.lps [0,125,6,8,92,93]
 (.seq (.reg [0,125,6,8,92,93] [
 (aO 94 (.cmp .lss .i64 (.t 93) (.t 92)))])
 (.seq (.cond (.t 94)
 .skip
 (.exit 4))
 (.seq (.block 5
 (.seq (.reg [0,125,6,8,92,93] [
 (aO 95 (.mv (.t 93))),(aO 12 (.mv (.t 95)))])
 (.seq (.reg [0,125,6,8,12,92,93] [
 (aO 96 (.ld false 1 (.t 8))),(aO 97 (.mv (.t 12))),(aO 98 (.ixs 1 (.t 96) (.t 97))),(aO 99 (.ld false 1 (.t 98))),(aO 100 (.len (.t 99))),(aO 101 (.mv (kI 0)))])
 (.block 6
 (.lps [0,125,6,8,12,92,93,99,100,101]
 (.seq (.reg [0,125,6,8,12,92,93,99,100,101] [
 (aO 102 (.cmp .lss .i64 (.t 101) (.t 100)))])
 (.seq (.cond (.t 102)
 .skip
 (.exit 6))
 (.seq (.block 7
 (.seq (.reg [0,125,6,8,12,92,93,99,100,101] [
 (aO 103 (.ixs 1 (.t 99) (.t 101))),(aO 104 (.ld false 1 (.t 103))),(aO 14 (.mv (.t 104)))])
 (.seq (.reg [0,125,6,8,12,14,92,93,99,100,101] [
 (aO 106 (.mv (.t 14))),(aO 107 (.cal 26 [(.t 106)])),(aO 105 (.mv (.t 107))),(aO 108 (.ext (.t 105) 0)),(aO 109 (.ext (.t 105) 1)),(aO 15 (.mv (.t 108))),(aO 16 (.mv (.t 109)))])
 (.reg [0,125,6,8,12,15,92,93,99,100,101] [
 (aO 110 (.mv (.t 6))),(aO 111 (.mv (.t 12))),(aO 112 (.mv (.t 6))),(aO 113 (.mv (.t 12))),(aO 114 (.ixs 1 (.t 112) (.t 113))),(aO 115 (.fa 0 (.t 114))),(aO 116 (.ld false 1 (.t 115))),(aO 117 (.mv (.t 15))),(aO 118 (.bsl 1 54 [.sc (.int .u64 0)] 1 [(0,(.t 117))])),(aO 119 (.app 1 54 8 (.t 116) (.t 118))),(aO 120 (.ixs 1 (.t 110) (.t 111))),(aO 121 (.fa 0 (.t 120))),(aN (.sto 1 (.t 121) (.t 119)))]))))
 (.reg [0,125,6,8,12,92,93,99,100,101] [
 (aO 122 (.ari .add true .i64 (.t 101) (kI 1))),(aO 101 (.mv (.t 122)))])))))))))
 (.reg [0,125,6,8,92,93] [
 (aO 123 (.ari .add true .i64 (.t 93) (kI 1))),(aO 93 (.mv (.t 123)))])))))))
 (.seq (.wk (.reg [0,125,6] [
 (aO 124 (.mv (.t 6))),(aO 4 (.mv (.t 124))),(aO 5 (.mv (kI 0)))]))
 .ret))
def ac33:AC:=
 (.seq (.reg [0,125,0,1] [
 (aO 2 (.box (.t 0))),(aO 3 (.box (.t 1))),(aO 4 (.mv (.c (.nil)))),(aO 5 (.mv (kI 0)))])
 (.seq (.seq (.reg [0,125,2,3] [
 (aO 17 (.ld true 5 (.t 2))),(aO 18 (.ld true 4 (.t 3))),(aO 19 (.cal 18 [(.t 17),(.t 18)])),(aO 20 (.cmp .neq .i64 (.t 19) (kI 0)))])
 (.cond (.t 20)
 (.seq (.reg [0,125] [
 (aO 4 (.mv (.c (.nil)))),(aO 5 (.mv (kI 310)))])
 .ret)
 .skip))
 (.seq (.reg [0,125,2,3] [
 (aO 21 (.fa 0 (.t 2))),(aO 22 (.ld false 1 (.t 21))),(aO 23 (.ari .add true .i64 (.t 22) (kI 1))),(aO 24 (.xo (.mkx 24 (.nil)) [(.t 23)])),(aO 6 (.mv (.t 24)))])
 (.seq (.reg [0,125,2,3,6] [
 (aO 25 (.fa 0 (.t 2))),(aO 26 (.ld false 1 (.t 25))),(aO 27 (.ari .add true .i64 (.t 26) (kI 1))),(aO 28 (.mks 1 3 8 [zI] (.t 27) (.t 27))),(aO 7 (.alc [.nil])),(aN (.sto 1 (.t 7) (.t 28)))])
 (.seq (.reg [0,125,2,3,6,7] [
 (aO 29 (.fa 0 (.t 2))),(aO 30 (.ld false 1 (.t 29))),(aO 31 (.ari .add true .i64 (.t 30) (kI 1))),(aO 32 (.xo (.mkx 24 (.nil)) [(.t 31)])),(aO 8 (.alc [.nil])),(aN (.sto 1 (.t 8) (.t 32)))])
 (.seq (.seq (.reg [0,125,2,3,6,7,8] [
 (aO 33 (.ld true 5 (.t 2))),(aO 34 (.clm 53 [(.t 33),(.t 3)]))])
 (.block 0
 (.rngf ⟨(.t 34),0,125,1000,[0,125,6,7,8,34],999⟩ [1035,1036]
 (.seq (.reg [1000,125,1007,1008,1035,1036] [
 (aO 1009 (.mv (.t 1035)))])
 (.reg [1000,125,1007,1008,1009,1036] [
 (aO 1010 (.alc [.sc (.pointer none),zI])),(aN (.sto 2 (.t 1010) (.t 1036)))]))
 (.block 1
 ac33_r9))))
 ac33_r17))))))
def rv33:List RV:=[.tmp 4,.tmp 5]
theorem ok33:fnOk Tryd.prog ac33 rv33 Tryd.f33=true:=by kernel_rfl
end Go.Proofs.YtecoaapkcnhlhaaDoor.Txt
namespace Go.Proofs.YtecoaapkcnhlhaaDoor
open Go Go.Vc Txt Go.Ham
theorem qE2{w:Nat}(h0:w≠0)(h:w<2^64):Go.Lib.ctz 64 w<64/\w&&&(w-1)=w^^^2^Go.Lib.ctz 64 w/\w&&&(w-1)<w:=by
 obtain⟨m,h1,h2⟩:=Go.Lib.ctzFrom_spec 64 w (by omega) h
 have e:Go.Lib.ctz 64 w=Go.Lib.ctzFrom 64 w:=by unfold Go.Lib.ctz;rw[if_neg h0]
 rw[e]
 obtain⟨a1,a2,_⟩:=qA7 (Go.Lib.ctzFrom 64 w) m
 rw[<- h1]at a1 a2
 exact⟨h2,a1,by rw[a1];exact a2⟩
theorem qE3(n:Nat)(h:n<2^64):FnEq Tryd.prog 38 [.sc (.int .u64 n)] (.int (syn n 64:Nat)):=by
 refine FnEq.of_awp Tryd.func38 ok38 (by show 1<=_;decide) (by simp only[push_cast,reduceIte,reduceEqDiff,reduceAdd,reduceSub,reduceMul,Nat.reduceBEq,reduceLT,reduceLeDiff,reduceCtorEq,reduceToNat,reduceNeg,cNI]<;>first|exact fun _ _=>trivial|simp) ?_
 simp only[ac38,rv38,push_cast,reduceIte,reduceEqDiff,reduceAdd,reduceSub,reduceMul,Nat.reduceBEq,reduceLT,reduceLeDiff,reduceCtorEq,reduceToNat,reduceNeg,cNI]
 refine qoL (fun m st=> ∃w s:Nat,m=w/\w<2^64/\s<64/\s^^^syn w 64=syn n 64/\st=⟨[(0,.sc (.int .u64 w)),(3,.int s)],[],[],[]⟩) n ?_ ?_
 ·refine⟨n,0,rfl,h,by decide,by simp,?_⟩
  simp only[push_cast,reduceIte,reduceEqDiff,reduceAdd,reduceSub,reduceMul,Nat.reduceBEq,reduceLT,reduceLeDiff,reduceCtorEq,reduceToNat,reduceNeg,cNI]
  try rfl
 rintro w st ⟨_,s,rfl,hw,hs,he,rfl⟩
 refine sB ?_
 refine qnU (fun h1=> ?_) fun h1=> ?_
 ·have hw0:w≠0:=by omega
  obtain⟨c1,c2,c3⟩:=qE2 hw0 hw
  refine qrr (qB8 w hw) sC ?_
  refine sB ?_
  have e1:bitF .xor .i64 (s:Int) (Go.Lib.ctz 64 w:Nat)=((s^^^Go.Lib.ctz 64 w:Nat):Int):=qBh (by omega) (by omega)
  have e2:IntKind.u64.wrap ((w:Int)-1)=((w-1:Nat):Int):=by rw[show(w:Int)-1=((w-1:Nat):Int)from by omega];exact qBa (by omega)
  rw[e1,e2,qBc hw (by omega)]
  refine⟨_,?_,_,_,rfl,?_,?_,?_,rfl⟩
  ·exact c3
  ·omega
  ·exact Nat.xor_lt_two_pow (n:=6) hs c1
  ·rw[<- he,c2,qzs,qzu,if_pos c1,Nat.xor_assoc,Nat.xor_comm (syn w 64),<- Nat.xor_assoc (Go.Lib.ctz 64 w),Nat.xor_self,Nat.zero_xor]
 ·have hw0:w=0:=by omega
  subst hw0
  rw[qzr,Nat.xor_zero]at he
  rw[he]
theorem qE4(w:Nat): ∀n,ons w n<=n
 |0=>Nat.le_refl _
 |n+1=>by have:=qE4 w n;rw[ons];cases w.testBit n<;>simp<;>omega
theorem qE5(n:Nat)(h:n<2^64):FnEq Tryd.prog 17 [.sc (.int .u64 n)] (.int (chkW n:Nat)):=by
 refine FnEq.of_awp Tryd.func17 ok17 (by show 1<=_;decide) (by simp only[push_cast,reduceIte,reduceEqDiff,reduceAdd,reduceSub,reduceMul,Nat.reduceBEq,reduceLT,reduceLeDiff,reduceCtorEq,reduceToNat,reduceNeg,cNI]<;>first|exact fun _ _=>trivial|simp) ?_
 simp only[ac17,rv17,push_cast,reduceIte,reduceEqDiff,reduceAdd,reduceSub,reduceMul,Nat.reduceBEq,reduceLT,reduceLeDiff,reduceCtorEq,reduceToNat,reduceNeg,cNI]
 have hol:=qE4 n 64
 refine qrr (qBk n h) sC ?_
 refine sB ?_
 refine⟨by omega,?_⟩
 refine qnU (fun h1=> ?_) fun h1=> ?_
 ·unfold chkW
  rw[if_pos (by omega)]
  rfl
 ·refine qrr (qE3 n h) sC ?_
  refine sB ?_
  refine qnU (fun h2=> ?_) fun h2=> ?_
  ·unfold chkW
   rw[if_neg (by omega),if_pos (by omega)]
   rfl
  ·unfold chkW
   rw[if_neg (by omega),if_neg (by omega)]
   rfl
theorem shl1{i:Nat}(hi:i<64):shfF .shl .u64 1 (i:Int)=((2^i:Nat):Int):=by
 have:=qBj (a:=1) (k:=i) (by omega) (by rw[Nat.one_mul];exact Nat.pow_lt_pow_right (by decide) hi)
 rw[Nat.one_mul]at this
 exact this
theorem qE6(n i:Nat)(h:n<2^64)(hi:i<64):FnEq Tryd.prog 46 [.sc (.int .u64 n),.int i] (.sc (.int .u64 (n^^^2^i:Nat))):=by
 refine FnEq.of_awp Tryd.func46 ok46 (by show 2<=_;decide) (by simp only[push_cast,reduceIte,reduceEqDiff,reduceAdd,reduceSub,reduceMul,Nat.reduceBEq,reduceLT,reduceLeDiff,reduceCtorEq,reduceToNat,reduceNeg,cNI]<;>first|exact fun _ _=>trivial|simp) ?_
 simp only[ac46,rv46,push_cast,reduceIte,reduceEqDiff,reduceAdd,reduceSub,reduceMul,Nat.reduceBEq,reduceLT,reduceLeDiff,reduceCtorEq,reduceToNat,reduceNeg,cNI]
 rw[decide_eq_false (show ¬(i:Int)<0 by omega)]
 refine sB ?_
 rw[decide_eq_false (show ¬(63:Int)<i by omega)]
 refine sB ?_
 rw[shl1 hi,qBe h (Nat.pow_lt_pow_right (by decide) hi)]
 exact⟨by omega,rfl⟩
theorem qE7 {E : Env} (hE : E.p = Tryd.prog) (hkk : E.kk <= 2000) {s : List (Nat × PV)} {b : List (Nat × List PV)} {a : List (Nat × Arr)} {m : List (Nat × Mp)} (hpn : ∀ ch st, ¬ E.pan ch st) (hs : qtT 2000 s = true) (id w p : Nat) (hb : lk b id = some [.sc (.int .u64 w)]) (hw : w < 2 ^ 64) (hp : p < 64) :
  FnM E 48 [.int p,.ptr id 0] ⟨s,b,a,m⟩ (fun r st' =>r= .tup []/\st' =⟨s,up b id [.sc (.int .u64 (w|||2^p:Nat))],a,m⟩):=by
 refine qub 2000 (by rw[hE];exact Tryd.func48) (by rw[hE];exact ok48_2000) (by show 2<=_;decide) hs hkk ?_ hpn
 simp only[ac48_2000,rv48_2000,qCo hs,qCn hs,qCp hs,qCq hs,qCr hs,hb,push_cast,reduceIte,reduceEqDiff,reduceAdd,reduceSub,reduceMul,Nat.reduceBEq,reduceLT,reduceLeDiff,reduceCtorEq,reduceToNat,reduceNeg,cNI]
 rw[shl1 hp,qBd hw (Nat.pow_lt_pow_right (by decide) hp)]
 exact⟨by omega,rfl⟩
def npl(p:Nat):Nat:=plc.countP fun x=>decide (x.2<p)
theorem qE8{p:Nat}(h1:3<=p)(h2:p<64):(p&&&(p-1)=0->npl (p+1)=npl p)/\(p&&&(p-1)≠0->plc[npl p]? =some (npl p,p)/\npl (p+1)=npl p+1)/\npl p<=57:=by
 have key:(List.range 64).all (fun p=>decide (p<3)||(if p&&&(p-1)=0 then decide (npl (p+1)=npl p)else decide (plc[npl p]? =some (npl p,p))&&decide (npl (p+1)=npl p+1))&&decide (npl p<=57))=true:=by decide+kernel
 have:=List.all_eq_true.1 key p (List.mem_range.2 h2)
 rw[decide_eq_false (show ¬p<3 by omega),Bool.false_or,Bool.and_eq_true,decide_eq_true_eq]at this
 obtain⟨h3,h4⟩:=this
 refine⟨fun e=> ?_,fun e=> ?_,h4⟩
 ·rw[if_pos e]at h3;simpa using h3
 ·rw[if_neg e,Bool.and_eq_true,decide_eq_true_eq,decide_eq_true_eq]at h3;exact h3
def plT(k p:Nat):List (Nat×PV):=[(200,.yl 999),(202,.int k),(203,.int p),(213,.yl 999),(214,.int k),(215,.int p)]
theorem qE9 {E : Env} (hE : E.p = Tryd.prog) (hkk : E.kk <= 200) (hpn : ∀ ch st, ¬ E.pan ch st) {s : List (Nat × PV)} (hs : qtT 200 s = true) (B : Nat -> List (Nat × List PV)) (a : List (Nat × Arr)) (m : List (Nat × Mp))
  (hY: ∀k p:Nat,plc[k]? =some (k,p)->p<64->E.Y 999 [.int k,.int p] ⟨s++plT k p,B k,a,m⟩ (fun st' =>st' =⟨s++plT k p,B (k+1),a,m⟩)):
  FnM E 47 [.yl 999] ⟨s,B 0,a,m⟩ (fun _ st' =>st' =⟨s,B 57,a,m⟩):=by
 refine qub 200 (by rw[hE];exact Tryd.func47) (by rw[hE];exact ok47_200) (by show 1<=_;decide) hs hkk ?_ hpn
 simp only[ac47_200,rv47_200,qCo hs,qCn hs,qCp hs,qCq hs,qCr hs,push_cast,reduceIte,reduceEqDiff,reduceAdd,reduceSub,reduceMul,Nat.reduceBEq,reduceLT,reduceLeDiff,reduceCtorEq,reduceToNat,reduceNeg,cNI]
 refine qoK (fun n st=> ∃p:Nat,3<=p/\p<=64/\n=64-p/\st=⟨s++[(200,.yl 999),(202,.int (npl p:Nat)),(203,.int p)],B (npl p),a,m⟩) 61 ⟨_,SWk.refl _,3,by omega,by omega,rfl,?_⟩ ?_
 ·simp only[qCn hs,qCp hs,qCq hs,push_cast,reduceIte,reduceEqDiff,reduceAdd,reduceSub,reduceMul,Nat.reduceBEq,reduceLT,reduceLeDiff,reduceCtorEq,reduceToNat,reduceNeg,cNI]
  rfl
 rintro n st ⟨p,h3,h64,rfl,rfl⟩
 simp only[qCo hs,qCn hs,qCp hs,qCq hs,qCr hs,push_cast,reduceIte,reduceEqDiff,reduceAdd,reduceSub,reduceMul,Nat.reduceBEq,reduceLT,reduceLeDiff,reduceCtorEq,reduceToNat,reduceNeg,cNI]
 refine qnU (fun h=> ?_) fun h=> ?_
 ·have hp2:p<64:=by omega
  obtain⟨n1,n2,n3⟩:=qE8 h3 hp2
  have e1:bitF .and .i64 (p:Int) ((p:Int)-1)=((p&&&(p-1):Nat):Int):=by
   rw[show(p:Int)-1=((p-1:Nat):Int)by omega];exact qBf (by omega) (by omega)
  rw[e1]
  refine⟨by omega,?_⟩
  refine qnU (fun h2=> ?_) fun h2=> ?_
  ·refine⟨by omega,_,SWk.refl _,64-(p+1),by omega,p+1,by omega,by omega,rfl,?_⟩
   rw[n1 (by omega)]
   rfl
  ·obtain⟨g1,g2⟩:=n2 (by omega)
   refine⟨_,hY (npl p) p g1 hp2,?_⟩
   rintro _ rfl
   simp only[plT,qCo hs,qCn hs,qCp hs,qCq hs,qCr hs,push_cast,reduceIte,reduceEqDiff,reduceAdd,reduceSub,reduceMul,Nat.reduceBEq,reduceLT,reduceLeDiff,reduceCtorEq,reduceToNat,reduceNeg,cNI]
   refine⟨by omega,by omega,_,SWk.refl _,64-(p+1),by omega,p+1,by omega,by omega,rfl,?_⟩
   rw[g2]
   rfl
 ·have hp2:p=64:=by omega
  subst hp2
  rw[show npl 64=57 from by decide+kernel]
def sctN(d k:Nat):Nat:=sctL d (plc.take k)
theorem qEa{d k p:Nat}(h:plc[k]? =some (k,p)):sctN d (k+1)=if d.testBit k then sctN d k|||2^p else sctN d k:=by
 obtain⟨h1,h2⟩:=List.getElem?_eq_some_iff.1 h
 unfold sctN sctL
 rw[List.take_succ_eq_append_getElem h1,List.foldl_append,h2]
 rfl
theorem qEb(d:Nat):sctN d 57=sct d:=by unfold sctN sct;rw[List.take_of_length_le (by decide)]
theorem qEc(d:Nat): ∀k,k<=57->sctN d k<2^64
 |0,_=>by simp[sctN,sctL]
 | k + 1, h => by
   have hl : k < plc.length := by have : plc.length = 57 := by decide
                                  omega
   have h1:plc[k]? =some (k,plc[k].2):=by
    rw[List.getElem?_eq_getElem hl]
    have:plc[k].1=k:=by simp[plc]
    exact congrArg some (Prod.ext this rfl)
   have:=qEc d k (by omega)
   have h2:=(qzE (List.getElem_mem hl)).2.1
   rw[qEa h1]
   split
   ·exact Nat.or_lt_two_pow this (Nat.pow_lt_pow_right (by decide) h2)
   ·exact this
def pw(k:Nat):Nat:=2^k
theorem qEd(s k:Nat):s&&&pw k≠0 ↔ s.testBit k=true:=by
 unfold pw
 constructor
 ·intro h
  cases hb:s.testBit k
  ·exfalso
   apply h
   apply Nat.eq_of_testBit_eq
   intro i
   rw[Nat.testBit_and,Nat.testBit_two_pow,Nat.zero_testBit]
   by_cases e:k=i
   ·subst e;rw[hb];rfl
   ·simp[e]
  ·rfl
 ·intro h e
  have:=congrArg (fun x=>x.testBit k) e
  simp[Nat.testBit_and,Nat.testBit_two_pow,h]at this
def prtN(w s k:Nat):Nat:=(List.range k).foldl (fun w k=>if s.testBit k then w|||2^(2^k)else w) w
theorem qEe(w s k:Nat):prtN w s (k+1)=if s.testBit k then prtN w s k|||2^pw k else prtN w s k:=by
 unfold prtN;rw[List.range_succ,List.foldl_append];rfl
theorem qEf{w:Nat}(h:w<2^64)(s:Nat): ∀k,k<=6->prtN w s k<2^64
 |0,_=>h
 | k + 1, hk => by
   have:=qEf h s k (by omega)
   rw[qEe]
   split
   ·refine Nat.or_lt_two_pow this (Nat.pow_lt_pow_right (by decide) ?_)
    exact Nat.lt_of_le_of_lt (Nat.pow_le_pow_right (by decide) (show k<=5 by omega)) (by decide)
   ·exact this
set_option maxHeartbeats 1000000 in
theorem qEg(n:Nat)(h:n<2^57):FnEq Tryd.prog 26 [.sc (.int .u64 n)] (.tup [.sc (.int .u64 (encW n:Nat)),.int 0]):=by
 refine FnEq.of_awp Tryd.func26 ok26 (by show 1<=_;decide) (by simp only[push_cast,reduceIte,reduceEqDiff,reduceAdd,reduceSub,reduceMul,Nat.reduceBEq,reduceLT,reduceLeDiff,reduceCtorEq,reduceToNat,reduceNeg,cNI]<;>first|exact fun _ _=>trivial|simp) ?_
 simp only[ac26,rv26,push_cast,reduceIte,reduceEqDiff,reduceAdd,reduceSub,reduceMul,Nat.reduceBEq,reduceLT,reduceLeDiff,reduceCtorEq,reduceToNat,reduceNeg,cNI]
 refine qnU (fun h1=>by omega) fun _=> ?_
 refine qua (st1:=⟨[(1,.ptr 1 0),(4,.ptr 4 0),(5,.ptr 5 0)],[(1,[.sc (.int .u64 n)]),(4,[.sc (.int .u64 (sctN n 0:Nat))]),(5,[.clo 48 [4]])],[],[]⟩) (Env.of_noY _) rfl
  (qE9 (s:=[(1,.ptr 1 0),(4,.ptr 4 0),(5,.ptr 5 0)]) rfl (by show 0+43<=200;decide) (fun _ _ h=>h) rfl (fun k=>[(1,[.sc (.int .u64 n)]),(4,[.sc (.int .u64 (sctN n k:Nat))]),(5,[.clo 48 [4]])]) [] [] fun k p hk hp=> ?_) ?_
 ·simp only[plT,List.cons_append,List.nil_append]
  refine qCw rfl rfl sC ?_
  unfold qu6
  refine sB ?_
  have hk57:k<57:=(List.getElem?_eq_some_iff.1 hk).1
  have hW:=qEc n k (by omega)
  have e1:bitF .and .u64 (shfF .shr .u64 (n:Int) (k:Int)) 1=((n/2^k&&&1:Nat):Int):=by
   rw[qBi n k (by omega)]
   exact qBc (b:=1) (Nat.lt_of_le_of_lt (Nat.div_le_self _ _) (by omega)) (by decide)
  have e2:(n/2^k&&&1=1) ↔ n.testBit k=true:=by rw[Nat.testBit_eq_decide_div_mod_eq,decide_eq_true_eq,Nat.and_one_is_mod]
  rw[e1]
  refine⟨by omega,?_⟩
  refine qnU (fun h2=> ?_) fun h2=> ?_
  ·have hb:n.testBit k=true:=e2.1 (by omega)
   refine qsL (qE7 rfl (by decide) (fun _ _ h=>h) rfl 4 (sctN n k) p rfl hW hp) ?_
   refine sB ?_
   rw[qEa hk,if_pos hb]
  ·have hb:n.testBit k=false:=by
    cases hb:n.testBit k
    ·rfl
    ·have:=e2.2 hb;omega
   rw[qEa hk,if_neg (by rw[hb];decide)]
 ·rintro rv _ rfl
  rw[qEb]
  refine sB ?_
  have hs:sct n<2^64:=qzW n
  have hS:=qzw (sct n) 64 (Nat.le_refl _)
  refine qrr (qE3 _ hs) sC ?_
  refine sB ?_
  refine qoL (fun j st=> ∃k:Nat,k<=6/\j=6-k/\st=⟨[(4,.ptr 4 0),(5,.ptr 5 0),(8,.int (syn (sct n) 64:Nat)),(9,.int (pw k:Nat))],[(4,[.sc (.int .u64 (prtN (sct n) (syn (sct n) 64) k:Nat))]),(5,[.clo 48 [4]])],[],[]⟩) 6 ⟨0,by omega,rfl,?_⟩ ?_
  ·refine sB ?_
   rfl
  rintro j st ⟨k,hk,rfl,rfl⟩
  have hP:=qEf hs (syn (sct n) 64) k hk
  refine sB ?_
  have hpk:pw k<=64/\(pw k<64 ↔ k<6):=by
   have:k=0\/k=1\/k=2\/k=3\/k=4\/k=5\/k=6:=by omega
   rcases this with rfl|rfl|rfl|rfl|rfl|rfl|rfl<;>decide
  refine qnU (fun h1=> ?_) fun h1=> ?_
  ·have hk6:k<6:=hpk.2.1 (by omega)
   have e1:bitF .and .i64 (syn (sct n) 64:Nat) (pw k:Nat)=((syn (sct n) 64&&&pw k:Nat):Int):=qBf (by omega) (by omega)
   have e2:syn (sct n) 64&&&pw k≠0 ↔ (syn (sct n) 64).testBit k=true:=by
    exact qEd _ k
   have e3:pw (k+1)=pw k*2:=Nat.pow_succ ..
   rw[e1]
   refine qnU (fun h2=> ?_) fun h2=> ?_
   ·have hb:=e2.1 (by omega)
    refine qsL (qE7 rfl (by decide) (fun _ _ h=>h) rfl 4 _ (pw k) rfl hP (by omega)) ?_
    refine sB ?_
    refine⟨by omega,6-(k+1),by omega,k+1,by omega,rfl,?_⟩
    rw[qEe,if_pos hb,e3]
    rfl
   ·have hb : (syn (sct n) 64).testBit k = false := by
     cases hb:(syn (sct n) 64).testBit k
     ·rfl
     ·have:=e2.2 hb;omega
    refine⟨by omega,6-(k+1),by omega,k+1,by omega,rfl,?_⟩
    rw[qEe,if_neg (by rw[hb];decide),e3]
    rfl
  ·have hk6:k=6:=by omega
   subst hk6
   have hl:=qE4 (prtN (sct n) (syn (sct n) 64) 6) 64
   refine qrr (qBk _ hP) sC ?_
   refine sB ?_
   refine⟨by omega,?_⟩
   refine qnU (fun h2=> ?_) fun h2=> ?_
   ·refine qsL (qE7 rfl (by decide) (fun _ _ h=>h) rfl 4 _ 0 rfl hP (by decide)) ?_
    refine sB ?_
    have:encW n=prtN (sct n) (syn (sct n) 64) 6|||2^0:=by
     show fin (prtN (sct n) (syn (sct n) 64) 6)=_
     unfold fin
     rw[if_pos (by omega)]
    rw[this]
    done
   ·have : encW n = prtN (sct n) (syn (sct n) 64) 6 := by
     show fin (prtN (sct n) (syn (sct n) 64) 6)=_
     unfold fin
     rw[if_neg (by omega)]
    rw[this]
    done
end Go.Proofs.YtecoaapkcnhlhaaDoor
namespace Go.Proofs.YtecoaapkcnhlhaaDoor
open Go Go.Vc Txt Go.Ham
def gatN(w k:Nat):Nat:=gatL w (plc.take k)
theorem qEh{w k p:Nat}(h:plc[k]? =some (k,p)):gatN w (k+1)=if w.testBit p then gatN w k|||2^k else gatN w k:=by
 obtain⟨h1,h2⟩:=List.getElem?_eq_some_iff.1 h
 unfold gatN gatL
 rw[List.take_succ_eq_append_getElem h1,List.foldl_append,h2]
 rfl
theorem qEi(w:Nat):gatN w 57=gat w:=by unfold gatN gat;rw[List.take_of_length_le (by decide)]
theorem qEj{k:Nat}(h:k<57): ∃p,plc[k]? =some (k,p)/\p<64:=by
 have hl : k < plc.length := by have : plc.length = 57 := by decide
                                omega
 refine⟨plc[k].2,?_,(qzE (List.getElem_mem hl)).2.1⟩
 rw[List.getElem?_eq_getElem hl]
 have:plc[k].1=k:=by simp[plc]
 exact congrArg some (Prod.ext this rfl)
theorem qEk(w:Nat): ∀k,k<=57->gatN w k<2^57
 |0,_=>by simp[gatN,gatL]
 | k + 1, h => by
   obtain⟨p,hp,_⟩:=qEj (show k<57 by omega)
   have:=qEk w k (by omega)
   rw[qEh hp]
   split
   ·exact Nat.or_lt_two_pow this (Nat.pow_lt_pow_right (by decide) (by omega))
   ·exact this
def decV(w:Nat):PV:=if chkW w=2 then .tup [.sc (.int .u64 0),.int 0,.int 6]else .tup [.sc (.int .u64 (datW w:Nat)),.int (chkW w:Nat),.int 0]
theorem qEl(n v:Nat)(hv:v<2^64)(hc:chkW n≠2)(hd:datW n=gat v):awp (Env.of Tryd.prog) ac25_r6 (retK rv25 fun x=>Sub x (decV n)) ⟨[(1,.ptr 1 0),(5,.int (chkW n:Nat))],[(1,[.sc (.int .u64 v)])],[],[]⟩:=by
 simp only[ac25_r6,rv25,push_cast,reduceIte,reduceEqDiff,reduceAdd,reduceSub,reduceMul,Nat.reduceBEq,reduceLT,reduceLeDiff,reduceCtorEq,reduceToNat,reduceNeg,cNI]
 refine qua (st1:=⟨[(1,.ptr 1 0),(5,.int (chkW n:Nat)),(6,.ptr 6 0)],[(1,[.sc (.int .u64 v)]),(6,[.sc (.int .u64 (gatN v 0:Nat))])],[],[]⟩) (Env.of_noY _) rfl
  (qE9 (s:=[(1,.ptr 1 0),(5,.int (chkW n:Nat)),(6,.ptr 6 0)]) rfl (by show 0+31<=200;decide) (fun _ _ h=>h) rfl (fun k=>[(1,[.sc (.int .u64 v)]),(6,[.sc (.int .u64 (gatN v k:Nat))])]) [] [] fun k p hk hp=> ?_) ?_
 ·simp only[plT,List.cons_append,List.nil_append]
  refine qCw rfl rfl sC ?_
  unfold qu6
  refine sB ?_
  have hk57:k<57:=(List.getElem?_eq_some_iff.1 hk).1
  have hW:=qEk v k (by omega)
  have e1:bitF .and .u64 (shfF .shr .u64 (v:Int) (p:Int)) 1=((v/2^p&&&1:Nat):Int):=by
   rw[qBi v p (by omega)]
   exact qBc (b:=1) (Nat.lt_of_le_of_lt (Nat.div_le_self _ _) (by omega)) (by decide)
  have e3:v/2^p&&&1=(v.testBit p).toNat:=by
   rw[Nat.testBit_eq_decide_div_mod_eq,Nat.and_one_is_mod]
   rcases Nat.mod_two_eq_zero_or_one (v/2^p)with e|e<;>rw[e]<;>rfl
  have e4:(v.testBit p).toNat*2^k<2^57:=by
   have:2^k<2^57:=Nat.pow_lt_pow_right (by decide) hk57
   cases v.testBit p<;>simp<;>omega
  rw[e1,e3,qBj (by omega) (by omega),qBd (by omega) (by omega)]
  refine⟨by omega,by omega,?_⟩
  rw[show gatN v k|||(v.testBit p).toNat*2^k=gatN v (k+1)from by rw[qEh hk];cases v.testBit p<;>simp]
 ·rintro rv _ rfl
  rw[qEi]
  refine sB ?_
  unfold decV
  rw[if_neg hc,hd]
  simp only[push_cast,reduceIte,reduceEqDiff,reduceAdd,reduceSub,reduceMul,Nat.reduceBEq,reduceLT,reduceLeDiff,reduceCtorEq,reduceToNat,reduceNeg,cNI]
  done
set_option maxHeartbeats 1000000 in
theorem qEm(n:Nat)(h:n<2^64):FnEq Tryd.prog 25 [.sc (.int .u64 n)] (decV n):=by
 have hp:Perm (decV n):=by unfold decV;split<;>(simp only[push_cast,reduceIte,reduceEqDiff,reduceAdd,reduceSub,reduceMul,Nat.reduceBEq,reduceLT,reduceLeDiff,reduceCtorEq,reduceToNat,reduceNeg,cNI]<;>exact fun _ _=>trivial)
 refine FnEq.of_awp Tryd.func25 ok25 (by show 1<=_;decide) hp ?_
 simp only[ac25,push_cast,reduceIte,reduceEqDiff,reduceAdd,reduceSub,reduceMul,Nat.reduceBEq,reduceLT,reduceLeDiff,reduceCtorEq,reduceToNat,reduceNeg,cNI]
 refine qrr (qE5 n h) sC ?_
 refine sB ?_
 refine qnU (fun h1=> ?_) fun h1=> ?_
 ·unfold decV
  rw[if_pos (by omega)]
  simp only[rv25,push_cast,reduceIte,reduceEqDiff,reduceAdd,reduceSub,reduceMul,Nat.reduceBEq,reduceLT,reduceLeDiff,reduceCtorEq,reduceToNat,reduceNeg,cNI]
  done
 refine qnU (fun h2=> ?_) fun h2=> ?_
 ·have hc:chkW n=1:=by omega
  obtain⟨hs,_⟩:=fix1 hc
  refine qrt (qE3 n h) sC rfl ?_
  refine sB ?_
  refine qrr (qE6 n (syn n 64) h hs) sC ?_
  refine sB ?_
  exact qEl n _ (Nat.xor_lt_two_pow h (Nat.pow_lt_pow_right (by decide) hs)) (by omega) (by unfold datW;rw[if_pos hc])
 ·exact qEl n n h (by omega) (by unfold datW;rw[if_neg (by omega)])
end Go.Proofs.YtecoaapkcnhlhaaDoor
namespace Go.Proofs.YtecoaapkcnhlhaaDoor.Txt
open Go Go.Vc
set_option maxRecDepth 100000
def ac71_200:AC:=
 (.seq (.reg [200,27,200,201] [
 (aO 207 (.mv (.t 201))),(aO 208 (.len (.t 207))),(aO 209 (.mv (kI 0)))])
 (.block 0
 (.lps [200,27,200,207,208,209]
 (.seq (.reg [200,27,200,207,208,209] [
 (aO 210 (.cmp .lss .i64 (.t 209) (.t 208)))])
 (.seq (.cond (.t 210)
 .skip
 (.exit 0))
 (.seq (.block 1
 (.seq (.reg [200,27,200,207,208,209] [
 (aO 211 (.ixs 1 (.t 207) (.t 209))),(aO 212 (.ld false 1 (.t 211))),(aO 205 (.mv (.t 212)))])
 (.seq (.reg [200,27,200,205,207,208,209] [
 (aO 213 (.mv (.t 200))),(aO 214 (.nck (.t 213))),(aO 215 (.ld false 1 (.t 214))),(aO 216 (.mv (.t 205))),(aO 217 (.bit .xor .u64 (.t 215) (.t 216))),(aO 218 (.ari .mul false .u64 (.t 217) (.c (.sc (.int .u64 15485907386658061715))))),(aO 206 (.mv (.t 218)))])
 (.reg [200,27,200,206,207,208,209] [
 (aO 219 (.mv (.t 200))),(aO 220 (.mv (.t 206))),(aO 221 (.mv (.t 206))),(aO 222 (.shf .shr .u64 (.t 221) (.c (.sc (.int .u64 32))))),(aO 223 (.bit .xor .u64 (.t 220) (.t 222))),(aO 224 (.ari .mul false .u64 (.t 223) (.c (.sc (.int .u64 11562461410679940143))))),(aO 225 (.nck (.t 219))),(aN (.sto 1 (.t 225) (.t 224)))]))))
 (.reg [200,27,200,207,208,209] [
 (aO 226 (.ari .add true .i64 (.t 209) (kI 1))),(aO 209 (.mv (.t 226)))])))))))
def rv71_200:List RV:=[]
theorem ok71_200:qh3 Tryd.prog 200 ac71_200 rv71_200 Tryd.f71=true:=by kernel_rfl

def ac50:AC:=
 (.seq (.reg [0,27,0] [
 (aO 2 (.mv (.c (.sc (.int .u64 0)))))])
 (.seq (.reg [0,27,0] [
 (aO 3 (.alc [.sc (.int .u64 0)])),(aN (.sto 1 (.t 3) (.c (.sc (.int .u64 512970876019)))))])
 (.seq (.reg [0,27,0,3] [
 (aO 7 (.xo (.pf (.bm 71)) [(.t 3)])),(aO 4 (.mv (.t 7)))])
 (.seq (.seq (.reg [0,27,0,3,4] [
 (aO 8 (.mv (.t 0))),(aO 9 (.len (.t 8))),(aO 10 (.mv (kI 0)))])
 (.block 0
 (.loop [0,27,0,3,4,8,9,10]
 (.seq (.reg [0,27,0,3,4,8,9,10] [
 (aO 11 (.cmp .lss .i64 (.t 10) (.t 9)))])
 (.seq (.cond (.t 11)
 .skip
 (.exit 0))
 (.seq (.block 1
 (.seq (.reg [0,27,0,3,4,8,9,10] [
 (aO 12 (.ixs 1 (.t 8) (.t 10))),(aO 13 (.ld false 1 (.t 12))),(aO 6 (.mv (.t 13)))])
 (.reg [0,27,0,3,4,6,8,9,10] [
 (aO 14 (.mv (.t 4))),(aO 15 (.mv (.t 6))),(aO 16 (.cnv false .u64 (.t 15))),(aO 17 (.bsl 1 54 [.sc (.int .u64 0)] 1 [(0,(.t 16))])),(aO 18 (.clv (.t 14) [(.t 17)]))])))
 (.reg [0,27,0,3,4,8,9,10] [
 (aO 19 (.ari .add true .i64 (.t 10) (kI 1))),(aO 10 (.mv (.t 19)))])))))))
 (.seq (.reg [0,27,0,3,4] [
 (aO 20 (.mv (.t 4))),(aO 21 (.mv (.t 0))),(aO 22 (.len (.t 21))),(aO 23 (.cnv false .u64 (.t 22))),(aO 24 (.bsl 1 54 [.sc (.int .u64 0)] 1 [(0,(.t 23))])),(aO 25 (.clv (.t 20) [(.t 24)]))])
 (.seq (.reg [0,27,3] [
 (aO 26 (.ld false 1 (.t 3))),(aO 2 (.mv (.t 26)))])
 .ret))))))
def rv50:List RV:=[.tmp 2]
theorem ok50:fnOk Tryd.prog ac50 rv50 Tryd.f50=true:=by kernel_rfl

def ac28:AC:=
 (.seq (.reg [0,39,0] [
 (aO 2 (.mv (.c (.sc (.int .u64 0)))))])
 (.seq (.reg [0,39,0] [
 (aO 8 (.mv (.t 0))),(aO 9 (.len (.t 8))),(aO 10 (.bsl 1 3 [zI] 1 [(0,(.t 9))])),(aO 3 (.mv (.t 10)))])
 (.seq (.seq (.reg [0,39,0,3] [
 (aO 11 (.mv (.t 0))),(aO 12 (.len (.t 11))),(aO 13 (.mv (kI 0)))])
 (.block 0
 (.loop [0,39,3,11,12,13]
 (.seq (.reg [0,39,3,11,12,13] [
 (aO 14 (.cmp .lss .i64 (.t 13) (.t 12)))])
 (.seq (.cond (.t 14)
 .skip
 (.exit 0))
 (.seq (.block 1
 (.seq (.reg [0,39,3,11,12,13] [
 (aO 15 (.ixs 1 (.t 11) (.t 13))),(aO 16 (.ld true 1 (.t 15))),(aO 5 (.alc [.nil])),(aN (.sto 1 (.t 5) (.t 16)))])
 (.seq (.reg [0,39,3,5,11,12,13] [
 (aO 17 (.mv (.t 3))),(aO 18 (.fa 0 (.t 5))),(aO 19 (.ld false 1 (.t 18))),(aO 20 (.len (.t 19))),(aO 21 (.bsl 1 3 [zI] 1 [(0,(.t 20))])),(aO 22 (.app 1 3 8 (.t 17) (.t 21))),(aO 3 (.mv (.t 22)))])
 (.seq (.reg [0,39,3,5,11,12,13] [
 (aO 23 (.fa 0 (.t 5))),(aO 24 (.ld false 1 (.t 23))),(aO 25 (.len (.t 24))),(aO 26 (.mv (kI 0)))])
 (.block 2
 (.loop [0,39,3,11,12,13,24,25,26]
 (.seq (.reg [0,39,3,11,12,13,24,25,26] [
 (aO 27 (.cmp .lss .i64 (.t 26) (.t 25)))])
 (.seq (.cond (.t 27)
 .skip
 (.exit 2))
 (.seq (.block 3
 (.seq (.reg [0,39,3,11,12,13,24,25,26] [
 (aO 28 (.ixs 1 (.t 24) (.t 26))),(aO 29 (.ld false 1 (.t 28))),(aO 7 (.mv (.t 29)))])
 (.reg [0,39,3,7,11,12,13,24,25,26] [
 (aO 30 (.mv (.t 3))),(aO 31 (.mv (.t 7))),(aO 32 (.cnv false .i64 (.t 31))),(aO 33 (.bsl 1 3 [zI] 1 [(0,(.t 32))])),(aO 34 (.app 1 3 8 (.t 30) (.t 33))),(aO 3 (.mv (.t 34)))])))
 (.reg [0,39,3,11,12,13,24,25,26] [
 (aO 35 (.ari .add true .i64 (.t 26) (kI 1))),(aO 26 (.mv (.t 35)))]))))))))))
 (.reg [0,39,3,11,12,13] [
 (aO 36 (.ari .add true .i64 (.t 13) (kI 1))),(aO 13 (.mv (.t 36)))])))))))
 (.seq (.reg [0,39,3] [
 (aO 37 (.mv (.t 3))),(aO 38 (.cal 50 [(.t 37)])),(aO 2 (.mv (.t 38)))])
 .ret))))
def rv28:List RV:=[.tmp 2]
theorem ok28:fnOk Tryd.prog ac28 rv28 Tryd.f28=true:=by kernel_rfl

def ac29:AC:=
 (.seq (.reg [0,35,0,1] [
 (aO 2 (.box (.t 0))),(aO 4 (.mv (kI 0)))])
 (.seq (.reg [0,35,1,2] [
 (aO 6 (.mv (.t 1))),(aO 7 (.fa 2 (.t 2))),(aO 8 (.ld false 1 (.t 7))),(aO 9 (.ari .mul true .i64 (kI 2) (.t 8))),(aO 10 (.ari .add true .i64 (kI 6) (.t 9))),(aO 11 (.dvd .quo true .i64 (.t 6) (.t 10))),(aO 5 (.mv (.t 11)))])
 (.seq (.block 0
 (.seq (.reg [0,35,1,2,5] [
 (aO 13 (.mv (.t 1))),(aO 14 (.cmp .lss .i64 (.t 13) (kI 0))),(aO 15 (.mv (.t 14))),⟨some 16,some (15,false),.mv (.t 1)⟩,⟨some 17,some (15,false),.ld true 5 (.t 2)⟩,⟨some 18,some (15,false),.cal 39 [(.t 17)]⟩,⟨some 19,some (15,false),.cmp .geq .i64 (.t 16) (.t 18)⟩,(aO 20 (.pick (.t 15) (.c (.sc (.bool true))) (.t 19))),(aO 12 (.mv (.t 20)))])
 (.cut [0,35,2,5,12] (.cond (.t 12)
 (.seq (.reg [0,35] [
 (aO 4 (.mv (kI (-1))))])
 .ret)
 (.seq (.reg [0,35,2,5] [
 (aO 22 (.mv (.t 5))),(aO 23 (.fa 0 (.t 2))),(aO 24 (.ld false 1 (.t 23))),(aO 25 (.fa 1 (.t 2))),(aO 26 (.ld false 1 (.t 25))),(aO 27 (.ari .mul true .i64 (.t 24) (.t 26))),(aO 28 (.cmp .geq .i64 (.t 22) (.t 27))),(aO 21 (.mv (.t 28)))])
 (.cond (.t 21)
 (.seq (.reg [0,35,2] [
 (aO 29 (.fa 0 (.t 2))),(aO 30 (.ld false 1 (.t 29))),(aO 4 (.mv (.t 30)))])
 .ret)
 .skip))))))
 (.seq (.reg [0,35,2,5] [
 (aO 31 (.mv (.t 5))),(aO 32 (.fa 0 (.t 2))),(aO 33 (.ld false 1 (.t 32))),(aO 34 (.dvd .rem true .i64 (.t 31) (.t 33))),(aO 4 (.mv (.t 34)))])
 .ret))))
def rv29:List RV:=[.tmp 4]
theorem ok29:fnOk Tryd.prog ac29 rv29 Tryd.f29=true:=by kernel_rfl

def ac70:AC:=
 (.seq (.reg [0,26,0,1] [
 (aO 4 (.mv (.c (.sc (.bool false)))))])
 (.seq (.seq (.reg [0,26,0,1] [
 (aO 6 (.mv (.t 0))),(aO 7 (.len (.t 6))),(aO 8 (.mv (.t 1))),(aO 9 (.len (.t 8))),(aO 10 (.cmp .neq .i64 (.t 7) (.t 9)))])
 (.cond (.t 10)
 (.seq (.reg [0,26] [
 (aO 4 (.mv (.c (.sc (.bool false)))))])
 .ret)
 .skip))
 (.seq (.seq (.reg [0,26,0,1] [
 (aO 5 (.mv (kI 0)))])
 (.block 0
 (.loop [0,26,0,1,5]
 (.seq (.seq (.reg [0,26,0,1,5] [
 (aO 11 (.mv (.t 5))),(aO 12 (.mv (.t 0))),(aO 13 (.len (.t 12))),(aO 14 (.cmp .lss .i64 (.t 11) (.t 13)))])
 (.cond (.t 14)
 .skip
 (.exit 0)))
 (.seq (.block 1
 (.seq (.drw [0,26,0,1,5] [
 (eT 17 (.mv (.t 0))),(eT 18 (.mv (.t 5))),(eT 19 (.ixs 1 (.t 17) (.t 18))),(eT 20 (.ld false 1 (.t 19))),(eT 21 (.mv (.t 1))),(eT 22 (.mv (.t 5))),(eT 23 (.ixs 1 (.t 21) (.t 22))),(eT 24 (.ld false 1 (.t 23))),(eF 25 (.cmp .neq .u64 (.t 20) (.t 24)))])
 (.cond (.t 25)
 (.seq (.reg [0,26] [
 (aO 4 (.mv (.c (.sc (.bool false)))))])
 .ret)
 .skip)))
 (.reg [0,26,0,1,5] [
 (aO 15 (.mv (.t 5))),(aO 16 (.ari .add true .i64 (.t 15) (kI 1))),(aO 5 (.mv (.t 16)))]))))))
 (.seq (.reg [0,26] [
 (aO 4 (.mv (.c (.sc (.bool true)))))])
 .ret))))
def rv70:List RV:=[.tmp 4]
theorem ok70:fnOk Tryd.prog ac70 rv70 Tryd.f70=true:=by kernel_rfl

def ac45:AC:=
 (.seq (.reg [0,49,0,1] [
 (aO 4 (.mv (.c (.nil))))])
 (.seq (.reg [0,49,0,1] [
 (aO 7 (.bsl 1 3 [zI] 0 [])),(aO 5 (.mv (.t 7)))])
 (.seq (.seq (.reg [0,49,0,1,5] [
 (aO 6 (.mv (kI 0)))])
 (.block 0
 (.loop [0,49,0,1,5,6]
 (.seq (.seq (.reg [0,49,0,1,5,6] [
 (aO 8 (.mv (.t 6))),(aO 9 (.mv (.t 0))),(aO 10 (.len (.t 9))),(aO 11 (.cmp .lss .i64 (.t 8) (.t 10))),(aO 12 (.mv (.t 11))),⟨some 13,some (12,false),.mv (.t 6)⟩,⟨some 14,some (12,false),.mv (.t 1)⟩,⟨some 15,some (12,false),.len (.t 14)⟩,⟨some 16,some (12,false),.cmp .lss .i64 (.t 13) (.t 15)⟩,(aO 17 (.pick (.t 12) (.c (.sc (.bool true))) (.t 16)))])
 (.cut [0,49,0,1,5,6,17] (.cond (.t 17)
 .skip
 (.exit 0))))
 (.seq (.block 1
 (.seq (.drw [0,49,0,1,5,6] [
 (eT 20 (.mv (.t 6))),(eT 21 (.mv (.t 0))),(eT 22 (.len (.t 21))),(eF 23 (.cmp .geq .i64 (.t 20) (.t 22))),(eF 24 (.mv (.t 23))),⟨⟨some 25,some (24,false),.mv (.t 6)⟩,[],[],true⟩,⟨⟨some 26,some (24,false),.mv (.t 1)⟩,[],[],true⟩,⟨⟨some 27,some (24,false),.len (.t 26)⟩,[],[],true⟩,⟨⟨some 28,some (24,false),.cmp .geq .i64 (.t 25) (.t 27)⟩,[],[],false⟩,(eF 29 (.pick (.t 24) (.c (.sc (.bool true))) (.t 28))),(eF 30 (.mv (.t 29))),⟨⟨some 31,some (30,false),.mv (.t 0)⟩,[],[],true⟩,⟨⟨some 32,some (30,false),.mv (.t 6)⟩,[],[],true⟩,⟨⟨some 33,some (30,false),.ixs 1 (.t 31) (.t 32)⟩,[],[],true⟩,⟨⟨some 34,some (30,false),.fa 0 (.t 33)⟩,[],[],true⟩,⟨⟨some 35,some (30,false),.ld false 1 (.t 34)⟩,[],[],true⟩,⟨⟨some 36,some (30,false),.mv (.t 1)⟩,[],[],true⟩,⟨⟨some 37,some (30,false),.mv (.t 6)⟩,[],[],true⟩,⟨⟨some 38,some (30,false),.ixs 1 (.t 36) (.t 37)⟩,[],[],true⟩,⟨⟨some 39,some (30,false),.fa 0 (.t 38)⟩,[],[],true⟩,⟨⟨some 40,some (30,false),.ld false 1 (.t 39)⟩,[],[],true⟩,⟨⟨some 41,some (30,false),.cal 70 [(.t 35),(.t 40)]⟩,[],[],false⟩,⟨⟨some 42,some (30,false),.not (.t 41)⟩,[],[],false⟩,(eF 43 (.pick (.t 30) (.c (.sc (.bool true))) (.t 42)))])
 (.cut [0,49,0,1,5,6,43] (.cond (.t 43)
 (.reg [0,49,0,1,5,6] [
 (aO 44 (.mv (.t 5))),(aO 45 (.mv (.t 6))),(aO 46 (.bsl 1 3 [zI] 1 [(0,(.t 45))])),(aO 47 (.app 1 3 8 (.t 44) (.t 46))),(aO 5 (.mv (.t 47)))])
 .skip))))
 (.reg [0,49,0,1,5,6] [
 (aO 18 (.mv (.t 6))),(aO 19 (.ari .add true .i64 (.t 18) (kI 1))),(aO 6 (.mv (.t 19)))]))))))
 (.seq (.reg [0,49,5] [
 (aO 48 (.mv (.t 5))),(aO 4 (.mv (.t 48)))])
 .ret))))
def rv45:List RV:=[.tmp 4]
theorem ok45:fnOk Tryd.prog ac45 rv45 Tryd.f45=true:=by kernel_rfl

def ac22:AC:=
 (.seq (.reg [0,10,0,1] [
 (aO 4 (.mv (.c (.sc (.bool false)))))])
 (.seq (.reg [0,10,0,1] [
 (aO 5 (.mv (.t 0))),(aO 6 (.mv (.t 1))),(aO 7 (.cal 45 [(.t 5),(.t 6)])),(aO 8 (.len (.t 7))),(aO 9 (.cmp .eql .i64 (.t 8) (kI 0))),(aO 4 (.mv (.t 9)))])
 .ret))
def rv22:List RV:=[.tmp 4]
theorem ok22:fnOk Tryd.prog ac22 rv22 Tryd.f22=true:=by kernel_rfl

def ac49:AC:=
 (.seq (.reg [0,26,0,1] [
 (aO 4 (.mv (.c (.sc (.bool false)))))])
 (.seq (.seq (.reg [0,26,0,1] [
 (aO 6 (.mv (.t 0))),(aO 7 (.len (.t 6))),(aO 8 (.mv (.t 1))),(aO 9 (.len (.t 8))),(aO 10 (.cmp .neq .i64 (.t 7) (.t 9)))])
 (.cond (.t 10)
 (.seq (.reg [0,26] [
 (aO 4 (.mv (.c (.sc (.bool false)))))])
 .ret)
 .skip))
 (.seq (.seq (.reg [0,26,0,1] [
 (aO 11 (.mv (.t 0))),(aO 12 (.len (.t 11))),(aO 13 (.mv (kI 0)))])
 (.block 0
 (.loop [0,26,0,1,12,13]
 (.seq (.reg [0,26,0,1,12,13] [
 (aO 14 (.cmp .lss .i64 (.t 13) (.t 12)))])
 (.seq (.cond (.t 14)
 .skip
 (.exit 0))
 (.seq (.block 1
 (.seq (.reg [0,26,0,1,12,13] [
 (aO 15 (.mv (.t 13))),(aO 5 (.mv (.t 15)))])
 (.seq (.drw [0,26,0,1,5,12,13] [
 (eT 16 (.mv (.t 0))),(eT 17 (.mv (.t 5))),(eT 18 (.ixs 1 (.t 16) (.t 17))),(eT 19 (.ld false 1 (.t 18))),(eT 20 (.mv (.t 1))),(eT 21 (.mv (.t 5))),(eT 22 (.ixs 1 (.t 20) (.t 21))),(eT 23 (.ld false 1 (.t 22))),(eF 24 (.cmp .neq .u64 (.t 19) (.t 23)))])
 (.cond (.t 24)
 (.seq (.reg [0,26] [
 (aO 4 (.mv (.c (.sc (.bool false)))))])
 .ret)
 .skip))))
 (.reg [0,26,0,1,12,13] [
 (aO 25 (.ari .add true .i64 (.t 13) (kI 1))),(aO 13 (.mv (.t 25)))])))))))
 (.seq (.reg [0,26] [
 (aO 4 (.mv (.c (.sc (.bool true)))))])
 .ret))))
def rv49:List RV:=[.tmp 4]
theorem ok49:fnOk Tryd.prog ac49 rv49 Tryd.f49=true:=by kernel_rfl

def ac27:AC:=
 (.seq (.reg [0,45,0,1] [
 (aO 4 (.mv (.c (.nil))))])
 (.seq (.reg [0,45,0,1] [
 (aO 5 (.mv (.c (.nil))))])
 (.seq (.seq (.reg [0,45,0,1,5] [
 (aO 7 (.mv (.t 0))),(aO 8 (.len (.t 7))),(aO 9 (.mv (.t 1))),(aO 10 (.len (.t 9))),(aO 11 (.mn true (.t 8) (.t 10))),(aO 12 (.mv (kI 0)))])
 (.block 0
 (.loop [0,45,0,1,5,11,12]
 (.seq (.reg [0,45,0,1,5,11,12] [
 (aO 13 (.cmp .lss .i64 (.t 12) (.t 11)))])
 (.seq (.cond (.t 13)
 .skip
 (.exit 0))
 (.seq (.block 1
 (.seq (.reg [0,45,0,1,5,11,12] [
 (aO 14 (.mv (.t 12))),(aO 6 (.mv (.t 14)))])
 (.seq (.drw [0,45,0,1,5,6,11,12] [
 (eT 15 (.mv (.t 6))),(eT 16 (.mv (.t 0))),(eT 17 (.len (.t 16))),(eF 18 (.cmp .geq .i64 (.t 15) (.t 17))),(eF 19 (.mv (.t 18))),⟨⟨some 20,some (19,false),.mv (.t 6)⟩,[],[],true⟩,⟨⟨some 21,some (19,false),.mv (.t 1)⟩,[],[],true⟩,⟨⟨some 22,some (19,false),.len (.t 21)⟩,[],[],true⟩,⟨⟨some 23,some (19,false),.cmp .geq .i64 (.t 20) (.t 22)⟩,[],[],false⟩,(eF 24 (.pick (.t 19) (.c (.sc (.bool true))) (.t 23))),(eF 25 (.mv (.t 24))),⟨⟨some 26,some (25,false),.mv (.t 0)⟩,[],[],true⟩,⟨⟨some 27,some (25,false),.mv (.t 6)⟩,[],[],true⟩,⟨⟨some 28,some (25,false),.ixs 1 (.t 26) (.t 27)⟩,[],[],true⟩,⟨⟨some 29,some (25,false),.fa 0 (.t 28)⟩,[],[],true⟩,⟨⟨some 30,some (25,false),.ld false 1 (.t 29)⟩,[],[],true⟩,⟨⟨some 31,some (25,false),.mv (.t 1)⟩,[],[],true⟩,⟨⟨some 32,some (25,false),.mv (.t 6)⟩,[],[],true⟩,⟨⟨some 33,some (25,false),.ixs 1 (.t 31) (.t 32)⟩,[],[],true⟩,⟨⟨some 34,some (25,false),.fa 0 (.t 33)⟩,[],[],true⟩,⟨⟨some 35,some (25,false),.ld false 1 (.t 34)⟩,[],[],true⟩,⟨⟨some 36,some (25,false),.cal 49 [(.t 30),(.t 35)]⟩,[],[],false⟩,⟨⟨some 37,some (25,false),.not (.t 36)⟩,[],[],false⟩,(eF 38 (.pick (.t 25) (.c (.sc (.bool true))) (.t 37)))])
 (.cut [0,45,0,1,5,6,11,12,38] (.cond (.t 38)
 (.reg [0,45,0,1,5,6,11,12] [
 (aO 39 (.mv (.t 5))),(aO 40 (.mv (.t 6))),(aO 41 (.bsl 1 3 [zI] 1 [(0,(.t 40))])),(aO 42 (.app 1 3 8 (.t 39) (.t 41))),(aO 5 (.mv (.t 42)))])
 .skip)))))
 (.reg [0,45,0,1,5,11,12] [
 (aO 43 (.ari .add true .i64 (.t 12) (kI 1))),(aO 12 (.mv (.t 43)))])))))))
 (.seq (.reg [0,45,5] [
 (aO 44 (.mv (.t 5))),(aO 4 (.mv (.t 44)))])
 .ret))))
def rv27:List RV:=[.tmp 4]
theorem ok27:fnOk Tryd.prog ac27 rv27 Tryd.f27=true:=by kernel_rfl

def ac54:AC:=
 (.seq (.reg [0,32,0,1,2] [
 (aO 6 (.mv (.c (.sc (.bool false)))))])
 (.seq (.seq (.reg [0,32,0,1,2] [
 (aO 10 (.mv (.t 0))),(aO 11 (.len (.t 10))),(aO 12 (.mv (.t 1))),(aO 13 (.len (.t 12))),(aO 14 (.cmp .neq .i64 (.t 11) (.t 13)))])
 (.cond (.t 14)
 (.seq (.reg [0,32] [
 (aO 6 (.mv (.c (.sc (.bool false)))))])
 .ret)
 .skip))
 (.seq (.seq (.reg [0,32,0,1,2] [
 (aO 15 (.mv (.t 0))),(aO 16 (.len (.t 15))),(aO 17 (.mv (kI 0)))])
 (.block 0
 (.loop [0,32,1,2,15,16,17]
 (.seq (.reg [0,32,1,2,15,16,17] [
 (aO 18 (.cmp .lss .i64 (.t 17) (.t 16)))])
 (.seq (.cond (.t 18)
 .skip
 (.exit 0))
 (.seq (.block 1
 (.seq (.reg [0,32,1,2,15,16,17] [
 (aO 19 (.mv (.t 17))),(aO 20 (.ixs 1 (.t 15) (.t 17))),(aO 21 (.ld true 1 (.t 20))),(aO 8 (.alc [.nil])),(aO 7 (.mv (.t 19))),(aN (.sto 1 (.t 8) (.t 21)))])
 (.seq (.reg [0,32,1,2,7,8,15,16,17] [
 (aO 22 (.mv (.t 1))),(aO 23 (.mv (.t 7))),(aO 24 (.ixs 1 (.t 22) (.t 23))),(aO 25 (.ld false 1 (.t 24))),(aO 9 (.mv (.t 25)))])
 (.seq (.reg [0,32,1,2,8,9,15,16,17] [
 (aO 26 (.mv (.t 2))),(aO 27 (.ld true 1 (.t 8))),(aO 28 (.mv (.t 9))),(aO 29 (.clv (.t 26) [(.t 27),(.t 28)])),(aO 30 (.not (.t 29)))])
 (.cond (.t 30)
 (.seq (.reg [0,32] [
 (aO 6 (.mv (.c (.sc (.bool false)))))])
 .ret)
 .skip)))))
 (.reg [0,32,1,2,15,16,17] [
 (aO 31 (.ari .add true .i64 (.t 17) (kI 1))),(aO 17 (.mv (.t 31)))])))))))
 (.seq (.reg [0,32] [
 (aO 6 (.mv (.c (.sc (.bool true)))))])
 .ret))))
def rv54:List RV:=[.tmp 6]
theorem ok54:fnOk Tryd.prog ac54 rv54 Tryd.f54=true:=by kernel_rfl

def ac55:AC:=
 (.seq (.reg [0,10,0,1] [
 (aO 2 (.box (.t 0))),(aO 4 (.mv (.c (.sc (.bool false)))))])
 (.seq (.reg [0,10,1,2] [
 (aO 5 (.fa 0 (.t 2))),(aO 6 (.ld false 1 (.t 5))),(aO 7 (.len (.t 6))),(aO 8 (.mv (.t 1))),(aO 9 (.cmp .eql .i64 (.t 7) (.t 8))),(aO 4 (.mv (.t 9)))])
 .ret))
def rv55:List RV:=[.tmp 4]
theorem ok55:fnOk Tryd.prog ac55 rv55 Tryd.f55=true:=by kernel_rfl

def ac23:AC:=
 (.seq (.reg [0,26,0,1] [
 (aO 4 (.mv (.c (.sc (.bool false)))))])
 (.seq (.seq (.reg [0,26,0,1] [
 (aO 6 (.mv (.t 0))),(aO 7 (.len (.t 6))),(aO 8 (.mv (.t 1))),(aO 9 (.len (.t 8))),(aO 10 (.cmp .neq .i64 (.t 7) (.t 9)))])
 (.cond (.t 10)
 (.seq (.reg [0,26] [
 (aO 4 (.mv (.c (.sc (.bool false)))))])
 .ret)
 .skip))
 (.seq (.seq (.reg [0,26,0,1] [
 (aO 5 (.mv (kI 0)))])
 (.block 0
 (.loop [0,26,0,1,5]
 (.seq (.seq (.reg [0,26,0,1,5] [
 (aO 11 (.mv (.t 5))),(aO 12 (.mv (.t 0))),(aO 13 (.len (.t 12))),(aO 14 (.cmp .lss .i64 (.t 11) (.t 13)))])
 (.cond (.t 14)
 .skip
 (.exit 0)))
 (.seq (.block 1
 (.seq (.drw [0,26,0,1,5] [
 (eT 17 (.mv (.t 0))),(eT 18 (.mv (.t 5))),(eT 19 (.ixs 1 (.t 17) (.t 18))),(eT 20 (.ld false 1 (.t 19))),(eT 21 (.mv (.t 1))),(eT 22 (.mv (.t 5))),(eT 23 (.ixs 1 (.t 21) (.t 22))),(eT 24 (.ld false 1 (.t 23))),(eF 25 (.cmp .neq .i64 (.t 20) (.t 24)))])
 (.cond (.t 25)
 (.seq (.reg [0,26] [
 (aO 4 (.mv (.c (.sc (.bool false)))))])
 .ret)
 .skip)))
 (.reg [0,26,0,1,5] [
 (aO 15 (.mv (.t 5))),(aO 16 (.ari .add true .i64 (.t 15) (kI 1))),(aO 5 (.mv (.t 16)))]))))))
 (.seq (.reg [0,26] [
 (aO 4 (.mv (.c (.sc (.bool true)))))])
 .ret))))
def rv23:List RV:=[.tmp 4]
theorem ok23:fnOk Tryd.prog ac23 rv23 Tryd.f23=true:=by kernel_rfl
end Go.Proofs.YtecoaapkcnhlhaaDoor.Txt
