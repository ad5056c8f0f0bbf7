/- ZL ZM FC GC TxtS VcZr GDa GDb GD TxtV GF ZW ZQ ZS: lemmas -/
import Derived.Test.YtdmkfgkmnpohlaaGreatPart12
import Derived.Test.YtdmkfgkmnpohlaaGreatPart11
import Derived.Test.YtdmkfgkmnpohlaaGreatPart10
import Derived.Test.YtdmkfgkmnpohlaaGreatPart06
import Derived.Test.YtdmkfgkmnpohlaaGreatChecked
set_option linter.unusedSimpArgs false
set_option linter.unusedVariables false
open Nat (reduceEqDiff reduceAdd reduceSub reduceMul reduceLT reduceLeDiff)
open Int (reduceToNat reduceNeg)
namespace Go.Proofs.YtdmkfgkmnpohlaaGreat
open Go Go.Vc Txt
def qB9(c:Cfg)(t:Nat):Int×Int×Int:=(c.mode.getD t 0,c.tab.getD t 0,c.ram.getD t 0)
def qBa(b:Block)(x:Int×Int×Int):Int×Int×Int:=(qAV b,tabB b x.2.1,ramB b x.2.2)
theorem qBb{g:Grid}{c:Cfg}(hc:qzs g c)(b:Block){t:Nat}(h:t<g.kind.length)(i:Nat):qB9 (qwO c b t) i=if t=i then qBa b (qB9 c t)else qB9 c i:=by
 obtain⟨h1,h2,h3,h4⟩:=hc
 unfold qB9 qBa qwO qAV tabB ramB
 by_cases e:t=i
 ·subst e
  rw[if_pos rfl]
  by_cases q:0<=b.ram
  ·simp only[if_pos q,qzy]
   rw[if_pos ⟨trivial,by omega⟩,if_pos ⟨trivial,by omega⟩]
  ·by_cases q2:0<=b.reg
   ·simp only[if_neg q,if_pos q2,qzy]
    rw[if_pos ⟨trivial,by omega⟩,if_pos ⟨trivial,by omega⟩,if_pos ⟨trivial,by omega⟩]
   ·simp only[if_neg q,if_neg q2,qzy]
    rw[if_pos ⟨trivial,by omega⟩,if_pos ⟨trivial,by omega⟩]
 ·rw[if_neg e]
  by_cases q:0<=b.ram
  ·simp only[if_pos q,qzy,e,false_and,if_false]
  ·by_cases q2:0<=b.reg
   ·simp only[if_neg q,if_pos q2,qzy,e,false_and,if_false]
   ·simp only[if_neg q,if_neg q2,qzy,e,false_and,if_false]
theorem qBc{g:Grid} : ∀(zs:List (Block×Int)) (c:Cfg),qzs g c->qzs g (qB0 c zs)
 |[],_,h=>h
 |z::zs,c,h=>qBc zs _ (qAU h)
theorem qBd{g:Grid} : ∀(zs:List (Block×Int)) (c:Cfg) (_:qzs g c) (_: ∀z∈zs,0<=z.2/\z.2<g.kind.length) (i:Nat) (_:(i:Int)∉zs.map Prod.snd),qB9 (qB0 c zs) i=qB9 c i
 |[],_,_,_,_,_=>rfl
 | z :: zs, c, hc, hr, i, h => by
   have h1:=hr z (List.mem_cons_self ..)
   have h2:(i:Int)≠z.2:=fun e=>h (by rw[List.map_cons,e];exact List.mem_cons_self ..)
   rw[qB0,qBd zs _ (qAU hc) (fun x hx=>hr x (List.mem_cons_of_mem _ hx)) i (fun hm=>h (by rw[List.map_cons];exact List.mem_cons_of_mem _ hm)),qBb hc _ (by omega),if_neg (by omega)]
theorem qBe{g:Grid} : ∀(zs:List (Block×Int)) (c:Cfg) (_:qzs g c) (_: ∀z∈zs,0<=z.2/\z.2<g.kind.length) (_:(zs.map Prod.snd).Nodup) (z:Block×Int) (_:z∈zs),qB9 (qB0 c zs) z.2.toNat=qBa z.1 (qB9 c z.2.toNat)
 | x :: zs, c, hc, hr, hn, z, h => by
   have h1:=hr x (List.mem_cons_self ..)
   have h3:=hr z h
   rw[List.map_cons,List.nodup_cons]at hn
   have hr' : ∀z∈zs,0<=z.2/\z.2<g.kind.length:=fun x hx=>hr x (List.mem_cons_of_mem _ hx)
   rw[qB0]
   rcases List.mem_cons.1 h with rfl|h
   ·rw[qBd zs _ (qAU hc) hr' _ (by rw[show((z.2.toNat:Nat):Int)=z.2 by omega];exact hn.1),qBb hc _ (by omega),if_pos rfl]
   ·have hne:z.2≠x.2:=fun e=>hn.1 (by rw[<- e];exact List.mem_map_of_mem h)
    rw[qBe zs _ (qAU hc) hr' hn.2 z h,qBb hc _ (by omega),if_neg (by omega)]
theorem qBf(g:Grid)(i:Nat):qB9 (qwM g) i=(0,0,0):=by
 have: ∀n:Nat,(List.replicate n (0:Int)).getD i 0=0:=fun n=>by
  rw[List.getD_eq_getElem?_getD,List.getElem?_replicate]
  split<;>rfl
 simp only[qB9,qwM,this]
theorem qBg(p:Packed)(g:Grid)(l:Layout):qzs g (encC p g l):=by
 obtain⟨h1,h2,h3,h4⟩:=qBc (g:=g) (p.blocks.zip l.pos) _ (qB3 g)
 exact⟨by simp only[encC];rw[qAO,List.length_replicate],h2,h3,h4⟩
theorem FitsF.zs{p:Packed}{g:Grid}{l:Layout}(h:FitsF p g l):(p.blocks.zip l.pos).map Prod.snd=l.pos:=List.map_snd_zip (by have:=h.len;omega)
theorem FitsF.rng{p:Packed}{g:Grid}{l:Layout}(h:FitsF p g l): ∀z∈p.blocks.zip l.pos,0<=z.2/\z.2<g.kind.length:=fun z hz=>(h.fit z hz).1.1
theorem qBh{p:Packed}{g:Grid}{l:Layout}(h:FitsF p g l){i:Nat}(hi:(i:Int)∉l.pos):qB9 (encC p g l) i=(0,0,0):=by
 have:=qBd _ _ (qB3 g) h.rng i (by rw[h.zs];exact hi)
 rw[qBf]at this
 exact this
theorem qBi{p:Packed}{g:Grid}{l:Layout}(h:FitsF p g l){z:Block×Int}(hz:z∈p.blocks.zip l.pos):qB9 (encC p g l) z.2.toNat=qBa z.1 (0,0,0):=by
 have:=qBe _ _ (qB3 g) h.rng (by rw[h.zs];exact h.pos) z hz
 rw[qBf]at this
 exact this
theorem qBj{g:Grid}{b:Block}{t:Int}(h:qzX g b t):qyV (g.kind.getD t.toNat 0) (qBa b (0,0,0)).1 (qBa b (0,0,0)).2.1 (qBa b (0,0,0)).2.2:=by
 obtain⟨⟨h1,h2,h3⟩,⟨h4,h5,h6⟩,h7⟩:=h
 generalize g.kind.getD t.toNat 0=k at *
 unfold qyV qBa qAV tabB ramB qwy
 simp only
 refine⟨?_,?_,?_,?_⟩
 all_goals repeat' split
 all_goals first|omega|(simp only[decide_eq_true_eq];omega)|trivial
theorem qBk{p:Packed}{g:Grid}{l:Layout}(h:FitsF p g l)(t:Nat):qz1 g (encC p g l) t:=by
 show qyV _ (qB9 (encC p g l) t).1 (qB9 (encC p g l) t).2.1 (qB9 (encC p g l) t).2.2
 by_cases e:(t:Int)∈l.pos
 ·rw[<- h.zs,List.mem_map]at e
  obtain⟨z,hz,ez⟩:=e
  have h1:=h.fit z hz
  have h2:z.2.toNat=t:=by omega
  have h3:=qBj h1
  rw[<- qBi h hz,h2]at h3
  exact h3
 ·rw[qBh h e]
  unfold qyV qwy
  simp only
  refine⟨by omega,?_,by omega,by omega⟩
  repeat' split
  all_goals simp
theorem qBl(g:Grid)(s:Spot): ∀k,(qvZ g s k).Pairwise (· < ·)
 |0=> .nil
 | k + 1 => by
   rw[qvZ,List.pairwise_append]
   refine⟨qBl g s k,?_,fun a ha b hb=> ?_⟩
   ·split<;>simp
   ·have:=qz8 g s k a ha
    split at hb
    ·simp at hb;omega
    ·simp at hb
theorem qBm{g:Grid}(hg:GOk g)(n:Int):(qvM g n).Pairwise (· < ·):=by
 rw[qyE hg,rdrF]
 split
 ·exact qBl _ _ _
 ·exact .nil
theorem qBn: ∀ {l:List Int} {x:Int},l.Pairwise (· < ·)->x∈l->l.countP (· <x)<l.length/\l.getD (l.countP (· <x)) 0=x
 | y :: ys, x, hs, h => by
   obtain⟨h1,h2⟩:=List.pairwise_cons.1 hs
   rcases List.mem_cons.1 h with rfl|h
   ·have : (x :: ys).countP (· < x) = 0 := by
     rw[List.countP_eq_zero]
     intro a ha
     rcases List.mem_cons.1 ha with rfl|ha
     ·simp
     ·have:=h1 a ha
      simp;omega
    rw[this]
    exact⟨by simp,rfl⟩
   ·obtain⟨h3,h4⟩:=qBn h2 h
    have h5:=h1 x h
    rw[List.countP_cons,if_pos (by simpa using h5)]
    exact⟨by simp;omega,by simpa using h4⟩
theorem qBo{g:Grid}{r:Route}(hr: ∀x∈r.nodes,0<=x)(sel:List Int){n:Int}(hn:0<=n): ∀(k:Nat) (_:k<=r.nodes.length) (_: ∀i,0<i->i<k->r.nodes.getD i 0≠n),(selN g r sel k).getD n.toNat 0=sel.getD n.toNat 0
 |0,_,_=>rfl
 | k + 1, hk, h => by
   rw[selN]
   have ih:=qBo (g:=g) hr sel hn k (by omega) fun i h1 h2=>h i h1 (by omega)
   split
   ·exact ih
   ·have h1:=h k (by omega) (by omega)
    have h2:=hr _ (qza (l:=r.nodes) (k:=k) (by omega))
    rw[qzy,if_neg (by omega),ih]
theorem qBp{l:List Int}(h:l.Nodup){i j:Nat}(hi:i<l.length)(hj:j<l.length)(e:l.getD i 0=l.getD j 0):i=j:=by
 rw[List.getD_eq_getElem?_getD,List.getD_eq_getElem?_getD,List.getElem?_eq_getElem hi,List.getElem?_eq_getElem hj]at e
 exact(List.getElem_inj h).1 e
theorem qBq{g:Grid}{r:Route}{sel:List Int}(hs:(sel.length:Int)=quD g)(hr:RouteSh g r)(hd:r.nodes.Nodup){i:Nat}(h0:0<i): ∀(k:Nat) (_:k<=r.nodes.length) (_:i<k),(selN g r sel k).getD (r.nodes.getD i 0).toNat 0=qAD g r i
 | k + 1, hk, h => by
   have h1:=hr.rng _ (qza (l:=r.nodes) (k:=i) (by omega))
   have h2:=hr.rng _ (qza (l:=r.nodes) (k:=k) (by omega))
   rw[selN,if_neg (by omega),qzy,qAE]
   by_cases e:i=k
   ·subst e
    rw[if_pos (by omega)]
   ·have:r.nodes.getD i 0≠r.nodes.getD k 0:=fun e2=>e (qBp hd (by omega) (by omega) e2)
    rw[if_neg (by omega)]
    exact qBq hs hr hd h0 k (by omega) (by omega)
def qBr(rs:List Route):List Int:=(rs.map fun r=>r.nodes.tail).flatten
theorem tail_mem{l:List Int}{x:Int} :x∈l.tail ↔ ∃i,0<i/\i<l.length/\l.getD i 0=x:=by
 cases l with
 |nil=>simp
 |cons y l=>
   rw[List.tail_cons]
   constructor
   ·intro h
    obtain⟨i,hi,e⟩:=qAQ h
    exact⟨i+1,by omega,by simp;omega,by simpa using e⟩
   ·rintro⟨i,h1,h2,h3⟩
    obtain⟨j,rfl⟩: ∃j,i=j+1:=⟨i-1,by omega⟩
    rw[List.getD_cons_succ]at h3
    rw[<- h3]
    exact qza (by simpa using h2)
theorem tailsN_mem{rs:List Route}{x:Int} :x∈qBr rs ↔ ∃r∈rs,∃i,0<i/\i<r.nodes.length/\r.nodes.getD i 0=x:=by
 simp only[qBr,List.mem_flatten,List.mem_map]
 constructor
 ·rintro⟨_,⟨r,hr,rfl⟩,hx⟩
  exact⟨r,hr,tail_mem.1 hx⟩
 ·rintro⟨r,hr,hx⟩
  exact⟨_,⟨r,hr,rfl⟩,tail_mem.2 hx⟩
theorem flatN_mem{rs:List Route}{x:Int} :x∈qAK rs ↔ ∃r∈rs,x∈r.nodes:=by
 simp only[qAK,List.mem_flatten,List.mem_map]
 constructor
 ·rintro⟨_,⟨r,hr,rfl⟩,hx⟩
  exact⟨r,hr,hx⟩
 ·rintro⟨r,hr,hx⟩
  exact⟨_,⟨r,hr,rfl⟩,hx⟩
theorem qBs{rs:List Route}{x:Int}(h:x∈qBr rs):x∈qAK rs:=by
 obtain⟨r,hr,i,_,hi,rfl⟩:=tailsN_mem.1 h
 exact flatN_mem.2 ⟨r,hr,qza hi⟩
theorem qBt(r:Route)(rs:List Route):qAK (r::rs)=r.nodes++qAK rs:=by simp[qAK]
theorem qBu(r:Route)(rs:List Route):qBr (r::rs)=r.nodes.tail++qBr rs:=by simp[qBr]
theorem qBv{g:Grid}{n:Int}(hn:0<=n): ∀(rs:List Route) (sel:List Int) (_: ∀r∈rs,RouteSh g r) (_:n∉qBr rs),(qAM g sel rs).getD n.toNat 0=sel.getD n.toNat 0
 |[],_,_,_=>rfl
 | r :: rs, sel, hr, h => by
   rw[qBu,List.mem_append]at h
   rw[qAM,qBv hn rs _ (fun x hx=>hr x (List.mem_cons_of_mem _ hx)) fun hm=>h (.inr hm)]
   exact qBo (fun x hx=>((hr r (List.mem_cons_self ..)).rng x hx).1) sel hn _ (Nat.le_refl _) fun i h1 h2 e=>h (.inl (tail_mem.2 ⟨i,h1,h2,e⟩))
theorem qBw{g:Grid} : ∀(rs:List Route) (sel:List Int) (_:(sel.length:Int)=quD g) (_: ∀r∈rs,RouteSh g r) (_:(qAK rs).Nodup) (r:Route) (_:r∈rs) (i:Nat) (_:0<i) (_:i<r.nodes.length),(qAM g sel rs).getD (r.nodes.getD i 0).toNat 0=qAD g r i
 | x :: rs, sel, hs, hr, hd, r, h, i, h0, hi => by
   rw[qBt,List.nodup_append]at hd
   obtain⟨d1,d2,d3⟩:=hd
   have hr' : ∀r∈rs,RouteSh g r:=fun x hx=>hr x (List.mem_cons_of_mem _ hx)
   rw[qAM]
   rcases List.mem_cons.1 h with rfl|h
   ·have hm:r.nodes.getD i 0∈r.nodes:=qza hi
    have hrg:=(hr r (List.mem_cons_self ..)).rng _ hm
    rw[qBv hrg.1 rs _ hr' fun ht=>d3 _ hm _ (qBs ht) rfl]
    exact qBq hs (hr r (List.mem_cons_self ..)) d1 h0 _ (Nat.le_refl _) hi
   ·exact qBw rs _ (by rw[qAN];exact hs) hr' d2 r h i h0 hi
theorem qBx{p:Packed}{g:Grid}{l:Layout}(h:FitsF p g l){n:Int}(hn:0<=n)(ht:n∉qBr l.routes):(encC p g l).sel.getD n.toNat 0=0:=by
 show(qAM g _ l.routes).getD _ _=0
 rw[qBv hn _ _ h.sh ht,List.getD_eq_getElem?_getD,List.getElem?_replicate]
 split<;>rfl
theorem qBy{p:Packed}{g:Grid}(hg:GOk g){l:Layout}(h:FitsF p g l){r:Route}(hr:r∈l.routes){i:Nat}(h0:0<i)(hi:i<r.nodes.length):(encC p g l).sel.getD (r.nodes.getD i 0).toNat 0=qAD g r i:=
 qBw _ _ (by have:=hg.count;rw[List.length_replicate];omega) h.sh h.nod r hr i h0 hi
theorem qBz{g:Grid}(hg:GOk g){r:Route}(h:RouteSh g r){i:Nat}(h0:0<i)(hi:i<r.nodes.length):(1<=qAD g r i/\qAD g r i<=(qvM g (r.nodes.getD i 0)).length)/\(qvM g (r.nodes.getD i 0)).getD (qAD g r i-1).toNat 0=r.nodes.getD (r.frm.getD i 0).toNat 0:=by
 obtain⟨h1,h2⟩:=h.drv i h0 hi
 obtain⟨h3,h4⟩:=qBn (qBm hg _) h2
 unfold qAD
 refine⟨by omega,?_⟩
 generalize List.countP _ _=k at *
 rw[show(1+(k:Int)-1).toNat=k by omega,h4]
theorem qBA{p:Packed}{g:Grid}(hg:GOk g){l:Layout}(h:FitsF p g l):SelsOk g (encC p g l):=by
 refine⟨(qBg p g l).1,fun i hi h1=> ?_⟩
 by_cases e:(i:Int)∈qBr l.routes
 ·obtain⟨r,hr,k,h0,hk,e⟩:=tailsN_mem.1 e
  have h2:=qBy hg h hr h0 hk
  have h3:=(qBz hg (h.sh r hr) h0 hk).1
  rw[e,Int.toNat_natCast]at h2
  rw[e]at h3
  rw[h2]
  exact h3
 ·have:=qBx h (n:=i) (by omega) e
  rw[Int.toNat_natCast]at this
  exact absurd this h1
theorem qBO(g:Grid)(s:Spot)(x:Int): ∀k,x∈qvZ g s k ↔ ∃i,i<k/\CanD g (quJ g i) s/\x=(i:Int)
 |0=>by simp[qvZ]
 | k + 1 => by
   rw[qvZ,List.mem_append,qBO g s x k]
   constructor
   ·rintro(⟨i,h1,h2,h3⟩|h)
    ·exact⟨i,by omega,h2,h3⟩
    ·split at h
     ·rename_i hp
      exact⟨k,by omega,hp,by simpa using h⟩
     ·simp at h
   ·rintro⟨i,h1,h2,h3⟩
    by_cases e:i=k
    ·subst e
     rw[if_pos h2]
     exact .inr (by simp[h3])
    ·exact .inl ⟨i,by omega,h2,h3⟩
theorem qBP{g:Grid}{n:Int}(hn:0<=n/\n<quD g):quK g n=(quJ g n,0):=by rw[quK,if_neg (by omega)]
theorem qBQ{g:Grid}(hg:GOk g){n:Int}(hn:0<=n/\n<quD g)(x:Int):x∈qvM g n ↔ (0<=x/\x<quD g)/\CanD g (quJ g x) (quJ g n):=by
 have:=hg.count
 rw[qyE hg,rdrF,qBP hn,if_pos rfl,qBO]
 constructor
 ·rintro⟨i,h1,h2,rfl⟩
  exact⟨by omega,h2⟩
 ·rintro⟨h1,h2⟩
  exact⟨x.toNat,by omega,by rw[show((x.toNat:Nat):Int)=x by omega];exact h2,by omega⟩
theorem qBR{g:Grid}(hg:GOk g){n:Int}(h:n∈qzZ g):qvM g n=[]:=by
 obtain⟨h1,h2⟩:=(qAg hg n).1 h
 cases e:qvM g n with
 |nil=>rfl
 |cons y l=>
   have hy:y∈qvM g n:=by rw[e];exact List.mem_cons_self ..
   have hc:=((qBQ hg h1 y).1 hy).2
   rcases h2 with h2|h2|h2<;>simp[CanD,Adj,h2]at hc<;>repeat' (split at hc)
   all_goals omega
theorem qBS{l:List Int}{i:Nat}(h:i<l.length)(m:List Int):(l++m).getD i 0=l.getD i 0:=by
 rw[List.getD_eq_getElem?_getD,List.getElem?_append_left h,List.getD_eq_getElem?_getD]
theorem qBT(l:List Int)(x:Int):(l++[x]).getD l.length 0=x:=by
 rw[List.getD_eq_getElem?_getD,List.getElem?_append_right (Nat.le_refl _)]
 simp
def GrS(g:Grid)(sn:List Int)(a:List Int×List Int):Prop:=a.1.Nodup/\(∀x∈a.1,x∉sn)/\(a.1≠[]->a.2.getD 0 0= -1/\qvM g (a.1.getD 0 0)=[])/\
 ∀i,0<i->i<a.1.length->(0<=a.2.getD i 0/\a.2.getD i 0<i)/\a.1.getD (a.2.getD i 0).toNat 0∈qvM g (a.1.getD i 0)
structure GrSh (g:Grid) (sn:List Int) (a:List Int×List Int):Prop where
 ok:GrOk g a
 s:GrS g sn a
theorem qBU{g:Grid}(hg:GOk g){sn:List Int}{a:List Int×List Int}{b:Int}(hb:0<=b/\b<=255)(h:GrSh g sn a):GrSh g sn (qAj g sn a b):=by
 have hok:=(qAm hg (sn:=sn) hb h.ok).1
 obtain⟨⟨h1,h2⟩,h3,h4,h5,h6⟩:=h
 have hse:=List.length_pos_iff.2 (qAi hg)
 refine⟨hok,?_⟩
 clear hok
 unfold GrS qAj
 split
 ·rename_i e
  split
  ·exact⟨h3,h4,h5,h6⟩
  ·rename_i e2
   have hm:(qzZ g).getD (b%((qzZ g).length:Int)).toNat 0∈qzZ g:=qza (by have:=Int.emod_lt_of_pos b (show 0<((qzZ g).length:Int)by omega);have:=Int.emod_nonneg b (show((qzZ g).length:Int)≠0 by omega);omega)
   refine⟨by simp,fun x hx=> ?_,fun _=>⟨rfl,qBR hg hm⟩,fun i h0 hi=>by simp at hi;omega⟩
   rw[List.mem_singleton]at hx
   rw[hx];exact e2
 ·rename_i e
  have hlp:=List.length_pos_iff.2 e
  simp only
  have q1:=Int.emod_lt_of_pos (b/64) (show 0<(a.1.length:Int)by omega)
  have q2:=Int.emod_nonneg (b/64) (show(a.1.length:Int)≠0 by omega)
  generalize b/64%(a.1.length:Int)=q at *
  have hx:=h2 _ (qza (l:=a.1) (k:=((a.1.length:Int)-1-q).toNat) (by omega))
  generalize hxe:a.1.getD ((a.1.length:Int)-1-q).toNat 0=x at *
  split
  ·exact⟨h3,h4,h5,h6⟩
  ·rename_i e2
   have hdp:=List.length_pos_iff.2 e2
   have hm:(qA3 g x).getD (b%64%((qA3 g x).length:Int)).toNat 0∈qA3 g x:=qza (by have:=Int.emod_lt_of_pos (b%64) (show 0<((qA3 g x).length:Int)by omega);have:=Int.emod_nonneg (b%64) (show((qA3 g x).length:Int)≠0 by omega);omega)
   generalize (qA3 g x).getD (b%64%((qA3 g x).length:Int)).toNat 0=n at *
   have hn:=(qAh hg hx n).1 hm
   have hd:x∈qvM g n:=(qBQ hg hn.1 x).2 ⟨hx,hn.2⟩
   split
   ·rename_i e3
    refine⟨List.nodup_append.2 ⟨h3,by simp,by intro a ha b hb h;simp at hb;subst hb;subst h;exact e3.2 ha⟩,fun y hy=> ?_,fun _=> ?_,fun i h0 hi=> ?_⟩
    ·rw[List.mem_append,List.mem_singleton]at hy
     rcases hy with hy|rfl
     ·exact h4 y hy
     ·exact e3.1
    ·simp only
     rw[qBS (by omega),qBS (by omega)]
     exact h5 e
    ·simp only[List.length_append,List.length_singleton]at hi ⊢
     by_cases e4:i=a.1.length
     ·subst e4
      have:=qBT a.2 ((a.1.length:Int)-1-q)
      rw[h1]at this
      rw[this,qBT,qBS (by omega),hxe]
      exact⟨by omega,hd⟩
     ·have:=h6 i h0 (by omega)
      rw[qBS (by omega),qBS (show i<a.1.length by omega),qBS (by omega)]
      exact this
   ·exact⟨h3,h4,h5,h6⟩
theorem qBV{g:Grid}(hg:GOk g)(sn l:List Int)(hb: ∀x∈l,0<=x/\x<=255): ∀k,GrSh g sn (qAk g sn l k)
 |0=>⟨⟨rfl,by simp[qAk]⟩,.nil,by simp[qAk],fun h=>absurd rfl h,fun i h0 hi=>by simp[qAk]at hi⟩
 | k + 1 => by
   have hbk:0<=l.getD k 0/\l.getD k 0<=255:=by
    by_cases h:k<l.length
    ·exact hb _ (qza h)
    ·rw[List.getD_eq_getElem?_getD,List.getElem?_eq_none (by omega)];decide
   exact qBU hg hbk (qBV hg sn l hb k)
theorem qBW{g:Grid}(hg:GOk g)(sn l:List Int)(hb: ∀x∈l,0<=x/\x<=255)(h:(qAl g sn l).nodes≠[])(s:Int):RouteSh g { qAl g sn l with sig:=s } :=by
 obtain⟨⟨h1,h2⟩,h3,h4,h5,h6⟩:=qBV hg sn l hb (min l.length 16)
 exact⟨h,h1,(h5 h).1,h2,(h5 h).2,h6⟩
structure Raw31 where
 g:RawG
 blocks:List (Int×Int×Int)
 routes:List (List Int)
structure Raw31.By (x:Raw31):Prop where
 g:x.g.By
 bl:(x.blocks.length:Int)<=9223372036854775807
 blocks: ∀y∈x.blocks,(0<=y.1/\y.1<=255)/\(0<=y.2.1/\y.2.1<=255)/\(0<=y.2.2/\y.2.2<=255)
 rl:(x.routes.length:Int)<=9223372036854775807
 routes: ∀l∈x.routes,(l.length:Int)<=9223372036854775807/\ ∀y∈l,0<=y/\y<=255
def qBX(x:RawG):Grid:= { qzk x with pads:=4 }
def rtS1(g:Grid)(a:List Int×List Route)(k:Nat)(l:List Int):List Int×List Route:=
 if(qAl g a.1 l).nodes=[]then a else(a.1++(qAl g a.1 l).nodes,a.2++[{ qAl g a.1 l with sig:=k }])
def rtN(g:Grid)(xs:List (List Int)):Nat->List Int×List Route
 |0=>([],[])
 |k+1=>rtS1 g (rtN g xs k) k (xs.getD k [])
def qBY(x:Raw31):Packed:=⟨[],(blkF (qBX x.g) x.blocks).1,[],[]⟩
def layM(x:Raw31):Layout:=⟨(blkF (qBX x.g) x.blocks).2,(rtN (qBX x.g) x.routes (min x.routes.length 5)).2⟩
theorem qBZ(x:RawG):GOk (qBX x)/\(qBX x).pads=4:=by
 obtain⟨⟨h1,h2,h3,h4,h5⟩,h6⟩:=qzm x
 exact⟨⟨h1,h2,h3,by show 0<=(4:Int)/\(4:Int)<=1000;omega,h5⟩,rfl⟩
structure RtOk (g:Grid) (a:List Int×List Route) (k:Nat):Prop where
 sh: ∀r∈a.2,RouteSh g r
 nod:(qAK a.2).Nodup
 eq:a.1=qAK a.2
 len:a.2.length<=k
 rl: ∀r∈a.2,r.nodes.length<=16
theorem qC0(rs:List Route)(r:Route):qAK (rs++[r])=qAK rs++r.nodes:=by simp[qAK]
theorem qC1{g:Grid}(hg:GOk g)(xs:List (List Int))(hb: ∀l∈xs,∀y∈l,0<=y/\y<=255): ∀k,RtOk g (rtN g xs k) k
 |0=>⟨by simp[rtN],by simp[rtN,qAK],rfl,by simp[rtN],by simp[rtN]⟩
 | k + 1 => by
   obtain⟨h1,h2,h3,h4,h5⟩:=qC1 hg xs hb k
   have hbl: ∀y∈xs.getD k [],0<=y/\y<=255:=by
    by_cases h:k<xs.length
    ·have hm:xs.getD k []∈xs:=by simp[h]
     exact hb _ hm
    ·rw[List.getD_eq_getElem?_getD,List.getElem?_eq_none (by omega)];simp
   rw[rtN,rtS1]
   split
   ·exact⟨h1,h2,h3,by omega,h5⟩
   ·rename_i e
    have hs:=qBW hg (rtN g xs k).1 _ hbl e k
    have hG:=qBV hg (rtN g xs k).1 _ hbl (min (xs.getD k []).length 16)
    have hL:=(qAn hg (rtN g xs k).1 _ hbl (min (xs.getD k []).length 16)).2
    refine⟨fun r hr=> ?_,?_,?_,by simp;omega,fun r hr=> ?_⟩
    ·rw[List.mem_append,List.mem_singleton]at hr
     rcases hr with hr|rfl
     ·exact h1 r hr
     ·exact hs
    ·rw[qC0,List.nodup_append]
     exact⟨h2,hG.s.1,fun a ha b hb e=>hG.s.2.1 b hb (by rw[h3,<- e];exact ha)⟩
    ·rw[qC0,h3]
    ·rw[List.mem_append,List.mem_singleton]at hr
     rcases hr with hr|rfl
     ·exact h5 r hr
     ·show(qAk _ _ _ _).1.length<=16
      omega
theorem qC2{x:Raw31}(hx:x.By):FitsF (qBY x) (qBX x.g) (layM x):=by
 obtain⟨h1,h2,h3,h4⟩:=(qAs (qBX x.g) x.blocks (min x.blocks.length 12)).1
 obtain⟨q1,q2,q3,q4⟩:=qC1 (qBZ x.g).1 x.routes (fun l hl=>(hx.routes l hl).2) (min x.routes.length 5)
 exact⟨h1,h2,h3,q1,q2⟩
def qC3(v:List Bool)(i:Nat):List Bool:=[v.getD (i+2) false,v.getD (i+3) false,v.getD (i+4) false,v.getD (i+5) false]
def drvV(d:Int)(v:List Bool):Bool:=if 0<=d then v.getD d.toNat false else false
def qC4(g:Grid):Nat:=(quC g).toNat
def rndF(g:Grid)(c:Cfg)(s:PSt)(pads:List Bool)(v:List Bool)(i:Nat):Bool:=
 if(quJ g i).kind=6 then pads.getD (quJ g i).i.toNat false
 else if(quJ g i).kind=1 then qwV c s (i/qC4 g) (qC3 v i)
 else if(quJ g i).kind=2 then qwW c s (i/qC4 g)
 else drvV (qzD g c i) v
def depF(g:Grid)(c:Cfg)(i:Nat):List Nat:=
 if(quJ g i).kind=1 then
  (if c.mode.getD (i/qC4 g) 0=1\/c.mode.getD (i/qC4 g) 0=2 then[i+2,i+3,i+4,i+5]else if c.mode.getD (i/qC4 g) 0=3 then[i+2,i+3,i+4]else[])
 else if 0<=qzD g c i then[(qzD g c i).toNat]else[]
structure CfgG (g:Grid) (c:Cfg):Prop where
 ln:qzs g c
 sels:SelsOk g c
 tile: ∀t,t<g.kind.length->(0<=c.mode.getD t 0/\c.mode.getD t 0<=3)/\(0<=c.ram.getD t 0/\c.ram.getD t 0<=255)
theorem qC5{g:Grid}{c:Cfg}{t:Nat}(h:qz1 g c t):(0<=c.mode.getD t 0/\c.mode.getD t 0<=3)/\(0<=c.ram.getD t 0/\c.ram.getD t 0<=255):=by
 obtain⟨h1,_,_,h2⟩:=h
 refine⟨h1,h2.1,?_⟩
 have:=h2.2
 split at this<;>omega
theorem qC6{g:Grid}(hg:GOk g){l:List Int}(hb: ∀x∈l,0<=x/\x<=255):CfgG g (qzr g l):=
 ⟨qzw g l _,qzC hg l,fun t ht=>qC5 (qzT hb _ t ht)⟩
theorem qC7{p:Packed}{g:Grid}(hg:GOk g){l:Layout}(h:FitsF p g l):CfgG g (encC p g l):=
 ⟨qBg p g l,qBA hg h,fun t _=>qC5 (qBk h t)⟩
theorem qC8{g:Grid}(hg:GOk g):((qC4 g:Nat):Int)=quC g/\8<=qC4 g:=by have:=hg.each;unfold qC4;omega
theorem qC9{g:Grid}(hg:GOk g)(i:Int):(quJ g i).kind=1 ↔ i<allI g/\i%quC g=0:=by
 have h1:=hg.each
 have h2:=hg.pads
 have h3:0<=i%quC g:=Int.emod_nonneg _ (by omega)
 have h4:=hg.tracks
 unfold quJ
 dsimp only
 generalize i%quC g=r at *
 repeat' split
 all_goals simp
 all_goals omega
theorem qCa{g:Grid}(hg:GOk g)(i:Int):(quJ g i).kind=2 ↔ i<allI g/\i%quC g=1:=by
 have h1:=hg.each
 have h2:=hg.pads
 have h3:0<=i%quC g:=Int.emod_nonneg _ (by omega)
 have h4:=hg.tracks
 unfold quJ
 dsimp only
 generalize i%quC g=r at *
 repeat' split
 all_goals simp
 all_goals omega
theorem qCb{g:Grid}(hg:GOk g)(i:Int):(quJ g i).kind=6 ↔ allI g<=i/\i<allI g+g.pads:=by
 have h1:=hg.each
 have h2:=hg.pads
 have h4:=hg.tracks
 unfold quJ
 dsimp only
 generalize i%quC g=r at *
 repeat' split
 all_goals simp
 all_goals omega
theorem qCc{g:Grid}{i:Int}(h:allI g<=i/\i<allI g+g.pads):(quJ g i).i=i-allI g:=by
 unfold quJ
 rw[if_neg (by omega),if_pos h.1]
theorem qCd{g:Grid}(hg:GOk g){t:Nat}(ht:t<g.kind.length):t*qC4 g+qC4 g<=(allI g).toNat/\((allI g).toNat:Int)=allI g:=by
 have h1:=hg.kind
 have h2:=qC8 hg
 have h3:=hg.all
 have h4:allI g=g.w*g.h*quC g:=rfl
 rw[<- h1,<- h2.1]at h4
 have h5:(t+1)*qC4 g<=g.kind.length*qC4 g:=Nat.mul_le_mul_right _ ht
 have h6:(allI g).toNat=g.kind.length*qC4 g:=by rw[h4,<- Int.natCast_mul,Int.toNat_natCast]
 rw[Nat.add_mul]at h5
 omega
theorem qCe{g:Grid}(hg:GOk g){i:Nat}(h:(i:Int)<allI g):i/qC4 g<g.kind.length:=by
 have h1:=hg.kind
 have h2:=qC8 hg
 have h4:allI g=g.w*g.h*quC g:=rfl
 rw[<- h1,<- h2.1,<- Int.natCast_mul]at h4
 exact Nat.div_lt_of_lt_mul (by rw[Nat.mul_comm];omega)
theorem qCf{g:Grid}(hg:GOk g)(i:Nat):(quJ g i).kind=1 ↔ (i:Int)<allI g/\i%qC4 g=0:=by
 have h2:=qC8 hg
 rw[qC9 hg,<- h2.1]
 omega
theorem qCg{g:Grid}(hg:GOk g)(i:Nat):(quJ g i).kind=2 ↔ (i:Int)<allI g/\i%qC4 g=1:=by
 have h2:=qC8 hg
 rw[qCa hg,<- h2.1]
 omega
theorem qCh{g:Grid}(hg:GOk g){n:Int}(h1:0<=n/\n<quD g)(h2:SrcK (quJ g n)):qvM g n=[]:=qBR hg ((qAg hg n).2 ⟨h1,h2⟩)
theorem qCi{g:Grid}(hg:GOk g){c:Cfg}(hc:CfgG g c){i:Nat}(hi:i<c.sel.length):qzD g c i<c.sel.length/\ -1<=qzD g c i:=by
 by_cases h:c.sel.getD i 0=0
 ·rw[qzD,if_pos (.inl (by rw[Int.toNat_natCast];exact h))];omega
 ·obtain⟨_,h1,h2⟩:=qzE hg hc.sels (n:=i) (by omega) (by rw[Int.toNat_natCast];exact h)
  omega
theorem atN3(a b c d e:Bool):atN [a,b,c,d] 3=atN [a,b,c,e] 3:=by cases a<;>cases b<;>cases c<;>cases d<;>cases e<;>rfl
theorem qCj{g:Grid}(hg:GOk g){c:Cfg}(hc:CfgG g c)(s:PSt)(pads:List Bool):Loc (rndF g c s pads) (depF g c) c.sel.length:=by
 have hln:=hc.ln.1
 have hcn:=hg.count
 have hE:=qC8 hg
 refine⟨fun v w i hi h=> ?_,fun i hi j hj=> ?_⟩
 ·unfold rndF
  unfold depF at h
  split
  ·rfl
  ·split
   ·rename_i h1
    rw[if_pos h1]at h
    unfold qwV qC3
    by_cases e:c.mode.getD (i/qC4 g) 0=1\/c.mode.getD (i/qC4 g) 0=2
    ·rw[if_pos e]at h
     rw[if_pos e,if_pos e,h (i+2) (by simp),h (i+3) (by simp),h (i+4) (by simp),h (i+5) (by simp)]
    ·rw[if_neg e]at h
     rw[if_neg e,if_neg e]
     by_cases e2:c.mode.getD (i/qC4 g) 0=3
     ·rw[if_pos e2]at h
      rw[if_pos e2,if_pos e2,h (i+2) (by simp),h (i+3) (by simp),h (i+4) (by simp)]
      unfold ramF
      rw[atN3 _ _ _ (v.getD (i+5) false) (w.getD (i+5) false)]
     ·rw[if_neg e2,if_neg e2]
   ·rename_i h1
    rw[if_neg h1]at h
    split
    ·rfl
    ·unfold drvV
     by_cases e:0<=qzD g c i
     ·rw[if_pos e]at h
      rw[if_pos e,if_pos e,h _ (by simp)]
     ·rw[if_neg e,if_neg e]
 ·unfold depF at hj
  split at hj
  ·rename_i h1
   obtain⟨q1,q2⟩:=(qCf hg i).1 h1
   have q3:=qCe hg q1
   obtain⟨q4,q5⟩:=qCd hg q3
   have q6:i/qC4 g*qC4 g=i:=Nat.div_mul_cancel (Nat.dvd_of_mod_eq_zero q2)
   have q7:quD g=allI g+2*g.pads:=rfl
   have q8:=hg.pads
   repeat' split at hj
   all_goals simp at hj
   all_goals omega
  ·split at hj
   ·have:=qCi hg hc hi
    simp at hj
    omega
   ·simp at hj
theorem qCk{g:Grid}(hg:GOk g){c:Cfg}(hc:CfgG g c){s:PSt}{pads v:List Bool}{i:Nat}(hi:i<c.sel.length)(h:qvM g i≠[]):rndF g c s pads v i=drvV (qzD g c i) v:=by
 have hln:=hc.ln.1
 have hcn:=hg.count
 have: ¬SrcK (quJ g i):=fun e=>h (qCh hg (by omega) e)
 unfold SrcK at this
 unfold rndF
 rw[if_neg (by omega),if_neg (by omega),if_neg (by omega)]
theorem qCl{R:List Bool->Nat->Bool}{n:Nat}{v:List Bool}(h:qxj R n v=v){i:Nat}(hi:i<n):v.getD i false=R v i:=by
 have:=qxr (R:=R) (v:=v) hi false
 rw[h]at this
 exact this
theorem qCm {g : Grid} (hg : GOk g) {c : Cfg} (hc : CfgG g c) {s : PSt} {pads v : List Bool} (hv : qxj (rndF g c s pads) c.sel.length v = v) :
  ∀(f:Nat) (sn:List Int) (x:Int),(0<=x/\x<c.sel.length)->(qz6 g c f sn x).2=0->(0<=(qz6 g c f sn x).1/\(qz6 g c f sn x).1<c.sel.length)/\v.getD (qz6 g c f sn x).1.toNat false=v.getD x.toNat false
 |0,_,_,_,h=>by cases h
 | f + 1, sn, x, hx, h => by
   rw[qz6]at h ⊢
   by_cases e:x∈sn
   ·rw[if_pos e]at h;cases h
   rw[if_neg e]at h ⊢
   by_cases e2:qvM g x=[]
   ·rw[if_pos e2];exact⟨hx,rfl⟩
   rw[if_neg e2]at h ⊢
   by_cases e3:c.sel.getD x.toNat 0=0
   ·rw[if_pos e3]at h;cases h
   rw[if_neg e3]at h ⊢
   obtain⟨d1,d2,d3⟩:=qzE hg hc.sels hx e3
   rw[<- d1]at h ⊢
   obtain⟨q1,q2⟩:=qCm hg hc hv f _ _ ⟨d2,d3⟩ h
   refine⟨q1,?_⟩
   rw[q2,qCl hv (i:=x.toNat) (by omega),qCk hg hc (by omega) (by rw[show((x.toNat:Nat):Int)=x by omega];exact e2),show((x.toNat:Nat):Int)=x by omega,drvV,if_pos d2]
theorem qCn{g:Grid}(hg:GOk g){c:Cfg}(hc:CfgG g c){s:PSt}{pads v:List Bool}(hv:qxj (rndF g c s pads) c.sel.length v=v){x:Int}(hx:0<=x/\x<c.sel.length)(h:(qz7 g c x).2=4)(h0:c.sel.getD x.toNat 0=0):v.getD x.toNat false=false:=by
 rw[qz7,if_pos (by omega),qz6,if_neg (by simp)]at h
 by_cases e2:qvM g x=[]
 ·rw[if_pos e2]at h;cases h
 rw[qCl hv (i:=x.toNat) (by omega),qCk hg hc (by omega) (by rw[show((x.toNat:Nat):Int)=x by omega];exact e2),show((x.toNat:Nat):Int)=x by omega,qzD,if_pos (.inl h0)]
 rfl
def qCr(g:Grid)(n:Nat):List Spot:=(List.range n).map fun(i:Nat)=>quJ g (i:Int)
def qCs(g:Grid)(c:Cfg)(n:Nat):List Int:=(List.range n).map fun(i:Nat)=>qzD g c (i:Int)
def qCt(g:Grid)(n:Nat):List Int:=idxF (fun i=>decide ((quJ g i).kind=1)) n
theorem qCu{p:Nat->Bool}{a:Nat} : ∀ {j:Nat},(∀i,a<=i->i<a+j->p i=false)->idxF p (a+j)=idxF p a
 |0,_=>rfl
 | j + 1, h => by
   rw[<- Nat.add_assoc,idxF,h (a+j) (by omega) (by omega),qCu (j:=j) fun i h1 h2=>h i h1 (by omega)]
   simp
theorem qCv{g:Grid}(hg:GOk g): ∀t,t<=g.kind.length->qCt g (t*qC4 g)=(List.range t).map fun k=>((k*qC4 g:Nat):Int)
 |0,_=>by rw[Nat.zero_mul];rfl
 | t + 1, h => by
   have hE:=qC8 hg
   have hT:=qCd hg (t:=t) (by omega)
   have h1:(t+1)*qC4 g=t*qC4 g+1+(qC4 g-1):=by rw[Nat.add_mul];omega
   have hk:(quJ g ((t*qC4 g:Nat):Int)).kind=1:=(qCf hg _).2 ⟨by omega,Nat.mul_mod_left _ _⟩
   rw[qCt,h1,qCu (fun i h2 h3=> ?_),idxF,decide_eq_true hk,if_pos rfl,List.range_succ,List.map_append]
   ·have:=qCv hg t (by omega)
    rw[qCt]at this
    rw[this]
    rfl
   ·refine decide_eq_false fun e=> ?_
    obtain⟨e1,e2⟩:=(qCf hg i).1 e
    obtain⟨r,rfl⟩: ∃r,i=t*qC4 g+r:=⟨i-t*qC4 g,by omega⟩
    rw[Nat.mul_comm t,Nat.mul_add_mod,Nat.mod_eq_of_lt (by omega)]at e2
    omega
theorem qCw{g:Grid}(hg:GOk g):qCt g (quD g).toNat=(List.range g.kind.length).map fun k=>((k*qC4 g:Nat):Int):=by
 have hE:=qC8 hg
 have hA:=hg.all
 have hp:=hg.pads
 have hk:=hg.kind
 have h4:allI g=g.w*g.h*quC g:=rfl
 rw[<- hk,<- hE.1,<- Int.natCast_mul]at h4
 have h5:(quD g).toNat=g.kind.length*qC4 g+(2*g.pads).toNat:=by unfold quD;omega
 rw[<- qCv hg g.kind.length (Nat.le_refl _),h5,qCt,qCu fun i h1 h2=>decide_eq_false fun e=> ?_]
 ·rfl
 ·have:=(qCf hg i).1 e
  omega
theorem qCx{n:Nat}{f f' :Nat->Bool}{k:Nat}{x:Bool}(hk:k<n)(hx:f' k=x)(h: ∀i,i<n->i≠k->f' i=f i):((List.range n).map f).set k x=(List.range n).map f' :=by
 refine List.ext_getElem (by simp) fun i h1 h2=> ?_
 simp only[List.length_set,List.length_map,List.length_range]at h1
 rw[List.getElem_set]
 simp only[List.getElem_map,List.getElem_range]
 split
 ·rename_i e;subst e;exact hx.symm
 ·rename_i e;exact(h i h1 (fun q=>e q.symm)).symm
theorem qCy{n:Nat}{f f' :Nat->Bool}(h: ∀i,i<n->f' i=f i):(List.range n).map f=(List.range n).map f' :=List.map_congr_left fun i hi=>(h i (List.mem_range.1 hi)).symm
theorem qCz{v:List Bool}{i:Nat}(h:i+6<=v.length):(v.drop (i+2)).take 4=qC3 v i:=by
 unfold qC3
 refine List.ext_getElem (by simp;omega) fun j h1 h2=> ?_
 simp only[List.length_cons,List.length_nil]at h2
 rw[List.getElem_take,List.getElem_drop]
 have hg: ∀k,(hk:k<v.length)->v.getD k false=v[k]:=fun k hk=>by rw[List.getD_eq_getElem?_getD,List.getElem?_eq_getElem hk];rfl
 match j,h2 with
 |0,_=>exact(hg _ (by omega)).symm
 |1,_=>exact(hg _ (by omega)).symm
 |2,_=>exact(hg _ (by omega)).symm
 |3,_=>exact(hg _ (by omega)).symm
def outP(g:Grid)(c:Cfg)(pads v:List Bool)(i:Nat):Bool:=
 if(quJ g i).kind=6 then pads.getD (quJ g i).i.toNat false else if(quJ g i).kind=1\/(quJ g i).kind=2 then false else drvV (qzD g c i) v
theorem qCA{g:Grid}{n k:Nat}(h:k<n):(qCr g n).getD k default=quJ g k:=by
 rw[List.getD_eq_getElem?_getD,qCr,List.getElem?_map,List.getElem?_range h];rfl
theorem qCB{g:Grid}{c:Cfg}{n k:Nat}(h:k<n):(qCs g c n).getD k 0=qzD g c k:=by
 rw[List.getD_eq_getElem?_getD,qCs,List.getElem?_map,List.getElem?_range h];rfl
def out1(g:Grid)(c:Cfg)(pads v:List Bool)(n k:Nat):List Bool:=(List.range n).map fun i=>if i<k then outP g c pads v i else false
def out2(g:Grid)(c:Cfg)(s:PSt)(pads v:List Bool)(n t:Nat):List Bool:=(List.range n).map fun(i:Nat)=>if(quJ g i).kind=1\/(quJ g i).kind=2 then(if i/qC4 g<t then rndF g c s pads v i else false)else outP g c pads v i
theorem qCC(g:Grid)(c:Cfg)(pads v:List Bool)(n k:Nat):(out1 g c pads v n k).length=n:=by simp[out1]
theorem qCD(g:Grid)(c:Cfg)(s:PSt)(pads v:List Bool)(n t:Nat):(out2 g c s pads v n t).length=n:=by simp[out2]
theorem qCE(g:Grid)(c:Cfg)(pads v:List Bool)(n:Nat):List.replicate n false=out1 g c pads v n 0:=by
 refine List.ext_getElem (by simp[out1]) fun i h1 h2=> ?_
 simp[out1]
theorem qCF{g:Grid}{c:Cfg}{pads v:List Bool}{n k:Nat}{x:Bool}(hk:k<n)(hx:outP g c pads v k=x):(out1 g c pads v n k).set k x=out1 g c pads v n (k+1):=
 qCx hk (by simp only[Nat.lt_succ_self,if_true];exact hx) fun i _ h=>by
  by_cases e:i<k
  ·simp only[if_pos e,if_pos (show i<k+1 by omega)]
  ·simp only[if_neg e,if_neg (show ¬i<k+1 by omega)]
theorem qCG{g:Grid}{c:Cfg}{pads v:List Bool}{n k:Nat}(hx:outP g c pads v k=false):out1 g c pads v n k=out1 g c pads v n (k+1):=
 qCy fun i _=>by
  by_cases e:i<k
  ·simp only[if_pos e,if_pos (show i<k+1 by omega)]
  ·by_cases e2:i=k
   ·subst e2;simp only[if_neg e,if_pos (show i<i+1 by omega),hx]
   ·simp only[if_neg e,if_neg (show ¬i<k+1 by omega)]
theorem qCH(g:Grid)(c:Cfg)(s:PSt)(pads v:List Bool)(n:Nat):out1 g c pads v n n=out2 g c s pads v n 0:=
 qCy fun i hi=>by
  simp only[if_pos hi,Nat.not_lt_zero,if_false]
  by_cases e:(quJ g i).kind=1\/(quJ g i).kind=2
  ·rw[if_pos e,outP,if_neg (by omega),if_pos e]
  ·rw[if_neg e]
theorem qCI{g:Grid}(hg:GOk g)(c:Cfg)(s:PSt)(pads v:List Bool)(n:Nat):out2 g c s pads v n g.kind.length=qxj (rndF g c s pads) n v:=
 qCy fun i hi=>by
  by_cases e:(quJ g i).kind=1\/(quJ g i).kind=2
  ·have:i/qC4 g<g.kind.length:=by
    rcases e with e|e
    ·exact qCe hg ((qCf hg i).1 e).1
    ·exact qCe hg ((qCg hg i).1 e).1
   simp only[if_pos e,if_pos this]
  ·simp only[if_neg e]
   unfold rndF outP
   by_cases e6:(quJ g i).kind=6
   ·rw[if_pos e6,if_pos e6]
   ·rw[if_neg e6,if_neg e6,if_neg (fun q=>e (.inl q)),if_neg (fun q=>e (.inr q)),if_neg e]
theorem qCJ{g:Grid}(hg:GOk g)(c:Cfg)(s:PSt)(pads v:List Bool){t:Nat}(ht:t<g.kind.length):rndF g c s pads v (t*qC4 g)=qwV c s t (qC3 v (t*qC4 g)):=by
 have hE:=qC8 hg
 have hT:=qCd hg ht
 have h1:(quJ g ((t*qC4 g:Nat):Int)).kind=1:=(qCf hg _).2 ⟨by omega,Nat.mul_mod_left _ _⟩
 rw[rndF,h1,if_neg (by decide),if_pos rfl,Nat.mul_div_cancel _ (by omega)]
theorem qCK{g:Grid}(hg:GOk g)(c:Cfg)(s:PSt)(pads v:List Bool){t:Nat}(ht:t<g.kind.length):rndF g c s pads v (t*qC4 g+1)=qwW c s t:=by
 have hE:=qC8 hg
 have hT:=qCd hg ht
 have h1:(quJ g ((t*qC4 g+1:Nat):Int)).kind=2:=(qCg hg _).2 ⟨by omega,by rw[Nat.mul_comm,Nat.mul_add_mod,Nat.mod_eq_of_lt (by omega)]⟩
 have h2:(t*qC4 g+1)/qC4 g=t:=by rw[Nat.mul_comm,Nat.mul_add_div (by omega),Nat.div_eq_of_lt (by omega)];rfl
 rw[rndF,h1,if_neg (by decide),if_neg (by decide),if_pos rfl,h2]
theorem qCL {g : Grid} (hg : GOk g) (c : Cfg) (s : PSt) (pads v : List Bool) {n t : Nat} (hn : n = (quD g).toNat) (ht : t < g.kind.length) :
  ((out2 g c s pads v n t).set (t*qC4 g) (rndF g c s pads v (t*qC4 g))).set (t*qC4 g+1) (rndF g c s pads v (t*qC4 g+1))=out2 g c s pads v n (t+1):=by
 have hE:=qC8 hg
 have hT:=qCd hg ht
 have hA:=hg.all
 have hP:=hg.pads
 have hC:quD g=allI g+2*g.pads:=rfl
 have k1:(quJ g ((t*qC4 g:Nat):Int)).kind=1:=(qCf hg _).2 ⟨by omega,Nat.mul_mod_left _ _⟩
 have k2:(quJ g ((t*qC4 g+1:Nat):Int)).kind=2:=(qCg hg _).2 ⟨by omega,by rw[Nat.mul_comm,Nat.mul_add_mod,Nat.mod_eq_of_lt (by omega)]⟩
 have d1:t*qC4 g/qC4 g=t:=Nat.mul_div_cancel _ (by omega)
 have d2:(t*qC4 g+1)/qC4 g=t:=by rw[Nat.mul_comm,Nat.mul_add_div (by omega),Nat.div_eq_of_lt (by omega)];rfl
 unfold out2
 rw[qCx (f' :=fun(i:Nat)=>if i=t*qC4 g then rndF g c s pads v (t*qC4 g)else if(quJ g i).kind=1\/(quJ g i).kind=2 then(if i/qC4 g<t then rndF g c s pads v i else false)else outP g c pads v i) (by omega) (if_pos rfl) fun i _ h=>if_neg h]
 refine qCx (by omega) ?_ fun i _ h=> ?_
 ·simp only[k2,d2]
  rw[if_pos (Or.inr trivial),if_pos (Nat.lt_succ_self t)]
 ·by_cases e:i=t*qC4 g
  ·subst e
   simp only[if_true,k1,d1]
   rw[if_pos (Or.inl trivial),if_pos (Nat.lt_succ_self t)]
  ·simp only[if_neg e]
   by_cases e2:(quJ g i).kind=1\/(quJ g i).kind=2
   ·simp only[if_pos e2]
    have hne:i/qC4 g≠t:=fun q=>by
     have hdm:=Nat.div_add_mod i (qC4 g)
     rw[q,Nat.mul_comm]at hdm
     rcases e2 with e2|e2
     ·have:=((qCf hg i).1 e2).2;omega
     ·have:=((qCg hg i).1 e2).2;omega
    by_cases e3:i/qC4 g<t
    ·rw[if_pos e3,if_pos (by omega)]
    ·rw[if_neg e3,if_neg (by omega)]
   ·simp only[if_neg e2]
set_option maxHeartbeats 8000000 in
theorem qCM (g : Grid) (hg : GOk g) (c : Cfg) (hc : CfgG g c) (s : PSt) (pads v : List Bool) (hv : v.length = c.sel.length) :
  FnEq Tryz.prog 63 [.iptr false (arrC false c (qCr g c.sel.length) (qCt g c.sel.length) (qCs g c c.sel.length) s pads) 0,.sl false 1 (rows qk7 v)]
   (.sl true 1 (rows qk7 (qxj (rndF g c s pads) c.sel.length v))):=by
 have e0: ∀(l:List Int) (j:Nat),l.getD j default=l.getD j 0:=fun _ _=>rfl
 have e1: ∀(l:List Bool) (j:Nat),l.getD j default=l.getD j false:=fun _ _=>rfl
 have hcn:=hg.count
 obtain⟨l1,l2,l3,l4⟩:=hc.ln
 have hF:qCt g c.sel.length=(List.range g.kind.length).map fun k=>((k*qC4 g:Nat):Int):=by rw[l1];exact qCw hg
 have hsl:(qCr g c.sel.length).length=c.sel.length:=by simp[qCr]
 have hdl:(qCs g c c.sel.length).length=c.sel.length:=by simp[qCs]
 have hfl:(qCt g c.sel.length).length=g.kind.length:=by rw[hF];simp
 have hsp: ∀k,k<c.sel.length->(qCr g c.sel.length).getD k default=quJ g k:=fun k=>qCA
 have hdr: ∀k,k<c.sel.length->(qCs g c c.sel.length).getD k 0=qzD g c k:=fun k=>qCB
 have hfi: ∀t,t<g.kind.length->(qCt g c.sel.length).getD t 0=((t*qC4 g:Nat):Int):=fun t ht=>by
  rw[hF,List.getD_eq_getElem?_getD,List.getElem?_map,List.getElem?_range ht];rfl
 generalize qCr g c.sel.length=sp at *
 generalize qCs g c c.sel.length=dr at *
 generalize qCt g c.sel.length=fi at *
 clear hF
 have hdv:=fun k (hk:k<c.sel.length)=>qCi hg hc hk
 generalize hn:c.sel.length=n at *
 refine FnEq.of_awp Tryz.func63 ok63 (by show 2<=_;decide) (by simp only[push_cast,reduceIte,reduceEqDiff,reduceAdd,reduceSub,reduceMul,Nat.reduceBEq,reduceLT,reduceLeDiff,reduceCtorEq,reduceToNat,reduceNeg]<;>first|exact fun _ _=>trivial|simp) ?_
 simp only[ac63,rv63,push_cast,reduceIte,reduceEqDiff,reduceAdd,reduceSub,reduceMul,Nat.reduceBEq,reduceLT,reduceLeDiff,reduceCtorEq,reduceToNat,reduceNeg]
 refine qoF qxi ?_
 refine sB ?_
 refine⟨by omega,?_⟩
 refine qoH (fun m st=> ∃k:Nat,k<=n/\m=n-k/\st=⟨[(0,.iptr false (arrC false c sp fi dr s pads) 0),(1,.sl false 1 (rows qk7 v)),(5,.ptr 5 0),(6,.view 15 0 n),(19,.sl false 4 (rows quz sp)),(20,.int n),(21,.int k)],[(5,qxg)],
  [(15,⟨1,4,rows qk7 (out1 g c pads v n k)⟩)],[]⟩) n ?_ ?_
 ·refine⟨0,by omega,by omega,?_⟩
  rw[hsl,hv]
  simp only[List.length_replicate,qCE g c pads v n,qCC,push_cast,reduceIte,reduceEqDiff,reduceAdd,reduceSub,reduceMul,Nat.reduceBEq,reduceLT,reduceLeDiff,reduceCtorEq,reduceToNat,reduceNeg]
  try rfl
 rintro m st ⟨k,hk,rfl,rfl⟩
 have hol:=qCC g c pads v n k
 simp only[e0,e1,push_cast,reduceIte,reduceEqDiff,reduceAdd,reduceSub,reduceMul,Nat.reduceBEq,reduceLT,reduceLeDiff,reduceCtorEq,reduceToNat,reduceNeg]
 refine qnR (fun h=> ?_) fun h=> ?_
 ·have hkn:k<n:=by omega
  refine⟨by omega,by omega,?_⟩
  rw[hsp k hkn]
  refine qnR (fun h6=> ?_) fun h6=> ?_
  ·have hd:=qCc ((qCb hg k).1 h6)
   have hd0:=(qCb hg k).1 h6
   have hO:outP g c pads v k=pads.getD (quJ g k).i.toNat false:=if_pos h6
   refine qru rfl (fun h7=> ?_) fun h7=> ?_<;>simp only[e0,e1,push_cast,reduceIte,reduceEqDiff,reduceAdd,reduceSub,reduceMul,Nat.reduceBEq,reduceLT,reduceLeDiff,reduceCtorEq,reduceToNat,reduceNeg]
   ·refine⟨by omega,by omega,by omega,by omega,by omega,_,?_,k+1,by omega,rfl,?_⟩
    ·omega
    ·rw[qCF hkn hO]
     exact sC
   ·rw[List.getD_eq_getElem?_getD,List.getElem?_eq_none (by omega),Option.getD_none]at hO
    refine⟨by omega,by omega,by omega,_,?_,k+1,by omega,rfl,?_⟩
    ·omega
    ·rw[qCF hkn hO]
     exact sC
  refine qnR (fun h1=> ?_) fun h1=> ?_
  ·refine qnR (fun _=> ?_) fun q=>absurd h1 q
   refine⟨by omega,_,?_,k+1,by omega,rfl,?_⟩
   ·omega
   ·rw[qCG (show outP g c pads v k=false by rw[outP,if_neg h6,if_pos (.inl h1)])]
    exact sC
  refine qnR (fun h2=> ?_) fun h2=> ?_
  ·refine⟨by omega,_,?_,k+1,by omega,rfl,?_⟩
   ·omega
   ·rw[qCG (show outP g c pads v k=false by rw[outP,if_neg h6,if_pos (.inr h2)])]
    exact sC
  have hO:outP g c pads v k=drvV (qzD g c k) v:=by rw[outP,if_neg h6,if_neg (fun q=>q.elim h1 h2)]
  have hdk:=hdv k hkn
  rw[drvV]at hO
  refine⟨by omega,by omega,?_⟩
  rw[hdr k hkn]
  refine qrq rfl (fun h7=> ?_) fun h7=> ?_<;>simp only[e0,e1,hdr k hkn,push_cast,reduceIte,reduceEqDiff,reduceAdd,reduceSub,reduceMul,Nat.reduceBEq,reduceLT,reduceLeDiff,reduceCtorEq,reduceToNat,reduceNeg]
  ·rw[if_pos (by omega)]at hO
   refine⟨by omega,by omega,by omega,by omega,by omega,by omega,by omega,_,?_,k+1,by omega,rfl,?_⟩
   ·omega
   ·rw[qCF hkn hO]
    exact sC
  ·rw[if_neg (by omega)]at hO
   refine⟨by omega,by omega,by omega,_,?_,k+1,by omega,rfl,?_⟩
   ·omega
   ·rw[qCF hkn hO]
    exact sC
 ·have hkn:k=n:=by omega
  subst hkn
  rw[qCH g c s pads v]
  refine qoH (fun m st=> ∃t:Nat,t<=g.kind.length/\m=g.kind.length-t/\st=⟨[(0,.iptr false (arrC false c sp fi dr s pads) 0),(1,.sl false 1 (rows qk7 v)),(5,.ptr 5 0),(6,.view 15 0 k),(81,.sl false 1 (ints fi)),(82,.int g.kind.length),(83,.int t)],[(5,qxg)],
   [(15,⟨1,4,rows qk7 (out2 g c s pads v k t)⟩)],[]⟩) g.kind.length ?_ ?_
  ·refine⟨0,by omega,by omega,?_⟩
   simp only[hfl,push_cast,reduceIte,reduceEqDiff,reduceAdd,reduceSub,reduceMul,Nat.reduceBEq,reduceLT,reduceLeDiff,reduceCtorEq,reduceToNat,reduceNeg]
   try rfl
  rintro m st ⟨t,ht,rfl,rfl⟩
  have hol:=qCD g c s pads v k t
  simp only[e0,e1,push_cast,reduceIte,reduceEqDiff,reduceAdd,reduceSub,reduceMul,Nat.reduceBEq,reduceLT,reduceLeDiff,reduceCtorEq,reduceToNat,reduceNeg]
  refine qnR (fun h=> ?_) fun h=> ?_
  ·have htT:t<g.kind.length:=by omega
   obtain⟨hm,hr⟩:=hc.tile t htT
   have hft:=hfi t htT
   have hS:=qCL hg c s pads v l1 htT
   have hT:=qCd hg htT
   have hE:=qC8 hg
   have hP:=hg.pads
   have hC:quD g=allI g+2*g.pads:=rfl
   rw[qCJ hg c s pads v htT,qCK hg c s pads v htT]at hS
   have hpn:(qC3 v (t*qC4 g)).length=4:=rfl
   have hwh:=hg.wh
   have hkd:=hg.kind
   have hsl2:(v.drop (t*qC4 g+2)).take 4=qC3 v (t*qC4 g):=qCz (by omega)
   generalize hN:t*qC4 g=N at hft hS hT hpn hsl2
   have hsl3:List.drop ((N:Int)+2).toNat (List.take ((N:Int)+2+4).toNat v)=qC3 v N:=by
    rw[<- hsl2,show((N:Int)+2).toNat=N+2 by omega,show((N:Int)+2+4).toNat=N+6 by omega,List.drop_take,show N+6-(N+2)=4 by omega]
   have htt:((t:Int)).toNat=t:=Int.toNat_natCast t
   have hL1:FnEq Tryz.prog 53 [.iptr false (arrC false c sp fi dr s pads) 0,.int t,.sl false 1 (rows qk7 (qC3 v N))] (.bool (qwU (c.tab.getD t 0) (qC3 v N))):=qxb c sp fi dr s pads t (by omega) _ hpn
   have hL2:FnEq Tryz.prog 54 [.iptr false (arrC false c sp fi dr s pads) 0,.int t] (.bool (qwT s.regs (c.ram.getD t 0/8) (c.ram.getD t 0%8))):=qxe c sp fi dr s pads t (by omega) (by rw[htt];exact hr)
   have hL3:FnEq Tryz.prog 56 [.iptr false (arrC false c sp fi dr s pads) 0,.int t,.sl false 1 (rows qk7 (qC3 v N))] (.bool (ramF s (c.ram.getD t 0) (qC3 v N))):=qxf c sp fi dr s pads t (by omega) (by rw[htt];exact hr) _ hpn
   refine⟨by omega,by omega,by omega,by omega,?_⟩
   have hmc:c.mode.getD t 0=0\/c.mode.getD t 0=1\/c.mode.getD t 0=2\/c.mode.getD t 0=3:=by omega
   rcases hmc with e|e|e|e
   ·simp only[e,hft,hsl3,push_cast,reduceIte,reduceEqDiff,reduceAdd,reduceSub,reduceMul,Nat.reduceBEq,reduceLT,reduceLeDiff,reduceCtorEq,reduceToNat,reduceNeg]
    rw[qwV,qwW,if_neg (by omega),if_neg (by omega),if_neg (by omega)]at hS
    refine⟨by omega,by omega,by omega,by omega,by omega,by omega,by kernel_rfl,?_⟩
    refine qro (qxc (.iptr false (arrC false c sp fi dr s pads) 0) (.int t) (.sl false 1 (rows qk7 (qC3 v N)))) sC rfl ?_
    refine sB ?_
    refine⟨by kernel_rfl,?_⟩
    refine qro (qxd (.iptr false (arrC false c sp fi dr s pads) 0) (.int t)) sC rfl ?_
    refine sB ?_
    refine⟨by omega,by omega,by omega,by rw[List.length_set];omega,by omega,_,?_,t+1,by omega,rfl,?_⟩
    ·omega
    ·rw[show((N:Int)+1).toNat=N+1 by omega,hS]
     exact sC
   ·simp only[e,hft,hsl3,push_cast,reduceIte,reduceEqDiff,reduceAdd,reduceSub,reduceMul,Nat.reduceBEq,reduceLT,reduceLeDiff,reduceCtorEq,reduceToNat,reduceNeg]
    rw[qwV,qwW,if_pos (by omega),if_neg (by omega)]at hS
    refine⟨by omega,by omega,by omega,by omega,by omega,by omega,by kernel_rfl,?_⟩
    refine qro hL1 sC rfl ?_
    refine sB ?_
    refine⟨by kernel_rfl,?_⟩
    refine qro (qxd (.iptr false (arrC false c sp fi dr s pads) 0) (.int t)) sC rfl ?_
    refine sB ?_
    refine⟨by omega,by omega,by omega,by rw[List.length_set];omega,by omega,_,?_,t+1,by omega,rfl,?_⟩
    ·omega
    ·rw[show((N:Int)+1).toNat=N+1 by omega,hS]
     exact sC
   ·simp only[e,hft,hsl3,push_cast,reduceIte,reduceEqDiff,reduceAdd,reduceSub,reduceMul,Nat.reduceBEq,reduceLT,reduceLeDiff,reduceCtorEq,reduceToNat,reduceNeg]
    rw[qwV,qwW,if_pos (by omega),if_pos (by omega)]at hS
    refine⟨by omega,by omega,by omega,by omega,by omega,by omega,by kernel_rfl,?_⟩
    refine qro hL1 sC rfl ?_
    refine sB ?_
    refine⟨by kernel_rfl,?_⟩
    refine qro hL2 sC rfl ?_
    refine sB ?_
    refine⟨by omega,by omega,by omega,by rw[List.length_set];omega,by omega,_,?_,t+1,by omega,rfl,?_⟩
    ·omega
    ·rw[show((N:Int)+1).toNat=N+1 by omega,hS]
     exact sC
   ·simp only[e,hft,hsl3,push_cast,reduceIte,reduceEqDiff,reduceAdd,reduceSub,reduceMul,Nat.reduceBEq,reduceLT,reduceLeDiff,reduceCtorEq,reduceToNat,reduceNeg]
    rw[qwV,qwW,if_neg (by omega),if_pos (by omega),if_neg (by omega)]at hS
    refine⟨by omega,by omega,by omega,by omega,by omega,by omega,by kernel_rfl,?_⟩
    refine qro hL3 sC rfl ?_
    refine sB ?_
    refine⟨by kernel_rfl,?_⟩
    refine qro (qxd (.iptr false (arrC false c sp fi dr s pads) 0) (.int t)) sC rfl ?_
    refine sB ?_
    refine⟨by omega,by omega,by omega,by rw[List.length_set];omega,by omega,_,?_,t+1,by omega,rfl,?_⟩
    ·omega
    ·rw[show((N:Int)+1).toNat=N+1 by omega,hS]
     exact sC
  ·have hte:t=g.kind.length:=by omega
   rw[hte,qCI hg c s pads v]
   rw[List.take_of_length_le (by rw[qxm];omega)]
   exact⟨fun _ _=>trivial,.refl _⟩
end Go.Proofs.YtdmkfgkmnpohlaaGreat
namespace Go.Proofs.YtdmkfgkmnpohlaaGreat.Txt
open Go Go.Vc
set_option maxRecDepth 100000
def xs27_300_6:List XO:=[⟨0,[],(aO 328 (.mv (.t 305)))⟩,⟨1,[],(aO 329 (.mv (.t 305)))⟩,⟨2,[1],(aO 330 (.nck (.t 329)))⟩,⟨3,[2],(aO 331 (.fa 4 (.t 330)))⟩,⟨4,[3],(aO 332 (.ld false 1 (.t 331)))⟩,⟨5,[],(aO 333 (.ld true 4 (.t 308)))⟩,⟨6,[5],(aO 334 (.bsl 4 125 [zI,zI,zI,zI] 1 [(0,(.t 333))]))⟩,⟨7,[4,6],(aO 335 (.app 4 125 32 (.t 332) (.t 334)))⟩,⟨8,[0,1,2,3,4,5,6,7],(aO 336 (.nck (.t 328)))⟩,⟨9,[0,1,2,3,4,5,6,7,8],(aO 337 (.fa 4 (.t 336)))⟩,⟨10,[0,1,2,3,4,5,6,7,9],(aN (.sto 1 (.t 337) (.t 335)))⟩]
theorem xs27_300_6_all{p:XO->Prop} :(∀x∈xs27_300_6,p x) ↔ p ⟨0,[],(aO 328 (.mv (.t 305)))⟩/\p ⟨1,[],(aO 329 (.mv (.t 305)))⟩/\p ⟨2,[1],(aO 330 (.nck (.t 329)))⟩/\p ⟨3,[2],(aO 331 (.fa 4 (.t 330)))⟩/\p ⟨4,[3],(aO 332 (.ld false 1 (.t 331)))⟩/\p ⟨5,[],(aO 333 (.ld true 4 (.t 308)))⟩/\p ⟨6,[5],(aO 334 (.bsl 4 125 [zI,zI,zI,zI] 1 [(0,(.t 333))]))⟩/\p ⟨7,[4,6],(aO 335 (.app 4 125 32 (.t 332) (.t 334)))⟩/\p ⟨8,[0,1,2,3,4,5,6,7],(aO 336 (.nck (.t 328)))⟩/\p ⟨9,[0,1,2,3,4,5,6,7,8],(aO 337 (.fa 4 (.t 336)))⟩/\p ⟨10,[0,1,2,3,4,5,6,7,9],(aN (.sto 1 (.t 337) (.t 335)))⟩:=by simp only[xs27_300_6,List.forall_mem_cons,List.not_mem_nil,false_implies,implies_true,and_true]
def ac27_300:AC:=
 (.seq (.reg [300,72,300,301] [
 (aO 302 (.box (.t 300))),(aO 303 (.box (.t 301))),(aO 304 (.mv (.c (.sc (.pointer none)))))])
 (.seq (.reg [300,72,302,303] [
 (aO 311 (.ld true 4 (.t 303))),(aO 312 (.bld [.nil,.nil,.nil,.nil,.nil,.nil,.nil,.nil,.nil,.nil] [(0,4,(.t 311))])),(aO 313 (.box (.t 312))),(aO 305 (.mv (.t 313)))])
 (.seq (.seq (.reg [300,72,302,303,305] [
 (aO 314 (.fa 0 (.t 303))),(aO 315 (.ld false 1 (.t 314))),(aO 316 (.len (.t 315))),(aO 317 (.mv (kI 0)))])
 (.block 0
 (.loop [300,72,302,305,315,316,317]
 (.seq (.reg [300,72,302,305,315,316,317] [
 (aO 318 (.cmp .lss .i64 (.t 317) (.t 316)))])
 (.seq (.cond (.t 318)
 .skip
 (.exit 0))
 (.seq (.block 1
 (.seq (.reg [300,72,302,305,315,316,317] [
 (aO 319 (.mv (.t 317))),(aO 320 (.ixs 1 (.t 315) (.t 317))),(aO 321 (.ld false 1 (.t 320))),(aO 306 (.mv (.t 319))),(aO 307 (.mv (.t 321)))])
 (.seq (.reg [300,72,302,305,306,307,315,316,317] [
 (aO 323 (.ld true 5 (.t 302))),(aO 324 (.mv (.t 306))),(aO 325 (.cal 50 [(.t 323),(.t 324)])),(aO 322 (.mv (.t 325))),(aO 326 (.ext (.t 322) 0)),(aO 327 (.ext (.t 322) 1)),(aO 308 (.alc [zI,zI,zI,zI])),(aN (.sto 4 (.t 308) (.t 326))),(aO 309 (.mv (.t 327)))])
 (.seq (.dra [300,72,302,305,306,307,308,315,316,317] xs27_300_6)
 (.seq (.seq (.reg [300,72,302,305,306,307,308,315,316,317] [
 (aO 338 (.fa 0 (.t 308))),(aO 339 (.ld false 1 (.t 338))),(aO 340 (.cmp .eql .i64 (.t 339) (kI 1)))])
 (.cond (.t 340)
 (.reg [300,72,302,305,306,307,315,316,317] [
 (aO 341 (.mv (.t 305))),(aO 342 (.mv (.t 305))),(aO 343 (.nck (.t 342))),(aO 344 (.fa 5 (.t 343))),(aO 345 (.ld false 1 (.t 344))),(aO 346 (.mv (.t 306))),(aO 347 (.bsl 1 3 [zI] 1 [(0,(.t 346))])),(aO 348 (.app 1 3 8 (.t 345) (.t 347))),(aO 349 (.nck (.t 341))),(aO 350 (.fa 5 (.t 349))),(aN (.sto 1 (.t 350) (.t 348)))])
 .skip))
 (.seq (.reg [300,72,302,305,306,307,315,316,317] [
 (aO 310 (.mv (kI (-1))))])
 (.seq (.seq (.reg [300,72,302,305,306,307,310,315,316,317] [
 (aO 351 (.mv (.t 307))),(aO 352 (.cmp .gtr .i64 (.t 351) (kI 0)))])
 (.cond (.t 352)
 (.reg [300,72,302,305,306,307,315,316,317] [
 (aO 353 (.ld true 5 (.t 302))),(aO 354 (.mv (.t 306))),(aO 355 (.cal 36 [(.t 353),(.t 354)])),(aO 356 (.mv (.t 307))),(aO 357 (.ari .sub true .i64 (.t 356) (kI 1))),(aO 358 (.ixs 1 (.t 355) (.t 357))),(aO 359 (.ld false 1 (.t 358))),(aO 310 (.mv (.t 359)))])
 .skip))
 (.reg [300,72,302,305,310,315,316,317] [
 (aO 360 (.mv (.t 305))),(aO 361 (.mv (.t 305))),(aO 362 (.nck (.t 361))),(aO 363 (.fa 6 (.t 362))),(aO 364 (.ld false 1 (.t 363))),(aO 365 (.mv (.t 310))),(aO 366 (.bsl 1 3 [zI] 1 [(0,(.t 365))])),(aO 367 (.app 1 3 8 (.t 364) (.t 366))),(aO 368 (.nck (.t 360))),(aO 369 (.fa 6 (.t 368))),(aN (.sto 1 (.t 369) (.t 367)))]))))))))
 (.reg [300,72,302,305,315,316,317] [
 (aO 370 (.ari .add true .i64 (.t 317) (kI 1))),(aO 317 (.mv (.t 370)))])))))))
 (.seq (.reg [300,72,305] [
 (aO 371 (.mv (.t 305))),(aO 304 (.mv (.t 371)))])
 .ret))))
def rv27_300:List RV:=[.tmp 304]
theorem ok27_300:qh0 Tryz.prog 300 ac27_300 rv27_300 Tryz.f27=true:=by kernel_rfl

def ac60_100:AC:=
 (.seq (.reg [100,22,100,101,102,103] [
 (aO 104 (.box (.t 100))),(aO 105 (.box (.t 101))),(aO 106 (.box (.t 102))),(aO 108 (.mv (.c (.sc (.pointer none)))))])
 (.seq (.reg [100,22,103,104,105,106] [
 (aO 110 (.ld true 5 (.t 104))),(aO 111 (.ld true 4 (.t 105))),(aO 112 (.clm 27 [(.t 110),(.t 111)])),(aO 109 (.mv (.t 112)))])
 (.seq (.reg [100,22,103,106,109] [
 (aO 113 (.mv (.t 109))),(aO 114 (.mv (.t 109))),(aO 115 (.ld true 2 (.t 106))),(aO 116 (.mv (.t 103))),(aO 117 (.nck (.t 113))),(aO 118 (.fa 7 (.t 117))),(aN (.sto 2 (.t 118) (.t 115))),(aO 119 (.nck (.t 114))),(aO 120 (.fa 9 (.t 119))),(aN (.sto 1 (.t 120) (.t 116)))])
 (.seq (.reg [100,22,109] [
 (aO 121 (.mv (.t 109))),(aO 108 (.mv (.t 121)))])
 .ret))))
def rv60_100:List RV:=[.tmp 108]
theorem ok60_100:qh0 Tryz.prog 100 ac60_100 rv60_100 Tryz.f60=true:=by kernel_rfl

def ac32:AC:=
 (.seq (.reg [0,15,0,1,2,3] [
 (aO 4 (.box (.t 0))),(aO 5 (.box (.t 1))),(aO 6 (.box (.t 2))),(aO 8 (.mv (.c (.nil))))])
 (.seq (.reg [0,15,3,4,5,6] [
 (aO 9 (.ld true 5 (.t 4))),(aO 10 (.ld true 4 (.t 5))),(aO 11 (.ld true 2 (.t 6))),(aO 12 (.mv (.t 3))),(aO 13 (.clm 60 [(.t 9),(.t 10),(.t 11),(.t 12)])),(aO 14 (.cal 61 [(.t 13)])),(aO 8 (.mv (.t 14)))])
 .ret))
def rv32:List RV:=[.tmp 8]
theorem ok32:fnOk Tryz.prog ac32 rv32 Tryz.f32=true:=by kernel_rfl

def ac33:AC:=
 (.seq (.reg [0,20,0,1,2,3,4] [
 (aO 5 (.box (.t 0))),(aO 6 (.box (.t 1))),(aO 7 (.box (.t 2))),(aO 10 (.mv (.c (.sc (.bool false)))))])
 (.seq (.reg [0,20,3,4,5,6,7] [
 (aO 11 (.ld true 5 (.t 5))),(aO 12 (.ld true 4 (.t 6))),(aO 13 (.ld true 2 (.t 7))),(aO 14 (.mv (.t 3))),(aO 15 (.clm 60 [(.t 11),(.t 12),(.t 13),(.t 14)])),(aO 16 (.mv (.t 4))),(aO 17 (.cal 63 [(.t 15),(.t 16)])),(aO 18 (.mv (.t 4))),(aO 19 (.cal 62 [(.t 17),(.t 18)])),(aO 10 (.mv (.t 19)))])
 .ret))
def rv33:List RV:=[.tmp 10]
theorem ok33:fnOk Tryz.prog ac33 rv33 Tryz.f33=true:=by kernel_rfl

def ac34:AC:=
 (.seq (.reg [0,18,0,1,2,3,4] [
 (aO 5 (.box (.t 0))),(aO 6 (.box (.t 1))),(aO 7 (.box (.t 2))),(aO 10 (.mv (.c (.nil))))])
 (.seq (.reg [0,18,3,4,5,6,7] [
 (aO 11 (.ld true 5 (.t 5))),(aO 12 (.ld true 4 (.t 6))),(aO 13 (.ld true 2 (.t 7))),(aO 14 (.mv (.t 3))),(aO 15 (.clm 60 [(.t 11),(.t 12),(.t 13),(.t 14)])),(aO 16 (.mv (.t 4))),(aO 17 (.cal 63 [(.t 15),(.t 16)])),(aO 10 (.mv (.t 17)))])
 .ret))
def rv34:List RV:=[.tmp 10]
theorem ok34:fnOk Tryz.prog ac34 rv34 Tryz.f34=true:=by kernel_rfl
end Go.Proofs.YtdmkfgkmnpohlaaGreat.Txt
namespace Go.Vc
open Go Go.RowKit
def outL(l:List Nat)(i:Nat):Bool:= !inL l i
def qCN(nb na:List Nat)(r:PV)(st:St):Bool:=
 (st.s.isEmpty&&st.m.isEmpty)&&(st.b.all (fun x=>inL nb x.1&& !x.2.any (PV.to (outL nb) (outL na)))&&st.a.all (fun x=>inL na x.1))&& !r.toV (outL nb) (outL na)
def qCO(nb na:List Nat)(st:St):Bool:=st.noTo (inL nb) (inL na)&&(st.b.all (fun x=> !inL nb x.1)&&st.a.all (fun x=> !inL na x.1))
theorem qCP{α:Type}{l:List (Nat×α)}{i:Nat}{v:α}(h:lk l i=some v):(i,v)∈l:=by
 induction l with
 |nil=>cases h
 |cons x r ih=>
   obtain⟨k,u⟩:=x
   simp only[lk]at h
   split at h
   ·rename_i e;cases h;subst e;simp
   ·exact List.mem_cons_of_mem _ (ih h)
theorem qCQ{α:Type}{l r:List (Nat×α)}{i:Nat}{v:α}(h:lk (l++r) i=some v):lk l i=some v\/lk r i=some v:=by
 induction l with
 |nil=>exact .inr h
 |cons x l ih=>
   obtain⟨k,u⟩:=x
   simp only[List.cons_append,lk]at h ⊢
   split at h
   ·rename_i e;rw[if_pos e];exact .inl h
   ·rename_i e;rw[if_neg e];exact ih h
section
variable {w0:World} {Z0:Zone} {X:Gh} {G:Nat->Value} {Z:Zone} {L:Lay} {st:St} {w:World}
theorem Inv.join (hM : Mem w0 Z0 X G Z L st w) {w' : World} {Z' : Zone} {L' : Lay} {st' : St} {nb na : List Nat} {r : PV} {X' : Gh} {G' : Nat -> Value} (hX : X'.y = X.y) (hN : Mem w Z X' G' Z' L' st' w') (ho : qCN nb na r st' = true) (hst : qCO nb na st = true) :
  ∃L2,LSame L' L2 (outL nb) (outL na)/\Mem w0 Z0 X G Z' L2 ⟨st.s,st.b++st'.b,st.a++st'.a,st.m⟩ w' :=by
 simp only[qCN,qCO,Bool.and_eq_true,List.all_eq_true,Bool.not_eq_true']at ho hst
 obtain⟨⟨⟨hs0,hm0⟩,hob,hoa⟩,_⟩:=ho
 obtain⟨hno,hsb,hsa⟩:=hst
 let L2:Lay:=⟨fun i=>if inL nb i=true then L'.bx i else L.bx i,fun i=>if inL na i=true then L'.ab i else L.ab i,fun i=>if inL na i=true then L'.ac i else L.ac i,fun i=>if inL na i=true then L'.ae i else L.ae i,fun i=>if inL na i=true then L'.al i else L.al i,L.yb⟩
 have hyb: ∀i,L'.yb i=L.yb i:=fun i=>by rw[hN.yb i,hM.yb i];exact congrFun hX i
 have l1:LSame L L2 (inL nb) (inL na):=⟨fun i hi=>by simp[L2,hi],fun i hi=>by simp[L2,hi],fun i hi=>by simp[L2,hi],fun i hi=>by simp[L2,hi],fun i hi=>by simp[L2,hi],fun _ _=>rfl⟩
 have l2:LSame L' L2 (outL nb) (outL na):=⟨fun i hi=>by simp[outL]at hi;simp[L2,hi],fun i hi=>by simp[outL]at hi;simp[L2,hi],fun i hi=>by simp[outL]at hi;simp[L2,hi],fun i hi=>by simp[outL]at hi;simp[L2,hi],fun i hi=>by simp[outL]at hi;simp[L2,hi],fun i _=>(hyb i).symm⟩
 refine⟨L2,l2,?_⟩
 have hmv:Mem w0 Z0 X G Z' L st w' :=hM.move hN.z0 hN.zt hN.zn hN.zb hN.below
 have hw:w0.heap.size<=w.heap.size:=hM.below.size
 have hk:Kept Z' w' w' :=⟨fun _ _ _=>rfl⟩
 have hz: ∀p b,Z' p b->Z' p b:=fun _ _ h=>h
 have ob: ∀ {i cs},lk st.b i=some cs->inL nb i=false:=fun h=>hsb _ (qCP h)
 have oa: ∀ {i A},lk st.a i=some A->inL na i=false:=fun h=>hsa _ (qCP h)
 have nB: ∀ {i cs},lk st'.b i=some cs->inL nb i=true/\cs.any (PV.to (outL nb) (outL na))=false:=fun h=>hob _ (qCP h)
 have nA: ∀ {i A},lk st'.a i=some A->inL na i=true:=fun h=>hoa _ (qCP h)
 have obx: ∀ {i cs},lk st.b i=some cs->L2.bx i=L.bx i:=fun h=>l1.bx _ (ob h)
 have oax: ∀ {i A},lk st.a i=some A->L2.ab i=L.ab i:=fun h=>l1.ab _ (oa h)
 have nbx: ∀ {i cs},lk st'.b i=some cs->L2.bx i=L'.bx i:=fun h=>l2.bx _ (by simp[outL,(nB h).1])
 have nax: ∀ {i A},lk st'.a i=some A->L2.ab i=L'.ab i:=fun h=>l2.ab _ (by simp[outL,nA h])
 refine⟨hmv.zt,hmv.z0,hmv.zn,hmv.zb,hmv.below,?_,?_,?_,?_,?_,?_,?_,?_,?_,?_,hmv.oth,hM.yb,hmv.size,hmv.defers,?_⟩
 ·intro i cs hi
  rcases qCQ hi with hi|hi
  ·rw[obx hi];exact hmv.ownb i cs hi
  ·rw[nbx hi];exact⟨Nat.le_trans hw (hN.ownb i cs hi).1,(hN.ownb i cs hi).2⟩
 ·intro i A hi
  rcases qCQ hi with hi|hi
  ·rw[oax hi];exact hmv.owna i A hi
  ·rw[nax hi];exact⟨Nat.le_trans hw (hN.owna i A hi).1,(hN.owna i A hi).2⟩
 ·intro i j x y hi hj he
  rcases qCQ hi with hi|hi<;>rcases qCQ hj with hj|hj
  ·rw[obx hi,obx hj]at he;exact hM.injb i j x y hi hj he
  ·rw[obx hi,nbx hj]at he
   have h1:=(hM.ownb i x hi).2.1;have h2:=(hN.ownb j y hj).1;omega
  ·rw[nbx hi,obx hj]at he
   have h1:=(hN.ownb i x hi).1;have h2:=(hM.ownb j y hj).2.1;omega
  ·rw[nbx hi,nbx hj]at he;exact hN.injb i j x y hi hj he
 ·intro i j x y hi hj he
  rcases qCQ hi with hi|hi<;>rcases qCQ hj with hj|hj
  ·rw[oax hi,oax hj]at he;exact hM.inja i j x y hi hj he
  ·rw[oax hi,nax hj]at he
   have h1:=(hM.owna i x hi).2.1;have h2:=(hN.owna j y hj).1;omega
  ·rw[nax hi,oax hj]at he
   have h1:=(hN.owna i x hi).1;have h2:=(hM.owna j y hj).2.1;omega
  ·rw[nax hi,nax hj]at he;exact hN.inja i j x y hi hj he
 ·intro i j x y hi hj he
  rcases qCQ hi with hi|hi<;>rcases qCQ hj with hj|hj
  ·rw[obx hi,oax hj]at he;exact hM.injx i j x y hi hj he
  ·rw[obx hi,nax hj]at he
   have h1:=(hM.ownb i x hi).2.1;have h2:=(hN.owna j y hj).1;omega
  ·rw[nbx hi,oax hj]at he
   have h1:=(hN.ownb i x hi).1;have h2:=(hM.owna j y hj).2.1;omega
  ·rw[nbx hi,nax hj]at he;exact hN.injx i j x y hi hj he
 ·intro i cs hi
  rcases qCQ hi with hi|hi
  ·exact(hmv.boxes i cs hi).keep hk hz rfl l1 (ob hi) (St.noTo_box hno hi)
  ·exact(hN.boxes i cs hi).keep hk hz rfl l2 (by simp[outL,(nB hi).1]) (nB hi).2
 ·intro i A hi
  rcases qCQ hi with hi|hi
  ·obtain⟨cur,hx⟩:=hmv.arrs i A hi
   exact⟨cur,hx.keep hk hz rfl l1 (oa hi)⟩
  ·obtain⟨cur,hx⟩:=hN.arrs i A hi
   exact⟨cur,hx.keep hk hz rfl l2 (by simp[outL,nA hi])⟩
 ·intro i M hi
  rw[show L2.bx i=L.bx i from l1.bx i (St.noTo_map hno hi).1]
  exact hmv.ownm i M hi
 ·intro i j x y hi hj he
  rw[show L2.bx i=L.bx i from l1.bx i (St.noTo_map hno hi).1,show L2.bx j=L.bx j from l1.bx j (St.noTo_map hno hj).1]at he
  exact hM.injm i j x y hi hj he
 ·intro i M hi
  obtain⟨ents,clock,hR⟩:=hmv.maps i M hi
  refine⟨ents,clock,hR.keep hk hz rfl (fun j x y e=>⟨rfl,?_⟩) l1 (St.noTo_map hno hi).1 (St.noTo_map hno hi).2⟩
  have hit:=hR.it
  rw[e]at hit
  obtain⟨seen,_,_,h3,_⟩:=hit
  exact h3
 ·intro i v hi
  exact(hmv.slots i v hi).keep hk hz l1 (St.noTo_slot hno hi)
end
theorem FnM.fresh {E : Env} {f : Nat} {args : List PV} {st : St} {Q0 : PV -> St -> Prop} (nb na : List Nat) (hp : args.all qbO = true) (hst : qCO nb na st = true) (ho : ∀ r st', Q0 r st' -> qCN nb na r st' = true)
  (h:FnM (Env.of E.p) f args ⟨[],[],[],[]⟩ Q0):FnM E f args st fun r st' => ∃st0,Q0 r st0/\st' =⟨st.s,st.b++st0.b,st.a++st0.a,st.m⟩:=by
 refine⟨h.1,fun w0 Z0 X G Z L w vs hE hM hA=> ?_⟩
 have hin:Mem w Z ⟨[],X.y⟩ (fun _=>undef) Z { L00 with yb:=X.y } ⟨[],[],[],[]⟩ w:=by
  refine⟨hM.zt,fun _ _ h=>h,fun _ _ h=> .inl h,hM.zb,Below.refl _ _,?_,?_,?_,?_,?_,?_,?_,?_,?_,?_,fun x hx=>(by cases hx),fun _=>rfl,rfl,fun _ e=>(by cases e),fun i v hl=>(by cases hl)⟩
  all_goals (intros;rename_i hl _;first|(cases hl;done)|skip)
  all_goals (simp[lk]at *)
 have hargs:ArgsR w Z { L00 with yb:=X.y } args vs:=⟨hA.1,fun j c hj=>by
  have:=List.all_eq_true.1 hp c (List.mem_of_getElem? hj)
  exact qbr (qck (hA.2 j c hj) this)⟩
 refine(h.2 w Z ⟨[],X.y⟩ (fun _=>undef) Z { L00 with yb:=X.y } w vs (EnvOK.of E.p w Z ⟨[],X.y⟩ fun _=>undef) hin hargs).mono ?_
 rintro e w' ⟨v,r,st',Z',L',rfl,hq,hN,hr⟩
 have hoo:=ho r st' hq
 obtain⟨L2,l2,hJ⟩:=hM.join (X' :=⟨[],X.y⟩) rfl hN hoo hst
 refine⟨v,r,_,Z',L2,rfl,⟨st',hq,rfl⟩,hJ,hr.keep ⟨fun _ _ _=>rfl⟩ (fun _ _ h=>h) l2 ?_⟩
 simp only[qCN,Bool.and_eq_true,Bool.not_eq_true']at hoo
 exact hoo.2
theorem qCR {P : Env} {d : Option Nat} {f : Nat} {args : List PV} {r : List AO} {st : St} {K : St -> Prop} {v : PV} {b' : List (Nat × List PV)} {a' : List (Nat × Arr)} (nb na : List Nat)
  (h:FnM (Env.of P.p) f args ⟨[],[],[],[]⟩ fun rv st' =>rv=v/\st' =⟨[],b',a',[]⟩) (hp:args.all qbO=true) (hst:qCO nb na st=true) (ho:qCN nb na v ⟨[],b',a',[]⟩=true)
  (hk:opsK P r ((⟨st.s,st.b++b',st.a++a',st.m⟩:St).put d v) K):clmK P d f args r st K:=by
 refine qss (FnM.fresh nb na hp hst (fun rv st' h=> ?_) h) ?_
 ·obtain⟨rfl,rfl⟩:=h;exact ho
 ·rintro rv st' ⟨st0,⟨rfl,rfl⟩,rfl⟩
  exact hk
end Go.Vc
namespace Go.Proofs.YtdmkfgkmnpohlaaGreat
open Go Go.Vc Txt
def opV(c:Cfg)(a b d:PV):List PV:=cfgC false c++[a,b,d,.nil,.nil,.nil]
@[push_cast] theorem qCS(c:Cfg)(a b d:PV):opV c a b d=[.sl false 1 (ints c.sel),.sl false 1 (ints c.mode),.sl false 1 (ints c.tab),.sl false 1 (ints c.ram),a,b,d,.nil,.nil,.nil]:=rfl
def apS(n k s:Int)(c:Cfg):List (Nat×PV):=[(302,.ptr 302 0),(305,.ptr 313 0),(306,.int k),(307,.int s),(308,.ptr 308 0),(315,.sl false 1 (ints c.sel)),(316,.int n),(317,.int k)]
@[push_cast] theorem qCT(n k s:Int)(c:Cfg):apS n k s c=[(302,.ptr 302 0),(305,.ptr 313 0),(306,.int k),(307,.int s),(308,.ptr 308 0),(315,.sl false 1 (ints c.sel)),(316,.int n),(317,.int k)]:=rfl
set_option maxHeartbeats 40000000 in
set_option maxRecDepth 20000 in
theorem qCU (g : Grid) (c : Cfg) (n k s : Int) (d : Spot) (Q : St -> Prop)
  (hfin:Q ⟨apS n k s c++[(328,.ptr 313 0),(329,.ptr 313 0),(330,.ptr 313 0),(331,.ptr 313 4),(332,.nil),(333,.agg (quz d)),(334,.view 334 0 1),(335,.view 335 0 1),(336,.ptr 313 0),(337,.ptr 313 4)],[(302,quy false g),(308,quz d),(313,opV c (.view 335 0 1) .nil .nil)],[(334,⟨4,125,[quz d]⟩),(335,⟨4,125,[quz d]⟩)],[]⟩):
  allK (Env.of Tryz.prog) xs27_300_6 11 [] ⟨apS n k s c,[(302,quy false g),(308,quz d),(313,opV c .nil .nil .nil)],[],[]⟩ Q:=by
 simp only[List.cons_append,List.nil_append,push_cast,reduceIte,reduceEqDiff,reduceAdd,reduceSub,reduceMul,Nat.reduceBEq,reduceLT,reduceLeDiff,reduceCtorEq,reduceToNat,reduceNeg]at hfin ⊢
 repeat' (first
  |exact hfin
  |(with_reducible refine qwu ?_ ?_)
  |(refine(?_:qcJ _ _=true);rfl)
  |(refine(?_:qcJ _ _=false);rfl)
  |(refine(?_:List.all _ _=true);rfl)
  |(with_reducible refine qwv ?_ ?_ ?_;rotate_left 2;rw[xs27_300_6_all];simp only[rdyB,List.contains_cons,List.contains_nil,List.all_cons,List.all_nil,Nat.reduceBEq,Bool.not_true,Bool.not_false,Bool.or_false,Bool.or_true,Bool.and_true,Bool.and_false,Bool.true_and,Bool.false_and,Bool.false_or,Bool.true_or,beq_self_eq_true,Bool.false_eq_true,true_implies,false_implies,true_and,and_true];simp only[push_cast,reduceIte,reduceEqDiff,reduceAdd,reduceSub,reduceMul,Nat.reduceBEq,reduceLT,reduceLeDiff,reduceCtorEq,reduceToNat,reduceNeg])
  |(refine And.intro ?_ ?_)
  |omega)
set_option maxHeartbeats 40000000 in
set_option maxRecDepth 20000 in
theorem qCV (g : Grid) (c : Cfg) (n k s : Int) (d : Spot) (L : List Spot) (m mf : Nat) (fi dr : List Int) (hm : m = L.length) (hb : (m + 1) * 32 <= 140737488355328) (Q : St -> Prop)
  (hfin:Q ⟨apS n k s c++[(328,.ptr 313 0),(329,.ptr 313 0),(330,.ptr 313 0),(331,.ptr 313 4),(332,.bot),(333,.agg (quz d)),(334,.view 334 0 1),(335,.view 335 0 (m+1)),(336,.ptr 313 0),(337,.ptr 313 4)],[(302,quy false g),(308,quz d),(313,opV c (.view 335 0 (m+1)) (.view 348 0 mf) (.view 367 0 m))],[(334,⟨4,125,[quz d]⟩),(335,⟨4,125,rows quz L++[quz d]⟩),(348,⟨1,3,ints fi⟩),(367,⟨1,3,ints dr⟩)],[]⟩):
  allK (Env.of Tryz.prog) xs27_300_6 11 [] ⟨apS n k s c,[(302,quy false g),(308,quz d),(313,opV c (.view 335 0 m) (.view 348 0 mf) (.view 367 0 m))],[(335,⟨4,125,rows quz L⟩),(348,⟨1,3,ints fi⟩),(367,⟨1,3,ints dr⟩)],[]⟩ Q:=by
 simp only[List.cons_append,List.nil_append,push_cast,reduceIte,reduceEqDiff,reduceAdd,reduceSub,reduceMul,Nat.reduceBEq,reduceLT,reduceLeDiff,reduceCtorEq,reduceToNat,reduceNeg]at hfin ⊢
 repeat' (first
  |exact hfin
  |(with_reducible refine qwu ?_ ?_)
  |(refine(?_:qcJ _ _=true);rfl)
  |(refine(?_:qcJ _ _=false);rfl)
  |(refine(?_:List.all _ _=true);rfl)
  |(with_reducible refine qwv ?_ ?_ ?_;rotate_left 2;rw[xs27_300_6_all];simp only[rdyB,List.contains_cons,List.contains_nil,List.all_cons,List.all_nil,Nat.reduceBEq,Bool.not_true,Bool.not_false,Bool.or_false,Bool.or_true,Bool.and_true,Bool.and_false,Bool.true_and,Bool.false_and,Bool.false_or,Bool.true_or,beq_self_eq_true,Bool.false_eq_true,true_implies,false_implies,true_and,and_true];simp only[push_cast,reduceIte,reduceEqDiff,reduceAdd,reduceSub,reduceMul,Nat.reduceBEq,reduceLT,reduceLeDiff,reduceCtorEq,reduceToNat,reduceNeg])
  |(refine And.intro ?_ ?_)
  |omega)
theorem qCW{α:Type}(n:Nat)(f:Nat->α):((List.range n).map f).length=n:=by simp
def opA(g:Grid)(c:Cfg)(k:Nat):List (Nat×Arr):=[(335,⟨4,125,rows quz (qCr g k)⟩),(348,⟨1,3,ints (qCt g k)⟩),(367,⟨1,3,ints (qCs g c k)⟩)]
@[push_cast] theorem qCY(g:Grid)(c:Cfg)(k:Nat):opA g c k=[(335,⟨4,125,rows quz (qCr g k)⟩),(348,⟨1,3,ints (qCt g k)⟩),(367,⟨1,3,ints (qCs g c k)⟩)]:=rfl
def opS(g:Grid)(c:Cfg):Nat->St
 |0=>⟨[(302,.ptr 302 0),(305,.ptr 313 0),(315,.sl false 1 (ints c.sel)),(316,.int c.sel.length),(317,.int 0)],[(302,quy false g),(313,opV c .nil .nil .nil)],[],[]⟩
 |k+1=>⟨[(302,.ptr 302 0),(305,.ptr 313 0),(315,.sl false 1 (ints c.sel)),(316,.int c.sel.length),(317,.int (k+1:Nat))],[(302,quy false g),(313,opV c (.view 335 0 (k+1)) (.view 348 0 (qCt g (k+1)).length) (.view 367 0 (k+1)))],opA g c (k+1),[]⟩
set_option maxHeartbeats 8000000 in
theorem qCZ (g : Grid) (hg : GOk g) (c : Cfg) (hc : CfgG g c) : FnM (Env.of Tryz.prog) 27 [.agg (quy false g), .agg (cfgC false c)] ⟨[], [], [], []⟩
  (fun rv st' =>rv= .ptr 313 0/\st' =⟨[],[(313,opV c (.view 335 0 c.sel.length) (.view 348 0 g.kind.length) (.view 367 0 c.sel.length))],opA g c c.sel.length,[]⟩):=by
 have e0: ∀(l:List Int) (j:Nat),l.getD j default=l.getD j 0:=fun _ _=>rfl
 have hcn:=hg.count
 obtain⟨l1,l2,l3,l4⟩:=hc.ln
 have hF:qCt g c.sel.length=(List.range g.kind.length).map fun k=>((k*qC4 g:Nat):Int):=by rw[l1];exact qCw hg
 have key:FnM (Env.of Tryz.prog) 27 [.agg (quy false g),.agg (cfgC false c)] ⟨[],[],[],[]⟩
  (fun rv st' =>rv= .ptr 313 0/\st'.onlyB [313]=⟨[],[(313,opV c (.view 335 0 c.sel.length) (.view 348 0 g.kind.length) (.view 367 0 c.sel.length))],opA g c c.sel.length,[]⟩):=by
  refine qtT 300 Tryz.func27 ok27_300 (by show 2<=_;decide) rfl (by decide) ?_
  simp only[ac27_300,rv27_300,push_cast,reduceIte,reduceEqDiff,reduceAdd,reduceSub,reduceMul,Nat.reduceBEq,reduceLT,reduceLeDiff,reduceCtorEq,reduceToNat,reduceNeg]
  refine qoH (fun m st=> ∃k:Nat,k<=c.sel.length/\m=c.sel.length-k/\st=opS g c k) c.sel.length ?_ ?_
  ·refine⟨0,by omega,by omega,?_⟩
   simp only[opS,push_cast,reduceIte,reduceEqDiff,reduceAdd,reduceSub,reduceMul,Nat.reduceBEq,reduceLT,reduceLeDiff,reduceCtorEq,reduceToNat,reduceNeg]
   done
  rintro m st ⟨k,hk,rfl,rfl⟩
  have hD:=quM g hg k (by omega)
  have hS: ∀j,qCr g (j+1)=qCr g j++[quJ g (j:Int)]:=fun j=>qze _ j
  have hV: ∀j,qCs g c (j+1)=qCs g c j++[qzD g c (j:Int)]:=fun j=>qze _ j
  have hI: ∀j,qCt g (j+1)=qCt g j++if(quJ g (j:Int)).kind=1 then[(j:Int)]else[]:=fun j=>by simp only[qCt,idxF,decide_eq_true_eq]
  cases k with
  |zero=>
    have hD0:=quM g hg 0 (by omega)
    have hR0:quK g 0=(quJ g 0,0):=by rw[quK,if_neg (by omega)]
    have h0:(quJ g 0).kind=1:=(qC9 hg 0).2 ⟨by have:=hg.all;omega,by simp⟩
    rw[hR0]at hD0
    simp only[opS,push_cast,reduceIte,reduceEqDiff,reduceAdd,reduceSub,reduceMul,Nat.reduceBEq,reduceLT,reduceLeDiff,reduceCtorEq,reduceToNat,reduceNeg]
    refine qnR (fun h=> ?_) fun h=>absurd (by omega) h
    refine⟨by omega,by omega,?_⟩
    refine qrm hD0 sC ?_
    simp only[quL,push_cast,reduceIte,reduceEqDiff,reduceAdd,reduceSub,reduceMul,Nat.reduceBEq,reduceLT,reduceLeDiff,reduceCtorEq,reduceToNat,reduceNeg]
    generalize hQ:Exit.thn _ _ _=Q
    refine qCU g c (c.sel.length:Int) 0 (c.sel.getD 0 0) (quJ g 0) Q ?_
    subst hQ
    have hs0:c.sel.getD 0 0=0:=qzF hc.sels (n:=0) (by omega) (qCh hg (by omega) (.inl h0))
    have hd0:qzD g c 0= -1:=by rw[qzD];exact if_pos (.inl hs0)
    have S1:qCr g 1=[quJ g 0]:=rfl
    have F1:qCt g 1=[0]:=by simp[qCt,idxF,h0]
    have D1:qCs g c 1=[-1]:=by simp[qCs,hd0]
    simp only[List.cons_append,List.nil_append,quY,hs0,push_cast,reduceIte,reduceEqDiff,reduceAdd,reduceSub,reduceMul,Nat.reduceBEq,reduceLT,reduceLeDiff,reduceCtorEq,reduceToNat,reduceNeg]
    refine qnR (fun _=> ?_) fun e=>absurd h0 e
    refine⟨by simp,?_⟩
    refine qnR (fun e=>absurd e (by omega)) fun _=> ?_
    refine⟨by simp,by omega,_,?_,0+1,by omega,rfl,?_⟩
    ·omega
    ·simp only[S1,F1,D1,push_cast,reduceIte,reduceEqDiff,reduceAdd,reduceSub,reduceMul,Nat.reduceBEq,reduceLT,reduceLeDiff,reduceCtorEq,reduceToNat,reduceNeg]
     try rfl
  |succ k=>
    have hR: ∀j:Nat,j<c.sel.length->quK g j=(quJ g j,0):=fun j hj=>by rw[quK,if_neg (by omega)]
    have hk1:((k:Int)+1).toNat=k+1:=by omega
    simp only[opS,hk1,e0,push_cast,reduceIte,reduceEqDiff,reduceAdd,reduceSub,reduceMul,Nat.reduceBEq,reduceLT,reduceLeDiff,reduceCtorEq,reduceToNat,reduceNeg]
    refine qnR (fun h=> ?_) fun h=> ?_
    ·rw[hR _ (by omega)]at hD
     rw[show((k+1:Nat):Int)=(k:Int)+1 from rfl]at hD
     refine⟨by omega,by omega,?_⟩
     refine qrm hD sC ?_
     simp only[quL,push_cast,reduceIte,reduceEqDiff,reduceAdd,reduceSub,reduceMul,Nat.reduceBEq,reduceLT,reduceLeDiff,reduceCtorEq,reduceToNat,reduceNeg]
     generalize hQ:Exit.thn _ _ _=Q
     refine qCV g c (c.sel.length:Int) ((k:Int)+1) (c.sel.getD (k+1) 0) (quJ g ((k:Int)+1)) (qCr g (k+1)) (k+1) (qCt g (k+1)).length (qCt g (k+1)) (qCs g c (k+1)) (by simp[qCr]) (by omega) Q ?_
     subst hQ
     simp only[List.cons_append,List.nil_append,push_cast,reduceIte,reduceEqDiff,reduceAdd,reduceSub,reduceMul,Nat.reduceBEq,reduceLT,reduceLeDiff,reduceCtorEq,reduceToNat,reduceNeg]
     have hfl:(qCt g (k+1)).length<=k+1:=qyJ _ _
     have hF1:=hI (k+1)
     have hV1:=hV (k+1)
     have hS1:=hS (k+1)
     have hI1:((k+1:Nat):Int)=(k:Int)+1:=rfl
     rw[hI1]at hF1 hV1 hS1
     refine qnR (fun h1=> ?_) fun h1=> ?_
     ·rw[if_pos h1]at hF1
      refine⟨by simp,⟨by omega,by omega⟩,?_⟩
      have hb1:(qCs g c (k+1)).length=k+1:=qCW _ _
      refine qnR (fun h2=> ?_) fun h2=> ?_
      ·have hDr:=qvQ g hg ((k:Int)+1) (by omega)
       have hsd:=qzE hg hc.sels (n:=(k:Int)+1) (by omega) (by rw[hk1];omega)
       have hsa:=hc.sels.sel (k+1) (by omega) (by omega)
       rw[hI1]at hsa
       rw[hk1]at hsd
       refine qrm hDr sC ?_
       simp only[e0,push_cast,reduceIte,reduceEqDiff,reduceAdd,reduceSub,reduceMul,Nat.reduceBEq,reduceLT,reduceLeDiff,reduceCtorEq,reduceToNat,reduceNeg]
       have hdl:=qy5 g hg ((k:Int)+1)
       refine⟨by omega,by omega,by omega,?_⟩
       rw[<- hsd.1]
       refine⟨by simp,⟨by omega,by omega,by omega⟩,by omega,_,?_,k+1+1,by omega,rfl,?_⟩
       ·omega
       ·simp only[hF1,hV1,hS1,List.length_append,List.length_cons,List.length_nil,List.map_append,rows,push_cast,reduceIte,reduceEqDiff,reduceAdd,reduceSub,reduceMul,Nat.reduceBEq,reduceLT,reduceLeDiff,reduceCtorEq,reduceToNat,reduceNeg]
        rfl
        done
      ·have hd1 : qzD g c ((k : Int) + 1) = -1 := by
        rw[qzD,hk1]
        have h3:c.sel.getD (k+1) 0=0:=Classical.byContradiction fun q=>by have:=hc.sels.sel (k+1) (by omega) q;omega
        exact if_pos (.inl (by omega))
       refine⟨by simp,⟨by omega,by omega,by omega⟩,by omega,_,?_,k+1+1,by omega,rfl,?_⟩
       ·omega
       ·simp only[hF1,hV1,hS1,hd1,List.length_append,List.length_cons,List.length_nil,List.map_append,rows,push_cast,reduceIte,reduceEqDiff,reduceAdd,reduceSub,reduceMul,Nat.reduceBEq,reduceLT,reduceLeDiff,reduceCtorEq,reduceToNat,reduceNeg]
        rfl
     ·rw[if_neg h1]at hF1
      have hb1:(qCs g c (k+1)).length=k+1:=qCW _ _
      refine qnR (fun h2=> ?_) fun h2=> ?_
      ·have hDr:=qvQ g hg ((k:Int)+1) (by omega)
       have hsd:=qzE hg hc.sels (n:=(k:Int)+1) (by omega) (by rw[hk1];omega)
       have hsa:=hc.sels.sel (k+1) (by omega) (by omega)
       rw[hI1]at hsa
       rw[hk1]at hsd
       refine qrm hDr sC ?_
       simp only[e0,push_cast,reduceIte,reduceEqDiff,reduceAdd,reduceSub,reduceMul,Nat.reduceBEq,reduceLT,reduceLeDiff,reduceCtorEq,reduceToNat,reduceNeg]
       have hdl:=qy5 g hg ((k:Int)+1)
       refine⟨by omega,by omega,by omega,?_⟩
       rw[<- hsd.1]
       refine⟨by simp,⟨by omega,by omega,by omega⟩,by omega,_,?_,k+1+1,by omega,rfl,?_⟩
       ·omega
       ·simp only[hF1,hV1,hS1,List.length_append,List.length_cons,List.length_nil,List.map_append,rows,push_cast,reduceIte,reduceEqDiff,reduceAdd,reduceSub,reduceMul,Nat.reduceBEq,reduceLT,reduceLeDiff,reduceCtorEq,reduceToNat,reduceNeg]
        rfl
        done
      ·have hd1 : qzD g c ((k : Int) + 1) = -1 := by
        rw[qzD,hk1]
        have h3:c.sel.getD (k+1) 0=0:=Classical.byContradiction fun q=>by have:=hc.sels.sel (k+1) (by omega) q;omega
        exact if_pos (.inl (by omega))
       refine⟨by simp,⟨by omega,by omega,by omega⟩,by omega,_,?_,k+1+1,by omega,rfl,?_⟩
       ·omega
       ·simp only[hF1,hV1,hS1,hd1,List.length_append,List.length_cons,List.length_nil,List.map_append,rows,push_cast,reduceIte,reduceEqDiff,reduceAdd,reduceSub,reduceMul,Nat.reduceBEq,reduceLT,reduceLeDiff,reduceCtorEq,reduceToNat,reduceNeg]
        rfl
    ·have hkn:k+1=c.sel.length:=by omega
     rw[hkn,hF]
     simp only[qCW,push_cast,reduceIte,reduceEqDiff,reduceAdd,reduceSub,reduceMul,Nat.reduceBEq,reduceLT,reduceLeDiff,reduceCtorEq,reduceToNat,reduceNeg]
     exact rfl
 refine FnM.mono (FnM.postB (fun _=>[313]) key) ?_
 rintro rv _ ⟨st1,⟨h1,h2⟩,rfl⟩
 exact⟨h1,h2⟩
end Go.Proofs.YtdmkfgkmnpohlaaGreat
namespace Go.Proofs.YtdmkfgkmnpohlaaGreat.Txt
open Go Go.Vc
set_option maxRecDepth 100000
def ac61:AC:=
 (.seq (.reg [0,27,0] [
 (aO 2 (.mv (.c (.nil))))])
 (.seq (.reg [0,27,0] [
 (aO 5 (.mv (.t 0))),(aO 6 (.nck (.t 5))),(aO 7 (.fa 4 (.t 6))),(aO 8 (.ld false 1 (.t 7))),(aO 9 (.len (.t 8))),(aO 10 (.mks 1 4 1 [.sc (.bool false)] (.t 9) (.t 9))),(aO 3 (.mv (.t 10)))])
 (.seq (.seq (.frz [3] (.wk (.reg [0,27,0,3] [
 (aO 11 (.mv (.t 0))),(aO 12 (.nck (.t 11))),(aO 13 (.fa 4 (.t 12))),(aO 14 (.ld false 1 (.t 13))),(aO 15 (.len (.t 14))),(aO 16 (.mv (kI 0)))])))
 (.block 0
 (.loop [0,27,0,3,15,16]
 (.seq (.reg [0,27,0,3,15,16] [
 (aO 17 (.cmp .lss .i64 (.t 16) (.t 15)))])
 (.seq (.cond (.t 17)
 .skip
 (.exit 0))
 (.seq (.block 1
 (.seq (.reg [0,27,0,3,15,16] [
 (aO 18 (.mv (.t 0))),(aO 19 (.mv (.t 3))),(aO 20 (.cal 63 [(.t 18),(.t 19)])),(aO 4 (.mv (.t 20)))])
 (.seq (.seq (.reg [0,27,0,3,4,15,16] [
 (aO 21 (.mv (.t 4))),(aO 22 (.mv (.t 3))),(aO 23 (.cal 62 [(.t 21),(.t 22)]))])
 (.cond (.t 23)
 (.exit 0)
 .skip))
 (.reg [0,27,0,4,15,16] [
 (aO 24 (.mv (.t 4))),(aO 3 (.mv (.t 24)))]))))
 (.reg [0,27,0,3,15,16] [
 (aO 25 (.ari .add true .i64 (.t 16) (kI 1))),(aO 16 (.mv (.t 25)))])))))))
 (.seq (.reg [0,27,3] [
 (aO 26 (.mv (.t 3))),(aO 2 (.mv (.t 26)))])
 .ret))))
def rv61:List RV:=[.tmp 2]
theorem ok61:fnOk Tryz.prog ac61 rv61 Tryz.f61=true:=by kernel_rfl
end Go.Proofs.YtdmkfgkmnpohlaaGreat.Txt
namespace Go.Proofs.YtdmkfgkmnpohlaaGreat
open Go Go.Vc Txt
theorem qD0{R:List Bool->Nat->Bool}{n:Nat}{v:List Bool}(h:v.length=n)(k:Nat):(qxl R n k v).length=n:=by rw[qxq];exact qxn R n k v h
set_option maxHeartbeats 4000000 in
theorem qD1 (g : Grid) (hg : GOk g) (c : Cfg) (hc : CfgG g c) (s : PSt) (pads : List Bool) :
  FnEq Tryz.prog 61 [.iptr false (arrC false c (qCr g c.sel.length) (qCt g c.sel.length) (qCs g c c.sel.length) s pads) 0]
   (.sl true 1 (rows qk7 (qxl (rndF g c s pads) c.sel.length c.sel.length (List.replicate c.sel.length false)))):=by
 have hcn:=hg.count
 have l1:=hc.ln.1
 have hR:=qCM g hg c hc s pads
 have hsl:(qCr g c.sel.length).length=c.sel.length:=by simp[qCr]
 generalize qCr g c.sel.length=sp at *
 generalize qCs g c c.sel.length=dr at *
 generalize qCt g c.sel.length=fi at *
 refine FnEq.of_awp Tryz.func61 ok61 (by show 1<=_;decide) (by simp only[push_cast,reduceIte,reduceEqDiff,reduceAdd,reduceSub,reduceMul,Nat.reduceBEq,reduceLT,reduceLeDiff,reduceCtorEq,reduceToNat,reduceNeg]<;>first|exact fun _ _=>trivial|simp) ?_
 simp only[ac61,rv61,push_cast,reduceIte,reduceEqDiff,reduceAdd,reduceSub,reduceMul,Nat.reduceBEq,reduceLT,reduceLeDiff,reduceCtorEq,reduceToNat,reduceNeg]
 refine⟨by omega,qr1 _ (Wk.refl _) ?_⟩
 refine sB ?_
 generalize hZ:qxl (rndF g c s pads) c.sel.length c.sel.length (List.replicate c.sel.length false)=z
 refine qoH (fun m st=> ∃(k:Nat) (v:List Bool),k<=c.sel.length/\m=c.sel.length-k/\v.length=c.sel.length/\qxl (rndF g c s pads) c.sel.length (c.sel.length-k) v=z/\
  st=⟨[(0,.iptr false (arrC false c sp fi dr s pads) 0),(3,.sl true 1 (rows qk7 v)),(15,.int c.sel.length),(16,.int k)],[],[],[]⟩) c.sel.length ?_ ?_
 ·refine⟨0,List.replicate c.sel.length false,by omega,by omega,by simp,hZ,?_⟩
  rw[hsl]
  simp only[push_cast,reduceIte,reduceEqDiff,reduceAdd,reduceSub,reduceMul,Nat.reduceBEq,reduceLT,reduceLeDiff,reduceCtorEq,reduceToNat,reduceNeg]
  try rfl
 rintro m st ⟨k,v,hk,rfl,hv,hz,rfl⟩
 refine sB ?_
 refine qnR (fun h=> ?_) fun h=> ?_
 ·have hS:c.sel.length-k=(c.sel.length-(k+1))+1:=by omega
  rw[hS,qxl]at hz
  have hl:=qxm (rndF g c s pads) c.sel.length v
  refine qrm (hR v hv) sC ?_
  generalize qxj (rndF g c s pads) c.sel.length v=w at *
  refine sB ?_
  refine qrm (qx6 w v (by omega)) sC ?_
  refine sB ?_
  refine qnQ (fun e=> ?_) fun e=> ?_
  ·rw[if_pos (of_decide_eq_true e)]at hz
   subst hz
   exact⟨fun _ _=>trivial,.refl _⟩
  ·rw[if_neg (of_decide_eq_false e)]at hz
   refine⟨by omega,_,?_,k+1,w,by omega,rfl,by omega,hz,rfl⟩
   omega
 ·have hkn:k=c.sel.length:=by omega
  rw[hkn,Nat.sub_self,qxl]at hz
  subst hz
  exact⟨fun _ _=>trivial,.refl _⟩
def opW(c:Cfg)(s:PSt)(pads:List Bool)(a b d:PV):List PV:=cfgC false c++[a,b,d]++pstC false s++[.sl false 1 (rows qk7 pads)]
@[push_cast] theorem qD2(c:Cfg)(s:PSt)(pads:List Bool)(a b d:PV):opW c s pads a b d=[.sl false 1 (ints c.sel),.sl false 1 (ints c.mode),.sl false 1 (ints c.tab),.sl false 1 (ints c.ram),a,b,d,.sl false 1 (ints s.regs),.sl false 1 (rows (memC false) s.mems),.sl false 1 (rows qk7 pads)]:=rfl
set_option maxHeartbeats 4000000 in
theorem qD3 (g : Grid) (hg : GOk g) (c : Cfg) (hc : CfgG g c) (s : PSt) (pads : List Bool) : FnM (Env.of Tryz.prog) 60 [.agg (quy false g), .agg (cfgC false c), .agg (pstC false s), .sl false 1 (rows qk7 pads)] ⟨[], [], [], []⟩
  (fun rv st' =>rv= .ptr 313 0/\st' =⟨[],[(313,opW c s pads (.view 335 0 c.sel.length) (.view 348 0 g.kind.length) (.view 367 0 c.sel.length))],opA g c c.sel.length,[]⟩):=by
 have key:FnM (Env.of Tryz.prog) 60 [.agg (quy false g),.agg (cfgC false c),.agg (pstC false s),.sl false 1 (rows qk7 pads)] ⟨[],[],[],[]⟩
  (fun rv st' =>rv= .ptr 313 0/\st'.onlyB [313]=⟨[],[(313,opW c s pads (.view 335 0 c.sel.length) (.view 348 0 g.kind.length) (.view 367 0 c.sel.length))],opA g c c.sel.length,[]⟩):=by
  refine qtT 100 Tryz.func60 ok60_100 (by show 4<=_;decide) rfl (by decide) ?_
  simp only[ac60_100,rv60_100,push_cast,reduceIte,reduceEqDiff,reduceAdd,reduceSub,reduceMul,Nat.reduceBEq,reduceLT,reduceLeDiff,reduceCtorEq,reduceToNat,reduceNeg]
  refine qCR [313] [335,348,367] (qCZ g hg c hc) rfl rfl rfl ?_
  simp only[opA,push_cast,reduceIte,reduceEqDiff,reduceAdd,reduceSub,reduceMul,Nat.reduceBEq,reduceLT,reduceLeDiff,reduceCtorEq,reduceToNat,reduceNeg]
  exact rfl
 refine FnM.mono (FnM.postB (fun _=>[313]) key) ?_
 rintro rv _ ⟨st1,⟨h1,h2⟩,rfl⟩
 exact⟨h1,h2⟩
theorem qD4{cs ds:List PV}{off:Nat}(h:SubL cs ds):Sub (.iptr false cs off) (.iptr false ds off):=by
 exact .iptr _ _ _ _ _ (fun h=>h) h.len h.at
def setF(g:Grid)(c:Cfg)(s:PSt)(pads:List Bool):List Bool:=qxl (rndF g c s pads) c.sel.length c.sel.length (List.replicate c.sel.length false)
theorem qD5(g:Grid)(n:Nat):(qCr g n).length=n:=by simp[qCr]
theorem qD6(g:Grid)(c:Cfg)(n:Nat):(qCs g c n).length=n:=by simp[qCs]
theorem qD7{g:Grid}(hg:GOk g){c:Cfg}(hc:CfgG g c):(qCt g c.sel.length).length=g.kind.length:=by rw[hc.ln.1,qCw hg];simp
set_option maxHeartbeats 4000000 in
theorem qD8(g:Grid)(hg:GOk g)(c:Cfg)(hc:CfgG g c)(s:PSt)(pads:List Bool):FnEq Tryz.prog 32 [.agg (quy false g),.agg (cfgC false c),.agg (pstC false s),.sl false 1 (rows qk7 pads)] (.sl true 1 (rows qk7 (setF g c s pads))):=by
 have hS:=qD1 g hg c hc s pads
 rw[show qxl (rndF g c s pads) c.sel.length c.sel.length (List.replicate c.sel.length false)=setF g c s pads from rfl]at hS
 have h1:=qD5 g c.sel.length
 have h2:=qD6 g c c.sel.length
 have h3:=qD7 hg hc
 refine FnEq.of_awp Tryz.func32 ok32 (by show 4<=_;decide) (by simp only[push_cast,reduceIte,reduceEqDiff,reduceAdd,reduceSub,reduceMul,Nat.reduceBEq,reduceLT,reduceLeDiff,reduceCtorEq,reduceToNat,reduceNeg]<;>first|exact fun _ _=>trivial|simp) ?_
 simp only[ac32,rv32,push_cast,reduceIte,reduceEqDiff,reduceAdd,reduceSub,reduceMul,Nat.reduceBEq,reduceLT,reduceLeDiff,reduceCtorEq,reduceToNat,reduceNeg]
 refine qCR [313] [335,348,367] (qD3 g hg c hc s pads) rfl rfl rfl ?_
 simp only[opA,push_cast,reduceIte,reduceEqDiff,reduceAdd,reduceSub,reduceMul,Nat.reduceBEq,reduceLT,reduceLeDiff,reduceCtorEq,reduceToNat,reduceNeg]
 refine qrm hS ?_ ?_
 ·refine⟨qD4 ?_,trivial⟩
  refine sB ?_
  rw[List.take_of_length_le (by omega),List.take_of_length_le (by omega),List.take_of_length_le (by omega)]
  exact⟨.refl _,.refl _,.refl _⟩
 ·refine sB ?_
  exact fun _ _=>trivial
theorem qD9 {g : Grid} (hg : GOk g) {c : Cfg} (hc : CfgG g c) (s : PSt) (pads : List Bool) : Sub
  (.iptr false [.sl false 1 (ints c.sel),.sl false 1 (ints c.mode),.sl false 1 (ints c.tab),.sl false 1 (ints c.ram),.sl false 4 (rows quz ((qCr g c.sel.length).take c.sel.length)),.sl false 1 (rows intC ((qCt g c.sel.length).take g.kind.length)),
   .sl false 1 (rows intC ((qCs g c c.sel.length).take c.sel.length)),.sl false 1 (ints s.regs),.sl false 1 (rows (memC false) s.mems),.sl false 1 (rows qk7 pads)] 0)
  (.iptr false (arrC false c (qCr g c.sel.length) (qCt g c.sel.length) (qCs g c c.sel.length) s pads) 0):=by
 have h1:=qD5 g c.sel.length
 have h2:=qD6 g c c.sel.length
 have h3:=qD7 hg hc
 rw[List.take_of_length_le (by omega),List.take_of_length_le (by omega),List.take_of_length_le (by omega)]
 exact .refl _
set_option maxHeartbeats 4000000 in
theorem qDa (g : Grid) (hg : GOk g) (c : Cfg) (hc : CfgG g c) (s : PSt) (pads v : List Bool) (hv : v.length = c.sel.length) : FnEq Tryz.prog 34 [.agg (quy false g), .agg (cfgC false c), .agg (pstC false s), .sl false 1 (rows qk7 pads), .sl false 1 (rows qk7 v)]
  (.sl true 1 (rows qk7 (qxj (rndF g c s pads) c.sel.length v))):=by
 have hS:=qCM g hg c hc s pads v hv
 generalize qxj (rndF g c s pads) c.sel.length v=w at *
 have hA:=qD9 hg hc s pads
 refine FnEq.of_awp Tryz.func34 ok34 (by show 5<=_;decide) (by simp only[push_cast,reduceIte,reduceEqDiff,reduceAdd,reduceSub,reduceMul,Nat.reduceBEq,reduceLT,reduceLeDiff,reduceCtorEq,reduceToNat,reduceNeg]<;>first|exact fun _ _=>trivial|simp) ?_
 simp only[ac34,rv34,push_cast,reduceIte,reduceEqDiff,reduceAdd,reduceSub,reduceMul,Nat.reduceBEq,reduceLT,reduceLeDiff,reduceCtorEq,reduceToNat,reduceNeg]
 refine qCR [313] [335,348,367] (qD3 g hg c hc s pads) rfl rfl rfl ?_
 simp only[opA,push_cast,reduceIte,reduceEqDiff,reduceAdd,reduceSub,reduceMul,Nat.reduceBEq,reduceLT,reduceLeDiff,reduceCtorEq,reduceToNat,reduceNeg]
 refine qrm hS ⟨hA,.refl _,trivial⟩ ?_
 refine sB ?_
 exact fun _ _=>trivial
set_option maxHeartbeats 4000000 in
theorem qDb (g : Grid) (hg : GOk g) (c : Cfg) (hc : CfgG g c) (s : PSt) (pads v : List Bool) (hv : v.length = c.sel.length) : FnEq Tryz.prog 33 [.agg (quy false g), .agg (cfgC false c), .agg (pstC false s), .sl false 1 (rows qk7 pads), .sl false 1 (rows qk7 v)]
  (.bool (decide (qxj (rndF g c s pads) c.sel.length v=v))):=by
 have hS:=qCM g hg c hc s pads v hv
 have hcn:=hg.count
 have l1:=hc.ln.1
 have hl:=qxm (rndF g c s pads) c.sel.length v
 generalize qxj (rndF g c s pads) c.sel.length v=w at *
 have hA:=qD9 hg hc s pads
 refine FnEq.of_awp Tryz.func33 ok33 (by show 5<=_;decide) (by simp only[push_cast,reduceIte,reduceEqDiff,reduceAdd,reduceSub,reduceMul,Nat.reduceBEq,reduceLT,reduceLeDiff,reduceCtorEq,reduceToNat,reduceNeg]<;>first|exact fun _ _=>trivial|simp) ?_
 simp only[ac33,rv33,push_cast,reduceIte,reduceEqDiff,reduceAdd,reduceSub,reduceMul,Nat.reduceBEq,reduceLT,reduceLeDiff,reduceCtorEq,reduceToNat,reduceNeg]
 refine qCR [313] [335,348,367] (qD3 g hg c hc s pads) rfl rfl rfl ?_
 simp only[opA,push_cast,reduceIte,reduceEqDiff,reduceAdd,reduceSub,reduceMul,Nat.reduceBEq,reduceLT,reduceLeDiff,reduceCtorEq,reduceToNat,reduceNeg]
 refine qrm hS ⟨hA,.refl _,trivial⟩ ?_
 refine sB ?_
 refine qrm (qx6 w v (by omega)) sC ?_
 exact sC
open Classical in
theorem qDO(g:Grid)(hg:GOk g)(n:Int):FnEq Tryz.prog 48 [.agg (quy false g),.int n] (.agg (qvW (quK g n))):=by
 have h3:=hg.count
 by_cases h:0<=n/\n<quD g
 ·exact qvY g hg n (by omega)
 refine FnEq.of_awp Tryz.func48 ok48 (by show 2<=_;decide) (by simp only[push_cast,reduceIte,reduceEqDiff,reduceAdd,reduceSub,reduceMul,Nat.reduceBEq,reduceLT,reduceLeDiff,reduceCtorEq,reduceToNat,reduceNeg]<;>first|exact fun _ _=>trivial|simp) ?_
 simp only[ac48,rv48,push_cast,reduceIte,reduceEqDiff,reduceAdd,reduceSub,reduceMul,Nat.reduceBEq,reduceLT,reduceLeDiff,reduceCtorEq,reduceToNat,reduceNeg]
 refine qry ⟨[(1,.int n),(2,.ptr 2 0),(4,.ptr 4 0),(18,.bool true)],[(2,quy false g),(4,[.int 0,.int 0,.int 0,.int 0,.int 0])],[],[]⟩ ?_ ?_
 ·refine qrr rfl (fun h1=> ?_) fun h1=> ?_<;>simp only[push_cast,reduceIte,reduceEqDiff,reduceAdd,reduceSub,reduceMul,Nat.reduceBEq,reduceLT,reduceLeDiff,reduceCtorEq,reduceToNat,reduceNeg]
  refine qrm (quI g hg) sC ?_
  refine sB ?_
  rw[decide_eq_true (show quD g<=n by omega)]
 refine sB ?_
 rw[quK,if_pos (by omega)]
 exact sC
theorem qDP(g:Grid)(hg:GOk g)(n:Int):FnEq Tryz.prog 45 [.agg (quy false g),.int n] (.sl true 1 (ints (qvM g n))):=by
 have h3:=hg.count
 by_cases hE:0<=n/\n<quD g
 ·rw[qyE hg]
  exact qw1 g hg n (by omega)
 ·have hD:=qDO g hg n
  have e:quK g n=(⟨0,0,0,0⟩,1):=by rw[quK,if_pos (by omega)]
  have e2:qvM g n=[]:=by rw[qyE hg,rdrF,e];rfl
  refine FnEq.of_awp Tryz.func45 ok45 (by show 2<=_;decide) (by simp only[push_cast,reduceIte,reduceEqDiff,reduceAdd,reduceSub,reduceMul,Nat.reduceBEq,reduceLT,reduceLeDiff,reduceCtorEq,reduceToNat,reduceNeg]<;>first|exact fun _ _=>trivial|simp) ?_
  simp only[ac45,rv45,push_cast,reduceIte,reduceEqDiff,reduceAdd,reduceSub,reduceMul,Nat.reduceBEq,reduceLT,reduceLeDiff,reduceCtorEq,reduceToNat,reduceNeg]
  rw[e2]
  rw[e]at hD
  refine qrm hD sC ?_
  refine sB ?_
  refine qoH (fun m st=>m=0/\st=⟨[(2,.ptr 2 0),(5,.view 8 0 0),(6,.ptr 6 0),(7,.int 0)],[(2,quy false g),(6,[.int 0,.int 0,.int 0,.int 0,.int 1])],[(8,⟨1,3,ints []⟩)],[]⟩) 0 ?_ ?_
  ·refine⟨rfl,?_⟩
   refine sB ?_
   rfl
  ·rintro m st ⟨rfl,rfl⟩
   refine sB ?_
   refine qrm (quI g hg) sC ?_
   refine sB ?_
   refine qrq rfl (fun _=> ?_) fun h=>absurd (by omega) h
   refine sB ?_
   refine qnR (fun h=>absurd h (by decide)) fun _=> ?_
   simp
theorem qDQ(g:Grid)(hg:GOk g)(n:Int):FnEq Tryz.prog 46 [.agg (quy false g),.int n] (.int (qvM g n).length):=by
 refine FnEq.of_awp Tryz.func46 ok46 (by show 2<=_;decide) (by simp only[push_cast,reduceIte,reduceEqDiff,reduceAdd,reduceSub,reduceMul,Nat.reduceBEq,reduceLT,reduceLeDiff,reduceCtorEq,reduceToNat,reduceNeg]<;>first|exact fun _ _=>trivial|simp) ?_
 simp only[ac46,rv46,push_cast,reduceIte,reduceEqDiff,reduceAdd,reduceSub,reduceMul,Nat.reduceBEq,reduceLT,reduceLeDiff,reduceCtorEq,reduceToNat,reduceNeg]
 refine qrm (qDP g hg n) sC ?_
 exact sC
theorem qDR{g:Grid}(hg:GOk g){n:Int}(h: ¬(0<=n/\n<quD g)):qvM g n=[]:=by
 rw[qyE hg,rdrF,quK,if_pos (show n<0\/quD g<=n by omega)]
 rfl
theorem qDS{g:Grid}(hg:GOk g)(n:Int):((qvM g n).length:Int)<=600000:=by
 have h3:=hg.count
 rw[qyE hg,rdrF]
 split
 ·have:=qw0 g (quK g n).1 (quD g).toNat
  omega
 ·simp
def RtUp(g:Grid)(r:Route)(k:Nat):Prop:= ∀i,0<i->i<k->(0<=r.frm.getD i 0/\r.frm.getD i 0<i)/\r.nodes.getD (r.frm.getD i 0).toNat 0∈qvM g (r.nodes.getD i 0)
theorem qDT{g:Grid}(hg:GOk g){r:Route} :RouteSh g r ↔ (r.nodes≠[]/\r.frm.length=r.nodes.length/\r.frm.getD 0 0= -1)/\((quK g (r.nodes.getD 0 0)).2=0/\qvM g (r.nodes.getD 0 0)=[])/\RtUp g r r.nodes.length:=by
 constructor
 ·rintro⟨h1,h2,h3,h4,h5,h6⟩
  have h0:=h4 _ (qza (l:=r.nodes) (k:=0) (List.length_pos_iff.2 h1))
  exact⟨⟨h1,h2,h3⟩,⟨by rw[quK,if_neg (by omega)],h5⟩,h6⟩
 ·rintro⟨⟨h1,h2,h3⟩,⟨h4,h5⟩,h6⟩
  refine⟨h1,h2,h3,fun x hx=> ?_,h5,h6⟩
  obtain⟨i,hi,rfl⟩:=qAQ hx
  by_cases e:i=0
  ·subst e
   rw[quK]at h4
   split at h4
   ·cases h4
   ·omega
  ·refine Classical.byContradiction fun hn=> ?_
   have:=(h6 i (by omega) hi).2
   rw[qDR hg hn]at this
   cases this
open Classical in
set_option maxHeartbeats 4000000 in
theorem qDU(g:Grid)(hg:GOk g)(r:Route)(h1:(r.nodes.length:Int)<=1000000)(h2:(r.frm.length:Int)<=1000000):FnEq Tryz.prog 76 [.agg (quy false g),.agg (qwD false r)] (.bool (decide (RouteSh g r))):=by
 have e0: ∀(l:List Int) (j:Nat),l.getD j default=l.getD j 0:=fun _ _=>rfl
 have hiff:=qDT hg (r:=r)
 refine FnEq.of_awp Tryz.func76 ok76 (by show 2<=_;decide) (by simp only[push_cast,reduceIte,reduceEqDiff,reduceAdd,reduceSub,reduceMul,Nat.reduceBEq,reduceLT,reduceLeDiff,reduceCtorEq,reduceToNat,reduceNeg]<;>first|exact fun _ _=>trivial|simp) ?_
 simp only[ac76,rv76,push_cast,reduceIte,reduceEqDiff,reduceAdd,reduceSub,reduceMul,Nat.reduceBEq,reduceLT,reduceLeDiff,reduceCtorEq,reduceToNat,reduceNeg]
 obtain⟨B,hB⟩: ∃B,B=decide (¬(r.nodes≠[]/\r.frm.length=r.nodes.length/\r.frm.getD 0 0= -1)):=⟨_,rfl⟩
 have hne:r.nodes≠[] ↔ 0<r.nodes.length:=List.length_pos_iff.symm
 refine qry ⟨[(2,.ptr 2 0),(3,.ptr 3 0),(26,.bool B)],[(2,quy false g),(3,qwD false r)],[],[]⟩ ?_ ?_
 ·refine qrr rfl (fun e1=> ?_) fun e1=> ?_<;>simp only[e0,push_cast,reduceIte,reduceEqDiff,reduceAdd,reduceSub,reduceMul,Nat.reduceBEq,reduceLT,reduceLeDiff,reduceCtorEq,reduceToNat,reduceNeg]
  ·rw[show B=true from by rw[hB];exact decide_eq_true fun h=>by have:=hne.1 h.1;omega]
  ·refine qrr rfl (fun e2=> ?_) fun e2=> ?_<;>simp only[e0,push_cast,reduceIte,reduceEqDiff,reduceAdd,reduceSub,reduceMul,Nat.reduceBEq,reduceLT,reduceLeDiff,reduceCtorEq,reduceToNat,reduceNeg]
   ·rw[show B=true from by rw[hB];exact decide_eq_true fun h=>e2 (by omega)]
   ·refine⟨by omega,by omega,?_⟩
    rw[show B=decide (r.frm.getD 0 0≠ -1)from by rw[hB,decide_eq_decide,hne];exact⟨fun h q=>h ⟨by omega,by omega,q⟩,fun h q=>h q.2.2⟩]
 simp only[e0,push_cast,reduceIte,reduceEqDiff,reduceAdd,reduceSub,reduceMul,Nat.reduceBEq,reduceLT,reduceLeDiff,reduceCtorEq,reduceToNat,reduceNeg]
 refine qnQ (fun e=> ?_) fun e=> ?_
 ·rw[hB,decide_eq_true_eq]at e
  rw[decide_eq_false fun h=>e (hiff.1 h).1]
 rw[hB,decide_eq_false_iff_not,Classical.not_not]at e
 have hn0:=hne.1 e.1
 have hD:=qDO g hg (r.nodes.getD 0 0)
 have hV:=qDQ g hg (r.nodes.getD 0 0)
 refine⟨by omega,by omega,?_⟩
 refine qro hD sC rfl ?_
 simp only[qvW,push_cast,reduceIte,reduceEqDiff,reduceAdd,reduceSub,reduceMul,Nat.reduceBEq,reduceLT,reduceLeDiff,reduceCtorEq,reduceToNat,reduceNeg]
 obtain⟨C,hC⟩: ∃C,C=decide (¬((quK g (r.nodes.getD 0 0)).2=0/\qvM g (r.nodes.getD 0 0)=[])):=⟨_,rfl⟩
 refine qrz ⟨[(2,.ptr 2 0),(3,.ptr 3 0),(44,.bool C)],[(2,quy false g),(3,qwD false r),(5,qvW (quK g (r.nodes.getD 0 0)))],[],[]⟩ ?_ ?_
 ·refine qrv rfl (fun e1=> ?_) fun e1=> ?_<;>simp only[e0,qvW,push_cast,reduceIte,reduceEqDiff,reduceAdd,reduceSub,reduceMul,Nat.reduceBEq,reduceLT,reduceLeDiff,reduceCtorEq,reduceToNat,reduceNeg]
  ·rw[show C=true from by rw[hC];exact decide_eq_true fun h=>e1 h.1]
  ·refine⟨by omega,by omega,?_⟩
   refine qrm hV sC ?_
   refine sB ?_
   rw[show C=decide (0<((qvM g (r.nodes.getD 0 0)).length:Int))from by
    rw[hC,decide_eq_decide]
    exact⟨fun h=>by
     have:qvM g (r.nodes.getD 0 0)≠[]:=fun q=>h ⟨by omega,q⟩
     have:=List.length_pos_iff.2 this
     omega,fun h q=>by rw[q.2]at h;simp at h⟩]
 refine sB ?_
 refine qnQ (fun e1=> ?_) fun e1=> ?_
 ·rw[hC,decide_eq_true_eq]at e1
  rw[decide_eq_false fun h=>e1 (hiff.1 h).2.1]
 rw[hC,decide_eq_false_iff_not,Classical.not_not]at e1
 refine qoH (fun m st=> ∃k:Nat,(1<=k/\k<=r.nodes.length)/\m=r.nodes.length-k/\RtUp g r k/\st=⟨[(2,.ptr 2 0),(3,.ptr 3 0),(6,.int k)],[(2,quy false g),(3,qwD false r)],[],[]⟩) (r.nodes.length-1) ?_ ?_
 ·refine⟨1,by omega,rfl,fun i h1 h2=>by omega,?_⟩
  simp only[push_cast,reduceIte,reduceEqDiff,reduceAdd,reduceSub,reduceMul,Nat.reduceBEq,reduceLT,reduceLeDiff,reduceCtorEq,reduceToNat,reduceNeg]
  try rfl
 rintro m st ⟨k,hk,rfl,hup,rfl⟩
 simp only[e0,push_cast,reduceIte,reduceEqDiff,reduceAdd,reduceSub,reduceMul,Nat.reduceBEq,reduceLT,reduceLeDiff,reduceCtorEq,reduceToNat,reduceNeg]
 refine qnR (fun h=> ?_) fun h=> ?_
 ·obtain⟨D,hD2⟩: ∃D,D=decide (¬((0<=r.frm.getD k 0/\r.frm.getD k 0<k)/\r.nodes.getD (r.frm.getD k 0).toNat 0∈qvM g (r.nodes.getD k 0))):=⟨_,rfl⟩
  refine⟨by omega,by omega,?_⟩
  refine qrz ⟨[(2,.ptr 2 0),(3,.ptr 3 0),(6,.int k),(86,.bool D)],[(2,quy false g),(3,qwD false r)],[],[]⟩ ?_ ?_
  ·refine qrv rfl (fun q1=> ?_) fun q1=> ?_<;>simp only[e0,push_cast,reduceIte,reduceEqDiff,reduceAdd,reduceSub,reduceMul,Nat.reduceBEq,reduceLT,reduceLeDiff,reduceCtorEq,reduceToNat,reduceNeg]
   ·rw[show D=true from by rw[hD2];exact decide_eq_true fun h=>by omega]
   ·refine⟨by omega,by omega,?_⟩
    refine qrv rfl (fun q2=> ?_) fun q2=> ?_<;>simp only[e0,push_cast,reduceIte,reduceEqDiff,reduceAdd,reduceSub,reduceMul,Nat.reduceBEq,reduceLT,reduceLeDiff,reduceCtorEq,reduceToNat,reduceNeg]
    ·rw[show D=true from by rw[hD2];exact decide_eq_true fun h=>by omega]
    ·refine⟨by omega,by omega,?_⟩
     refine qro (qDP g hg (r.nodes.getD k 0)) sC rfl ?_
     simp only[e0,push_cast,reduceIte,reduceEqDiff,reduceAdd,reduceSub,reduceMul,Nat.reduceBEq,reduceLT,reduceLeDiff,reduceCtorEq,reduceToNat,reduceNeg]
     have hdl:=qDS hg (r.nodes.getD k 0)
     repeat (refine And.intro (by omega) ?_)
     have hix:=qzW (qvM g (r.nodes.getD k 0)) (by omega) (r.nodes.getD (r.frm.getD k 0).toNat 0)
     refine qrm hix ⟨.slp _ _ _ _ (fun h=>by cases h),.refl _,trivial⟩ ?_
     refine sB ?_
     rw[show D=decide (qzU (qvM g (r.nodes.getD k 0)) (r.nodes.getD (r.frm.getD k 0).toNat 0)<0)from by
      rw[hD2,decide_eq_decide]
      unfold qzU
      split
      ·rename_i q3;exact⟨fun q4=>absurd ⟨⟨by omega,by omega⟩,q3⟩ q4,fun q4=>by omega⟩
      ·rename_i q3;exact⟨fun _=>by omega,fun _ q4=>q3 q4.2⟩]
  refine sB ?_
  refine qnQ (fun q=> ?_) fun q=> ?_
  ·rw[hD2,decide_eq_true_eq]at q
   rw[decide_eq_false fun h2=>q ((hiff.1 h2).2.2 k (by omega) (by omega))]
  ·rw[hD2,decide_eq_false_iff_not,Classical.not_not]at q
   refine⟨by omega,_,?_,k+1,by omega,rfl,fun i h1 h2=> ?_,?_⟩
   ·omega
   ·by_cases h3:i=k
    ·subst h3;exact q
    ·exact hup i h1 (by omega)
   ·exact sC
 rw[decide_eq_true (hiff.2 ⟨e,e1,by rw[show r.nodes.length=k by omega];exact hup⟩)]
end Go.Proofs.YtdmkfgkmnpohlaaGreat
