/- DD TxtG T U TxtI V W X Y Z ZA TxtJ ZB ZC ZD ZE TxtA HM VcZs: lemmas -/
import Derived.Test.YtecoaapkcnhlhaaDoorPart10
import Derived.Test.YtecoaapkcnhlhaaDoorPart06
import Derived.Test.YtecoaapkcnhlhaaDoorChecked
import Derived.Test.YtecoaapkcnhlhaaDoorPart08
import Derived.Test.YtecoaapkcnhlhaaDoorPart01
import Derived.Test.YtecoaapkcnhlhaaDoorPart09
set_option linter.unusedSimpArgs false
set_option linter.unusedVariables false
open Bool renaming and_eq_true->zN
open List renaming getD_eq_getElem?_getD->zK,mem_cons_of_mem->zT,mem_cons_self->zX,take_of_length_le->zY,take_succ_eq_append_getElem->zZ,mem_append->yC,any_eq_false->yD,all_eq_true->yE,length_set->yF,length_map->yG
open Int renaming reduceToNat->zH,reduceNeg->zJ
open Nat renaming reduceEqDiff->zA,reduceAdd->zB,reduceSub->zC,reduceMul->zD,reduceBEq->zE,reduceLT->zF,reduceLeDiff->zG
namespace Go.Proofs.YtecoaapkcnhlhaaDoor
open Go Go.Vc Txt
theorem qxR{g:Grid}{w:Spot}{x y:Int}(h:w.kind≠4)(h2:w.kind≠5): ¬Adj g w x y:=by unfold Adj;omega
theorem qxS{g:Grid}{d:Spot}{x y:Int} :Adj g d x y ↔ qxJ g d x y:=by
 obtain⟨k,dx,dy,i⟩:=d
 simp only[Adj,qxJ]
 refine and_congr_right fun _=> ?_
 omega
def Can2(g:Grid)(a b:Spot):Prop:=(a.kind=1/\(Adj g b a.x a.y\/(b.kind=3/\b.i=3/\b.x=a.x/\b.y=a.y+1)))\/(a.kind=2/\Adj g b a.x a.y)\/(a.kind=6/\Adj g b 0 a.y)\/
 ((a.kind=4\/a.kind=5)/\(b.kind=4\/b.kind=5)/\a≠b/\a.i=b.i/\Meet g a b)\/((a.kind=4\/a.kind=5)/\b.kind=3/\Adj g a b.x b.y)\/((a.kind=4\/a.kind=5)/\b.kind=7/\Adj g a (g.w-1) b.y)
theorem qxT(g:Grid)(a b:Spot):CanD g a b ↔ Can2 g a b:=by
 unfold CanD Can2
 by_cases h1:a.kind=1
 ·simp[h1]
 by_cases h2:a.kind=2
 ·simp[h2]
 by_cases h6:a.kind=6
 ·simp[h6]
 by_cases h4:a.kind=4\/a.kind=5
 ·rw[if_neg h1,if_neg h2,if_neg h6,if_pos h4]
  simp only[h1,h2,h6,h4,false_and,false_or,true_and]
  split
  ·rename_i hb
   have h3: ¬b.kind=3:=by omega
   have h7: ¬b.kind=7:=by omega
   simp[hb,h3,h7]
  ·rename_i hb
   simp[hb]
 ·rw[if_neg h1,if_neg h2,if_neg h6,if_neg h4]
  simp[h1,h2,h6,h4]
section
variable {g:Grid} (hg:GOk g)
include hg
theorem qxU(s:Spot)(hs:DOk g s)(k3:s.kind=3)(n:Int)(hn:Rng g n):(n∈rawD g s/\qv8 g n≠s) ↔ CanD g (qv8 g n) s:=by
 have hd:=(qxF hg hn).1
 have e1:n∈rawD g s ↔ qxJ g (qv8 g n) s.x s.y\/(s.i=3/\(qv8 g n).kind=1/\(qv8 g n).x=s.x/\(qv8 g n).y=s.y-1):=by
  rw[rawD,if_pos k3]
  split
  ·rename_i h3
   rw[qxI hg,qxN hg,qxK]
   refine or_congr ⟨fun h=>h.2,fun h=>⟨hn,h⟩⟩ ⟨fun h=>⟨h3,h.2.1,h.2.2.1,h.2.2.2.1⟩,fun h=>⟨hn,h.2.1,h.2.2.1,h.2.2.2,hd.i0 oM⟩⟩
  ·rename_i h3
   rw[qxN hg]
   exact⟨fun h=> .inl h.2,fun h=>h.elim (fun h=>⟨hn,h⟩) fun h=>absurd h.1 h3⟩
 have n1: ∀x y,¬Adj g s x y:=fun x y=>qxR oM oM
 rw[e1,qxT,Can2]
 simp only[n1,qxS,k3,true_and,false_or,and_false,show ¬((3:Int)=4\/(3:Int)=5)by decide,show ¬(3:Int)=7 by decide,false_and,or_false]
 generalize qv8 g n=d at *
 constructor
 ·rintro⟨h|h,_⟩
  ·refine .inr ⟨?_,h⟩
   unfold qxJ at h;omega
  ·exact .inl ⟨h.2.1,h.1,h.2.2.1.symm,oM⟩
 ·rintro(h|h)
  ·exact⟨.inr ⟨h.2.1,h.1,h.2.2.1.symm,oM⟩,fun e=>by rw[e]at h;omega⟩
  ·exact⟨.inl h.2,fun e=>by rw[e]at h;omega⟩
theorem qxV(s:Spot)(hs:DOk g s)(k7:s.kind=7)(n:Int)(hn:Rng g n):(n∈rawD g s/\qv8 g n≠s) ↔ CanD g (qv8 g n) s:=by
 have e1:n∈rawD g s ↔ qxJ g (qv8 g n) (g.w-1) s.y:=by
  rw[rawD,if_neg oM,if_pos k7,qxN hg]
  exact⟨fun h=>h.2,fun h=>⟨hn,h⟩⟩
 have n1: ∀x y,¬Adj g s x y:=fun x y=>qxR oM oM
 rw[e1,qxT,Can2]
 simp only[n1,qxS,k7,true_and,false_or,and_false,show ¬((7:Int)=4\/(7:Int)=5)by decide,show ¬(7:Int)=3 by decide,false_and,or_false]
 generalize qv8 g n=d at *
 constructor
 ·rintro⟨h,_⟩
  refine⟨?_,h⟩
  unfold qxJ at h;omega
 ·rintro h
  exact⟨h.2,fun e=>by rw[e]at h;omega⟩
omit hg in
theorem qxW(s:Spot)(k:s.kind=1\/s.kind=2\/s.kind=6)(n:Int):(n∈rawD g s/\qv8 g n≠s) ↔ CanD g (qv8 g n) s:=by
 have e1:rawD g s=[]:=by rw[rawD,if_neg oM,if_neg oM,if_neg oM]
 have n1: ∀x y,¬Adj g s x y:=fun x y=>qxR oM oM
 rw[e1,qxT,Can2]
 simp only[n1,List.not_mem_nil,false_and,false_or,and_false,show ¬(s.kind=4\/s.kind=5)by omega,show ¬s.kind=3 by omega,show ¬s.kind=7 by omega,or_false]
end
theorem qxX {g : Grid} (d s : Spot) (hs : s.kind = 4 \/ s.kind = 5) (hsx : (0 <= s.x /\ s.x < g.w) /\ (0 <= s.y /\ s.y < g.h)) (hdx : (0 <= d.x /\ d.x < g.w) /\ (0 <= d.y /\ d.y < g.h)) (hd : d.kind = 4 \/ d.kind = 5) :
  Meet g d s ↔ qxJ g d s.x s.y\/(s.kind=4/\s.x+1<g.w/\qxJ g d (s.x+1) s.y)\/(s.kind=5/\s.y+1<g.h/\qxJ g d s.x (s.y+1)):=by
 obtain⟨k,x,y,i⟩:=d
 obtain⟨k',x',y',i'⟩:=s
 simp only[Meet,Adj,qxJ]at *
 rcases hs with rfl|rfl<;>rcases hd with rfl|rfl<;>simp only[show ¬(4:Int)=5 by decide,show ¬(5:Int)=4 by decide,or_false,false_or,true_or,or_true,true_and,false_and]<;>omega
section
variable {g:Grid} (hg:GOk g)
include hg
theorem qxY(s:Spot)(hs:DOk g s)(k:s.kind=4\/s.kind=5)(n:Int)(hn:Rng g n):(n∈rawD g s/\qv8 g n≠s) ↔ CanD g (qv8 g n) s:=by
 have hd:=(qxF hg hn).1
 obtain⟨sx,sy⟩:=hs.pos oM
 have hw:=hg.w
 have hh:=hg.h
 have e1:n∈rawD g s ↔ n∈qvM g s (endF g s [] s.x s.y):=by
  rw[rawD,if_neg oM,if_neg oM,if_pos k];rfl
 have hsk3: ¬s.kind=3:=by omega
 have hsk7: ¬s.kind=7:=by omega
 have hh0:0<g.h:=by omega
 let E:Int->Int->Prop:=fun x y=>((qv8 g n).kind=1/\(qv8 g n).x=x/\(qv8 g n).y=y)\/((qv8 g n).kind=2/\(qv8 g n).x=x/\(qv8 g n).y=y)\/((qv8 g n).i=s.i/\qxJ g (qv8 g n) x y)\/(x=0/\(qv8 g n).kind=6/\(qv8 g n).y=y)
 have e2:n∈qvM g s (endF g s [] s.x s.y) ↔ E s.x s.y\/(s.kind=4/\s.x+1<g.w/\E (s.x+1) s.y)\/(s.kind=5/\s.y+1<g.h/\E s.x (s.y+1)):=by
  have m1:n∈endF g s [] s.x s.y ↔ E s.x s.y:=by
   rw[qxQ hg _ _ _ _ _ sy]
   simp only[List.not_mem_nil,false_or,hn,true_and]
   rfl
  rw[qvM]
  split
  ·rename_i k4
   have h5: ¬s.kind=5:=by omega
   simp only[k4,show ¬(4:Int)=5 by decide,false_and,or_false,true_and]
   split
   ·rename_i hh2
    rw[qxQ hg _ _ _ _ _ sy,m1]
    exact or_congr_right ⟨fun h=>⟨hh2.1,h.2⟩,fun h=>⟨hn,h.2⟩⟩
   ·rename_i hh2
    rw[m1]
    exact⟨.inl,fun h=>h.elim _root_.id fun h=>absurd ⟨h.1,sy.2⟩ hh2⟩
  ·rename_i k4
   have h5:s.kind=5:=by omega
   simp only[h5,show ¬(5:Int)=4 by decide,false_and,false_or,true_and]
   split
   ·rename_i hh2
    rw[qxQ hg _ _ _ _ _ oM,m1]
    exact or_congr_right ⟨fun h=>⟨hh2.2,h.2⟩,fun h=>⟨hn,h.2⟩⟩
   ·rename_i hh2
    rw[m1]
    exact⟨.inl,fun h=>h.elim _root_.id fun h=>absurd ⟨sx.2,h.1⟩ hh2⟩
 rw[e1,e2,qxT,Can2]
 show((((qv8 g n).kind=1/\_/\_)\/_)\/_)/\_ ↔ _
 have dpos:=hd.pos
 have d6:=hd.k6
 have hmw:=qxX (g:=g) (qv8 g n) s k ⟨sx,sy⟩
 have dk:=hd.kind
 have dy:(qv8 g n).kind=6->0<=(qv8 g n).y/\(qv8 g n).y<g.h:=fun h=>by
  obtain⟨_,e,_⟩:=d6 h
  rw[e]
  exact⟨Int.emod_nonneg _ (fun e=>by rw[e]at hh0;exact absurd hh0 (by decide)),Int.emod_lt_of_pos _ hh0⟩
 simp only[E]
 clear e1 e2 E hs hd d6
 generalize qv8 g n=d at *
 have hne: ¬(d.kind=4\/d.kind=5)->d≠s:=fun h e=>by rw[e]at h;exact h k
 have hwn: ¬(d.kind=4\/d.kind=5)-> ∀x y,¬qxJ g d x y:=fun h x y hW=>h (hW.2.elim (fun z=> .inl z.1) fun z=> .inr z.1)
 by_cases k45:d.kind=4\/d.kind=5
 ·have m:=hmw (dpos (by rcases k45 with h|h<;>rw[h]<;>decide)) k45
  have a1: ¬d.kind=1:=fun e=>by rw[e]at k45;exact absurd k45 (by decide)
  have a2: ¬d.kind=2:=fun e=>by rw[e]at k45;exact absurd k45 (by decide)
  have a6: ¬d.kind=6:=fun e=>by rw[e]at k45;exact absurd k45 (by decide)
  simp only[a1,a2,a6,hsk3,hsk7,k45,k,m,false_and,and_false,or_false,false_or,true_and]
  constructor
  ·rintro⟨h|⟨b,c,h⟩|⟨b,c,h⟩,h2⟩
   ·exact⟨h2,h.1,.inl h.2⟩
   ·exact⟨h2,h.1,.inr (.inl ⟨b,c,h.2⟩)⟩
   ·exact⟨h2,h.1,.inr (.inr ⟨b,c,h.2⟩)⟩
  ·rintro⟨h2,h1,h|⟨b,c,h⟩|⟨b,c,h⟩⟩
   ·exact⟨.inl ⟨h1,h⟩,h2⟩
   ·exact⟨.inr (.inl ⟨b,c,h1,h⟩),h2⟩
   ·exact⟨.inr (.inr ⟨b,c,h1,h⟩),h2⟩
 ·have hn2:=hne k45
  have hw2:=hwn k45
  clear hne hwn hmw
  simp only[hw2,hn2,k45,hsk3,hsk7,and_false,false_and,or_false,false_or,ne_eq,not_false_eq_true,and_true]
  by_cases a1:d.kind=1
  ·have dp:=dpos (by rw[a1];decide)
   clear dpos dy hw2
   simp only[a1,true_and,show ¬(1:Int)=2 by decide,show ¬(1:Int)=6 by decide,false_and,and_false,or_false,Adj,k,true_and]
   omega
  by_cases a2:d.kind=2
  ·have dp:=dpos (by rw[a2];decide)
   clear dpos dy hw2
   simp only[a2,true_and,show ¬(2:Int)=1 by decide,show ¬(2:Int)=6 by decide,false_and,and_false,or_false,false_or,Adj,k,true_and]
   omega
  by_cases a6:d.kind=6
  ·have dp:=dy a6
   clear dpos dy hw2
   simp only[a6,true_and,show ¬(6:Int)=1 by decide,show ¬(6:Int)=2 by decide,false_and,and_false,or_false,false_or,and_true,Adj,k]
   omega
  ·simp only[a1,a2,a6,false_and,and_false,or_false]
theorem qxZ(s:Spot)(hs:DOk g s)(n:Int)(hn:Rng g n):(n∈rawD g s/\qv8 g n≠s) ↔ CanD g (qv8 g n) s:=by
 have h1:=hs.kind
 by_cases k3:s.kind=3
 ·exact qxU hg s hs k3 n hn
 by_cases k7:s.kind=7
 ·exact qxV hg s hs k7 n hn
 by_cases k4:s.kind=4\/s.kind=5
 ·exact qxY hg s hs k4 n hn
 ·exact qxW s oM n
theorem qy0(s:Spot)(hs:DOk g s)(n:Int)(h:n∈rawD g s):Rng g n:=by
 have hE: ∀(x y:Int) (l:List Int),(n∈l->Rng g n)->0<=y/\y<g.h->n∈endF g s l x y->Rng g n:=fun x y l hl hy hm=>by
  rw[qxQ hg _ _ _ _ _ hy]at hm
  exact hm.elim hl fun h=>h.1
 rw[rawD]at h
 split at h
 ·split at h
  ·rw[qxI hg,qxN hg]at h
   exact h.elim (fun h=>h.1) fun h=>h.1
  ·rw[qxN hg]at h
   exact h.1
 ·split at h
  ·rw[qxN hg]at h
   exact h.1
  ·split at h
   ·rename_i k
    obtain⟨sx,sy⟩:=hs.pos oM
    have h0:=hE s.x s.y [] (fun h=>by cases h) sy
    simp only[qvJ]at h
    split at h
    ·split at h
     ·exact hE _ _ _ h0 sy h
     ·exact h0 h
    ·split at h
     ·exact hE _ _ _ h0 oM h
     ·exact h0 h
   ·cases h
end
theorem qy1: ∀ {l1 l2:List Int},l1.Pairwise (· < ·)->l2.Pairwise (· < ·)->(∀x,x∈l1 ↔ x∈l2)->l1=l2
 |[],[],_,_,_=>rfl
 |[],y::r,_,_,h=>by have:=(h y).2 zX;cases this
 |x::r,[],_,_,h=>by have:=(h x).1 zX;cases this
 | x :: r, y :: s, h1, h2, h => by
   have e:x=y:=by
    have a:=(h x).1 zX
    have b:=(h y).2 zX
    rcases List.mem_cons.1 a with a|a
    ·exact a
    rcases List.mem_cons.1 b with b|b
    ·exact b.symm
    have c:=(List.pairwise_cons.1 h2).1 x a
    have d:=(List.pairwise_cons.1 h1).1 y b
    omega
   subst e
   rw[qy1 (List.pairwise_cons.1 h1).2 (List.pairwise_cons.1 h2).2 fun z=>⟨fun hz=> ?_,fun hz=> ?_⟩]
   ·have:=(h z).1 (zT _ hz)
    rcases List.mem_cons.1 this with e|e
    ·subst e
     have:=(List.pairwise_cons.1 h1).1 z hz
     omega
    ·exact e
   ·have:=(h z).2 (zT _ hz)
    rcases List.mem_cons.1 this with e|e
    ·subst e
     have:=(List.pairwise_cons.1 h2).1 z hz
     omega
    ·exact e
theorem qy2(g:Grid)(s:Spot): ∀k:Nat,(qwo g s k).Pairwise (· < ·)/\ ∀x,x∈qwo g s k ↔ (0<=x/\x<k)/\CanD g (qv8 g x) s
 |0=>⟨.nil,fun x=>by simp[qwo];omega⟩
 | k + 1 => by
   obtain⟨h1,h2⟩:=qy2 g s k
   have hm: ∀x,x∈qwo g s (k+1) ↔ (0<=x/\x<((k+1:Nat):Int))/\CanD g (qv8 g x) s:=fun x=>by
    rw[qwo,yC,h2 x]
    split
    ·rename_i hc
     rw[List.mem_singleton]
     constructor
     ·rintro(h|h)
      ·exact⟨oM,h.2⟩
      ·subst h;exact⟨oM,hc⟩
     ·rintro⟨h,h3⟩
      by_cases e:x=k
      ·exact .inr e
      ·exact .inl ⟨oM,h3⟩
    ·rename_i hc
     simp only[List.not_mem_nil,or_false]
     constructor
     ·exact fun h=>⟨oM,h.2⟩
     ·rintro⟨h,h3⟩
      by_cases e:x=k
      ·subst e;exact absurd h3 hc
      ·exact⟨oM,h3⟩
   refine⟨?_,hm⟩
   rw[qwo]
   split
   ·refine List.pairwise_append.2 ⟨h1,List.pairwise_singleton _ _,fun x hx y hy=> ?_⟩
    rw[List.mem_singleton]at hy
    have:=((h2 x).1 hx).1
    omega
   ·simpa using h1
theorem qy3{g:Grid}(hg:GOk g)(n:Int):qwb g n=rdrF g n:=by
 have hc:=hg.count
 rw[rdrF]
 split
 ·rename_i h
  have hr:=qxH h
  have he:=qxG hr
  refine qy1 (qxr g n) (qy2 g _ _).1 fun x=> ?_
  rw[qxs,(qy2 g _ _).2 x,he]
  simp only[true_and]
  obtain⟨hd,hN⟩:=qxF hg hr
  constructor
  ·rintro⟨h1,h2⟩
   have hx:=qy0 hg _ hd x h1
   refine⟨by unfold Rng at hx;omega,(qxZ hg _ hd x hx).1 ⟨h1,fun e=>h2 ?_⟩⟩
   rw[<- (qxF hg hx).2,e,hN]
  ·rintro⟨h1,h2⟩
   have hx:Rng g x:=by unfold Rng;omega
   have:=(qxZ hg _ hd x hx).2 h2
   exact⟨this.1,fun e=>this.2 (by rw[e])⟩
 ·rename_i h
  rw[qwb,if_neg h]
end Go.Proofs.YtecoaapkcnhlhaaDoor
namespace Go.Proofs.YtecoaapkcnhlhaaDoor.Txt
open Go Go.Vc
set_option maxRecDepth 100000
def ac16:AC:=
 (.seq (.reg [0,31,0,1] [
 (aO 2 (.box (.t 0))),(aO 3 (.box (.t 1))),(aO 4 (.mv (.c (.sc (.bool false)))))])
 (.seq (.reg [0,31,2,3] [
 (aO 5 (.fa 0 (.t 2))),(aO 6 (.ld false 1 (.t 5))),(aO 7 (.fa 0 (.t 3))),(aO 8 (.ld false 1 (.t 7))),(aO 9 (.cal 36 [(.t 6),(.t 8)])),(aO 10 (.mv (.t 9))),⟨some 11,some (10,true),.fa 1 (.t 2)⟩,⟨some 12,some (10,true),.ld false 1 (.t 11)⟩,⟨some 13,some (10,true),.fa 1 (.t 3)⟩,⟨some 14,some (10,true),.ld false 1 (.t 13)⟩,⟨some 15,some (10,true),.cal 36 [(.t 12),(.t 14)]⟩,(aO 16 (.pick (.t 10) (.t 15) (.c (.sc (.bool false))))),(aO 17 (.mv (.t 16))),⟨some 18,some (17,true),.fa 2 (.t 2)⟩,⟨some 19,some (17,true),.ld false 1 (.t 18)⟩,⟨some 20,some (17,true),.fa 2 (.t 3)⟩,⟨some 21,some (17,true),.ld false 1 (.t 20)⟩,⟨some 22,some (17,true),.cal 36 [(.t 19),(.t 21)]⟩,(aO 23 (.pick (.t 17) (.t 22) (.c (.sc (.bool false))))),(aO 24 (.mv (.t 23))),⟨some 25,some (24,true),.fa 3 (.t 2)⟩,⟨some 26,some (24,true),.ld false 1 (.t 25)⟩,⟨some 27,some (24,true),.fa 3 (.t 3)⟩,⟨some 28,some (24,true),.ld false 1 (.t 27)⟩,⟨some 29,some (24,true),.cal 36 [(.t 26),(.t 28)]⟩,(aO 30 (.pick (.t 24) (.t 29) (.c (.sc (.bool false))))),(aO 4 (.mv (.t 30)))])
 .ret))
def rv16:List RV:=[.tmp 4]
theorem ok16:fnOk Tryd.prog ac16 rv16 Tryd.f16=true:=by kernel_rfl
end Go.Proofs.YtecoaapkcnhlhaaDoor.Txt
namespace Go.Proofs.YtecoaapkcnhlhaaDoor
open Go Go.Vc Txt
theorem qy6(a b:List Int)(ha:(a.length:Int)<=1000000)(hb:(b.length:Int)<=1000000):FnEq Tryd.prog 36 [.sl false 1 (ints a),.sl false 1 (ints b)] (.bool (decide (a=b))):=by
 refine FnEq.of_awp Tryd.func36 ok36 (by show 2<=_;decide) (by simp only[push_cast,reduceIte,zA,zB,zC,zD,zE,zF,zG,reduceCtorEq,zH,zJ,cNI]<;>first|exact fun _ _=>trivial|simp) ?_
 simp only[ac36,rv36,push_cast,reduceIte,zA,zB,zC,zD,zE,zF,zG,reduceCtorEq,zH,zJ,cNI]
 refine qnY (fun h=> ?_) fun h=> ?_
 ·rw[decide_eq_false];intro e;exact h (by rw[e])
 have hab:a.length=b.length:=by omega
 refine qoP (fun m st=> ∃k:Nat,k<=a.length/\m=a.length-k/\a.take k=b.take k/\st=⟨[(0,.sl false 1 (ints a)),(1,.sl false 1 (ints b)),(5,.int k)],[],[],[]⟩) a.length ?_ ?_
 ·refine⟨0,oM,oM,by simp,?_⟩
  exact sC
 ·rintro m st ⟨k,hk,rfl,h1,rfl⟩
  refine sB ?_
  refine qnY (fun h2=> ?_) fun h2=> ?_
  ·have ka:k<a.length:=by omega
   have kb:k<b.length:=by omega
   have ga:a.getD k default=a[k]:=by simp[ka]
   have gb:b.getD k default=b[k]:=by simp[kb]
   rw[ga,gb]
   refine⟨⟨oM,oM⟩,ka,⟨oM,oM⟩,kb,qnY (fun h3=> ?_) fun h3=> ?_⟩
   ·rw[decide_eq_false];intro e;subst e;exact h3 rfl
   ·refine⟨⟨oM,oM⟩,_,?_,k+1,oM,rfl,?_,?_⟩
    ·omega
    ·rw[zZ ka,zZ kb,h1,Classical.not_not.1 h3]
    ·simp
  ·rw[zY oM,zY oM]at h1
   rw[decide_eq_true h1]
theorem qy7(g:Grid)(hg:GOk g):FnEq Tryd.prog 56 [.agg (quX false g)] (.agg (cfgC true (qxc g))):=by
 have h1:=hg.count
 have h2:=hg.wh
 have h3:=hg.kind
 refine FnEq.of_awp Tryd.func56 ok56 (by show 1<=_;decide) (by simp only[push_cast,reduceIte,zA,zB,zC,zD,zE,zF,zG,reduceCtorEq,zH,zJ,cNI]<;>first|exact fun _ _=>trivial|simp) ?_
 simp only[ac56,rv56,push_cast,reduceIte,zA,zB,zC,zD,zE,zF,zG,reduceCtorEq,zH,zJ,cNI]
 refine qrx (qv5 g hg) sC rfl ?_
 refine sB ?_
 refine⟨oM,oM,oM,oM,?_⟩
 simp only[qxc,push_cast,reduceIte,zA,zB,zC,zD,zE,zF,zG,reduceCtorEq,zH,zJ,cNI]
 exact⟨fun _ _=>trivial,fun _ _=>trivial⟩
theorem qy9(g:Grid)(hg:GOk g)(n:Int)(hn: -1000000000<=n/\n<=1000000000):FnEq Tryd.prog 32 [.agg (quX false g),.int n] (.int (qwb g n).length):=by
 refine FnEq.of_awp Tryd.func32 ok32 (by show 2<=_;decide) (by simp only[push_cast,reduceIte,zA,zB,zC,zD,zE,zF,zG,reduceCtorEq,zH,zJ,cNI]<;>first|exact fun _ _=>trivial|simp) ?_
 simp only[ac32,rv32,push_cast,reduceIte,zA,zB,zC,zD,zE,zF,zG,reduceCtorEq,zH,zJ,cNI]
 refine qrv (qwq g hg n hn) sC ?_
 refine sB ?_
 rw[qy3 hg]
def lvN(id:Nat):List Int->PV
 |[]=> .nil
 |x::l=> .view id 0 (x::l).length
def laN(id:Nat):List Int->List (Nat×Arr)
 |[]=>[]
 |x::l=>[(id,⟨1,3,ints (x::l)⟩)]
@[push_cast] theorem qyb(id:Nat):lvN id []= .nil:=rfl
@[push_cast] theorem qyc(id:Nat)(x:Int)(l:List Int):lvN id (x::l)= .view id 0 (l.length+1):=rfl
@[push_cast] theorem qyd(id:Nat):laN id []=[]:=rfl
@[push_cast] theorem qye(id:Nat)(x:Int)(l:List Int):laN id (x::l)=[(id,⟨1,3,ints (x::l)⟩)]:=rfl
end Go.Proofs.YtecoaapkcnhlhaaDoor
namespace Go.Vc
end Go.Vc
namespace Go.Proofs.YtecoaapkcnhlhaaDoor
open Go Go.Vc Txt
end Go.Proofs.YtecoaapkcnhlhaaDoor
namespace Go.Vc
end Go.Vc
namespace Go.Proofs.YtecoaapkcnhlhaaDoor
open Go Go.Vc Txt
def lsC(l:List Int):List PV:=[.sl true 1 (ints l)]
@[push_cast] theorem qyh(l:List Int):lsC l=[.sl true 1 (ints l)]:=rfl
structure CfgSm (c:Cfg):Prop where
 sel:(c.sel.length:Int)<=1000000
 mode:(c.mode.length:Int)<=1000000
 tab:(c.tab.length:Int)<=1000000
 ram:(c.ram.length:Int)<=1000000
end Go.Proofs.YtecoaapkcnhlhaaDoor
namespace Go.Proofs.YtecoaapkcnhlhaaDoor.Txt
open Go Go.Vc
set_option maxRecDepth 100000
def ac42b_r6:AC:=
 (.seq (.reg [0,40,0,1,2,3,9,10] [
 (aO 23 (.mv (.t 1))),(aO 24 (.cal 40 [(.t 23),(kI 0),(kI 3)])),(aO 25 (.mv (.t 24))),⟨some 26,some (25,true),.mv (.t 0)⟩,⟨some 27,some (25,true),.mv (.t 1)⟩,⟨some 28,some (25,true),.cal 67 [(.t 26),(.t 27)]⟩,(aO 29 (.pick (.t 25) (.t 28) (.c (.sc (.bool false))))),(aO 30 (.mv (.t 29))),⟨some 31,some (30,true),.mv (.t 2)⟩,⟨some 32,some (30,true),.mv (.t 9)⟩,⟨some 33,some (30,true),.cal 40 [(.t 31),(kI 0),(.t 32)]⟩,(aO 34 (.pick (.t 30) (.t 33) (.c (.sc (.bool false))))),(aO 35 (.mv (.t 34))),⟨some 36,some (35,true),.mv (.t 3)⟩,⟨some 37,some (35,true),.mv (.t 10)⟩,⟨some 38,some (35,true),.cal 40 [(.t 36),(kI 0),(.t 37)]⟩,(aO 39 (.pick (.t 35) (.t 38) (.c (.sc (.bool false))))),(aO 8 (.mv (.t 39)))])
 .ret)
def ac42b:AC:=
 (.seq (.reg [0,40,0,1,2,3] [
 (aO 8 (.mv (.c (.sc (.bool false)))))])
 (.seq (.reg [0,40,0,1,2,3] [
 (aO 9 (.mv (kI 0))),(aO 10 (.mv (kI 0)))])
 (.seq (.seq (.reg [0,40,0,1,2,3,9,10] [
 (aO 11 (.mv (.t 1))),(aO 12 (.cmp .eql .i64 (.t 11) (kI 1))),(aO 13 (.mv (.t 12))),⟨some 14,some (13,false),.mv (.t 1)⟩,⟨some 15,some (13,false),.cmp .eql .i64 (.t 14) (kI 2)⟩,(aO 16 (.pick (.t 13) (.c (.sc (.bool true))) (.t 15)))])
 (.cut [0,40,0,1,2,3,9,10,16] (.cond (.t 16)
 (.reg [0,40,0,1,2,3,10] [
 (aO 9 (.mv (kI 65535)))])
 .skip)))
 (.seq (.seq (.reg [0,40,0,1,2,3,9,10] [
 (aO 17 (.mv (.t 1))),(aO 18 (.cmp .eql .i64 (.t 17) (kI 2))),(aO 19 (.mv (.t 18))),⟨some 20,some (19,false),.mv (.t 1)⟩,⟨some 21,some (19,false),.cmp .eql .i64 (.t 20) (kI 3)⟩,(aO 22 (.pick (.t 19) (.c (.sc (.bool true))) (.t 21)))])
 (.cut [0,40,0,1,2,3,9,10,22] (.cond (.t 22)
 (.reg [0,40,0,1,2,3,9] [
 (aO 10 (.mv (kI 255)))])
 .skip)))
 ac42b_r6))))
def rv42b:List RV:=[.tmp 8]
theorem ok42b:fnOk Tryd.prog ac42b rv42b Tryd.f42=true:=by kernel_rfl
end Go.Proofs.YtecoaapkcnhlhaaDoor.Txt
namespace Go.Proofs.YtecoaapkcnhlhaaDoor
open Go Go.Vc Txt
def qym(k m t r:Int):Prop:=(0<=m/\m<=3)/\qwY k m=true/\(0<=t/\t<=if m=1\/m=2 then 65535 else 0)/\(0<=r/\r<=if m=2\/m=3 then 255 else 0)
instance (k m t r:Int):Decidable (qym k m t r):=by unfold qym;infer_instance
set_option maxHeartbeats 2000000 in
theorem qyn(k m t r:Int):FnEq Tryd.prog 42 [.int k,.int m,.int t,.int r] (.bool (decide (qym k m t r))):=by
 have key: ∀T R:Int,(T=if m=1\/m=2 then 65535 else 0)->(R=if m=2\/m=3 then 255 else 0)->(qym k m t r ↔ (0<=m/\m<=3)/\qwY k m=true/\(0<=t/\t<=T)/\(0<=r/\r<=R)):=fun T R hT hR=>by rw[qym,hT,hR]
 have fin : ∀ T R : Int, (T = if m = 1 \/ m = 2 then 65535 else 0) -> (R = if m = 2 \/ m = 3 then 255 else 0) -> ∀ {st : St}, st.keepS [0, 40, 0, 1, 2, 3, 9, 10] = ⟨[(0, .int k), (1, .int m), (2, .int t), (3, .int r), (9, .int T), (10, .int R)], [], [], []⟩ ->
   awp (Env.of Tryd.prog) ac42b_r6 (retK rv42b fun x=>Sub x (.bool (decide (qym k m t r)))) st:=by
  intro T R hT hR st hst
  have hk:=key T R hT hR
  simp only[ac42b_r6,rv42b,push_cast,reduceIte,zA,zB,zC,zD,zE,zF,zG,reduceCtorEq,zH,zJ,cNI,hst]
  refine qoM (qwX _ _ _) ?_
  refine sB ?_
  refine qrz rfl (fun w1=> ?_) fun w1=> ?_<;>simp only[push_cast,reduceIte,zA,zB,zC,zD,zE,zF,zG,reduceCtorEq,zH,zJ,cNI]
  rotate_left
  ·rw[decide_eq_false fun h=>w1 (hk.1 h).1]
  refine qoM (qwZ _ _) ?_
  refine sB ?_
  refine qrB rfl (fun w2=> ?_) fun w2=> ?_<;>simp only[push_cast,reduceIte,zA,zB,zC,zD,zE,zF,zG,reduceCtorEq,zH,zJ,cNI]
  rotate_left
  ·rw[decide_eq_false fun h=>by have:=(hk.1 h).2.1;rw[w2]at this;cases this]
  refine qoM (qwX _ _ _) ?_
  refine sB ?_
  refine qrz rfl (fun w3=> ?_) fun w3=> ?_<;>simp only[push_cast,reduceIte,zA,zB,zC,zD,zE,zF,zG,reduceCtorEq,zH,zJ,cNI]
  rotate_left
  ·rw[decide_eq_false fun h=>w3 (hk.1 h).2.2.1]
  refine qoM (qwX _ _ _) ?_
  refine sB ?_
  rw[decide_eq_decide.2 (show(0<=r/\r<=R) ↔ qym k m t r from⟨fun h=>hk.2 ⟨w1,w2,w3,h⟩,fun h=>(hk.1 h).2.2.2⟩)]
 refine FnEq.of_awp Tryd.func42 ok42b (by show 4<=_;decide) (by simp only[push_cast,reduceIte,zA,zB,zC,zD,zE,zF,zG,reduceCtorEq,zH,zJ,cNI]<;>first|exact fun _ _=>trivial|simp) ?_
 simp only[ac42b,push_cast,reduceIte,zA,zB,zC,zD,zE,zF,zG,reduceCtorEq,zH,zJ,cNI]
 cases e1:decide (m=1)<;>cases e2:decide (m=2)<;>cases e3:decide (m=3)
 all_goals have h1:=e1
 all_goals have h2:=e2
 all_goals have h3:=e3
 all_goals simp only[decide_eq_true_eq,decide_eq_false_iff_not]at h1 h2 h3
 all_goals first|(exfalso;omega)|skip
 all_goals simp only[e1,e2,e3,push_cast,reduceIte,zA,zB,zC,zD,zE,zF,zG,reduceCtorEq,zH,zJ,cNI]
 ·refine fin 0 0 (by rw[if_neg oM]) (by rw[if_neg oM]) ?_
  exact sC
 ·refine fin 0 255 (by rw[if_neg oM]) (by rw[if_pos oM]) ?_
  exact sC
 ·refine fin 65535 255 (by rw[if_pos oM]) (by rw[if_pos oM]) ?_
  exact sC
 ·refine fin 65535 0 (by rw[if_pos oM]) (by rw[if_neg oM]) ?_
  exact sC
def qyo(g:Grid)(c:Cfg):Prop:=(c.sel.length=(qv2 g).toNat/\c.mode.length=g.kind.length/\c.tab.length=g.kind.length/\c.ram.length=g.kind.length)/\
 (∀i,i<c.sel.length->c.sel.getD i 0≠0->1<=c.sel.getD i 0/\c.sel.getD i 0<=(qwb g i).length)/\ ∀t,t<g.kind.length->qym (g.kind.getD t 0) (c.mode.getD t 0) (c.tab.getD t 0) (c.ram.getD t 0)
open Classical in
noncomputable def validE (g:Grid) (c:Cfg):Int:=if qyo g c then 0 else 310
theorem qyp{p:Prop} [Decidable p](h:(!decide p)=true): ¬p:=by simpa using h
theorem qyq{p:Prop} [Decidable p](h:(!decide p)=false):p:=by simpa using h
def qyr(g:Grid)(c:Cfg):Prop:=c.sel.length=(qv2 g).toNat/\c.mode.length=g.kind.length/\c.tab.length=g.kind.length/\c.ram.length=g.kind.length
instance (g:Grid) (c:Cfg):Decidable (qyr g c):=by unfold qyr;infer_instance
def qys(g:Grid)(c:Cfg)(i:Nat):Prop:=c.sel.getD i 0≠0->1<=c.sel.getD i 0/\c.sel.getD i 0<=(qwb g i).length
def qyt(g:Grid)(c:Cfg)(t:Nat):Prop:=qym (g.kind.getD t 0) (c.mode.getD t 0) (c.tab.getD t 0) (c.ram.getD t 0)
instance (g:Grid) (c:Cfg) (i:Nat):Decidable (qys g c i):=by unfold qys;infer_instance
instance (g:Grid) (c:Cfg) (t:Nat):Decidable (qyt g c t):=by unfold qyt;infer_instance
theorem qyu{g:Grid}{c:Cfg}(h1:qyr g c)(h2: ∀i,i<c.sel.length->qys g c i)(h3: ∀t,t<g.kind.length->qyt g c t):validE g c=0:=if_pos ⟨h1,h2,h3⟩
theorem qyv{g:Grid}{c:Cfg}(h: ¬qyr g c):validE g c=310:=if_neg fun e=>h e.1
theorem qyw{g:Grid}{c:Cfg}{i:Nat}(hi:i<c.sel.length)(h: ¬qys g c i):validE g c=310:=if_neg fun e=>h (e.2.1 i hi)
theorem qyx{g:Grid}{c:Cfg}{t:Nat}(ht:t<g.kind.length)(h: ¬qyt g c t):validE g c=310:=if_neg fun e=>h (e.2.2 t ht)
set_option maxHeartbeats 4000000 in
theorem qyy(g:Grid)(hg:GOk g)(c:Cfg)(hs:CfgSm c):FnEq Tryd.prog 18 [.agg (quX false g),.agg (cfgC false c)] (.int (validE g c)):=by
 have hc:=hg.count
 have hk:=hg.kind
 have hw:=hg.wh
 have s1:=hs.sel
 have s2:=hs.mode
 have s3:=hs.tab
 have s4:=hs.ram
 refine FnEq.of_awp Tryd.func18 ok18 (by show 2<=_;decide) (by simp only[push_cast,reduceIte,zA,zB,zC,zD,zE,zF,zG,reduceCtorEq,zH,zJ,cNI]<;>first|exact fun _ _=>trivial|simp) ?_
 simp only[ac18,rv18,push_cast,reduceIte,zA,zB,zC,zD,zE,zF,zG,reduceCtorEq,zH,zJ,cNI]
 refine qrx (qv5 g hg) sC rfl ?_
 refine sB ?_
 obtain⟨B,hB⟩: ∃B,B=decide (¬qyr g c):=⟨_,rfl⟩
 refine qrI ⟨[(2,.ptr 2 0),(3,.ptr 3 0),(39,.bool B)],[(2,quX false g),(3,cfgC false c)],[],[]⟩ ?_ ?_
 ·unfold qyr at hB
  repeat' (first
   |(refine qrE rfl (fun _=> ?_) fun _=> ?_<;>simp only[push_cast,reduceIte,zA,zB,zC,zD,zE,zF,zG,reduceCtorEq,zH,zJ,cNI])
   |(refine qrD rfl (fun _=> ?_) fun _=> ?_<;>simp only[push_cast,reduceIte,zA,zB,zC,zD,zE,zF,zG,reduceCtorEq,zH,zJ,cNI]))
  all_goals first
   |(rw[show B=true from by rw[hB];exact decide_eq_true oM];done)
   |(rw[show B=decide ((c.ram.length:Int)≠g.kind.length)from by rw[hB,decide_eq_decide];omega];done)
 refine sB ?_
 refine qnX (fun e=> ?_) fun e=> ?_
 ·rw[hB,decide_eq_true_eq]at e
  rw[qyv e]
 rw[hB,decide_eq_false_iff_not,Classical.not_not]at e
 have el:=e
 obtain⟨q1,q2,q3,q4⟩:=e
 refine qoP (fun m st=> ∃k:Nat,k<=c.sel.length/\m=c.sel.length-k/\(∀i,i<k->qys g c i)/\st=⟨[(2,.ptr 2 0),(3,.ptr 3 0),(41,.sl false 1 (ints c.sel)),(42,.int c.sel.length),(43,.int k)],[(2,quX false g),(3,cfgC false c)],[],[]⟩) c.sel.length ?_ ?_
 ·refine⟨0,oM,oM,fun i hi=>by omega,?_⟩
  exact sC
 rintro m st ⟨k,hk,rfl,hP,rfl⟩
 refine sB ?_
 refine qnY (fun h=>⟨oM,oM,?_⟩) fun h=> ?_
 ·have next : qys g c k -> ∀ i, i < k + 1 -> qys g c i := fun hs i hi => by
   by_cases e:i=k
   ·rw[e];exact hs
   ·exact hP i oM
  have hdl:=qxu g hg k
  refine qrz rfl (fun h2=> ?_) fun h2=> ?_<;>simp only[push_cast,reduceIte,zA,zB,zC,zD,zE,zF,zG,reduceCtorEq,zH,zJ,cNI]
  ·refine qrv (qwf g hg k oM) sC ?_
   refine sB ?_
   refine qoM (qwX _ _ _) ?_
   refine sB ?_
   refine qnX (fun h3=> ?_) fun h3=> ?_
   ·have h3: ¬(1<=c.sel.getD k 0/\c.sel.getD k 0<=(qwb g k).length):=qyp h3
    rw[qyw (i:=k) oM (fun hs=>h3 (hs h2))]
   ·have h3:1<=c.sel.getD k 0/\c.sel.getD k 0<=(qwb g k).length:=qyq h3
    refine⟨oM,_,?_,k+1,oM,rfl,next (fun _=>h3),?_⟩
    ·omega
    ·exact sC
  ·refine⟨oM,_,?_,k+1,oM,rfl,next (fun h3=>absurd h3 h2),?_⟩
   ·omega
   ·exact sC
 have hsel: ∀i,i<c.sel.length->qys g c i:=fun i hi=>hP i oM
 refine qoP (fun m st=> ∃k:Nat,k<=g.kind.length/\m=g.kind.length-k/\(∀i,i<k->qyt g c i)/\st=⟨[(3,.ptr 3 0),(61,.sl false 1 (ints g.kind)),(62,.int g.kind.length),(63,.int k)],[(3,cfgC false c)],[],[]⟩) g.kind.length ?_ ?_
 ·refine⟨0,oM,oM,fun i hi=>by omega,?_⟩
  exact sC
 rintro m st ⟨k,hk,rfl,hP,rfl⟩
 refine sB ?_
 refine qnY (fun h=>⟨oM,oM,?_⟩) fun h=> ?_
 ·refine⟨oM,oM,oM,oM,oM,oM,?_⟩
  refine qoM (qyn _ _ _ _) ?_
  refine sB ?_
  refine qnX (fun h3=> ?_) fun h3=> ?_
  ·have h3: ¬qyt g c k:=qyp h3
   rw[qyx (t:=k) oM h3]
  ·have h3:qyt g c k:=qyq h3
   refine⟨oM,_,?_,k+1,oM,rfl,?_,?_⟩
   ·omega
   ·intro i hi
    by_cases e:i=k
    ·rw[e];exact h3
    ·exact hP i oM
   ·exact sC
 ·rw[qyu el hsel fun t ht=>hP t oM]
structure SelsOk (g:Grid) (c:Cfg):Prop where
 len:c.sel.length=(qv2 g).toNat
 sel: ∀i,i<c.sel.length->qys g c i
theorem qyD{l:List Int}{k:Nat}(h:k<l.length):l.getD k 0∈l:=by simp[h]
theorem qyE(c d:Cfg)(hc:CfgSm c)(hd:CfgSm d):FnEq Tryd.prog 16 [.agg (cfgC false c),.agg (cfgC false d)] (.bool (decide (c=d))):=by
 have i0:=qy6 c.sel d.sel hc.sel hd.sel
 have i1:=qy6 c.mode d.mode hc.mode hd.mode
 have i2:=qy6 c.tab d.tab hc.tab hd.tab
 have i3:=qy6 c.ram d.ram hc.ram hd.ram
 have hE:c=d ↔ c.sel=d.sel/\c.mode=d.mode/\c.tab=d.tab/\c.ram=d.ram:=by
  cases c;cases d;simp
 refine FnEq.of_awp Tryd.func16 ok16 (by show 2<=_;decide) (by simp only[push_cast,reduceIte,zA,zB,zC,zD,zE,zF,zG,reduceCtorEq,zH,zJ,cNI]<;>first|exact fun _ _=>trivial|simp) ?_
 simp only[ac16,rv16,push_cast,reduceIte,zA,zB,zC,zD,zE,zF,zG,reduceCtorEq,zH,zJ,cNI]
 refine qoM i0 ?_
 refine sB ?_
 refine qrz rfl (fun e1=> ?_) fun e1=> ?_<;>simp only[push_cast,reduceIte,zA,zB,zC,zD,zE,zF,zG,reduceCtorEq,zH,zJ,cNI]
 ·refine qoM i1 ?_
  refine sB ?_
  refine qrz rfl (fun e2=> ?_) fun e2=> ?_<;>simp only[push_cast,reduceIte,zA,zB,zC,zD,zE,zF,zG,reduceCtorEq,zH,zJ,cNI]
  ·refine qoM i2 ?_
   refine sB ?_
   refine qrz rfl (fun e3=> ?_) fun e3=> ?_<;>simp only[push_cast,reduceIte,zA,zB,zC,zD,zE,zF,zG,reduceCtorEq,zH,zJ,cNI]
   ·refine qoM i3 ?_
    refine sB ?_
    simp_all
   ·simp_all
  ·simp_all
 ·simp_all
def desC(q:Bool)(g:Grid)(p:Packed)(l:Layout):List PV:=quX q g++qx2 q p++layC q l
@[push_cast] theorem qyF(q:Bool)(g:Grid)(p:Packed)(l:Layout):desC q g p l=quX q g++qx2 q p++layC q l:=rfl
end Go.Proofs.YtecoaapkcnhlhaaDoor
namespace Go.Proofs.YtecoaapkcnhlhaaDoor.Txt
open Go Go.Vc
set_option maxRecDepth 100000
def ac31_200w:AC:=
 (.seq (.reg [200,19,200] [
 (aO 201 (.box (.t 200))),(aO 202 (.alc [.nil,.nil,.nil,.nil]))])
 (.seq (.reg [200,19,201,202] [
 (aO 204 (.fa 0 (.t 201))),(aO 205 (.ld false 1 (.t 204))),(aO 206 (.fa 1 (.t 201))),(aO 207 (.ld false 1 (.t 206))),(aO 208 (.ari .mul true .i64 (.t 205) (.t 207))),(aO 203 (.mv (.t 208)))])
 (.seq (.drw [200,19,201,202,203] [
 (eU 209 (.ld true 5 (.t 201)) [] [213,215,217]),(eU 210 (.cal 51 [(.t 209)]) [] [213,215,217]),(eU 211 (.mks 1 3 8 [zI] (.t 210) (.t 210)) [211] [213,215,217]),(eU 212 (.mv (.t 203)) [] [211,215,217]),(eU 213 (.mks 1 3 8 [zI] (.t 212) (.t 212)) [213] [211,215,217]),(eU 214 (.mv (.t 203)) [] [211,213,217]),(eU 215 (.mks 1 3 8 [zI] (.t 214) (.t 214)) [215] [211,213,217]),(eU 216 (.mv (.t 203)) [] [211,213,215]),(eU 217 (.mks 1 3 8 [zI] (.t 216) (.t 216)) [217] [211,213,215]),(eF 218 (.bld [.nil,.nil,.nil,.nil] [(0,1,(.t 211)),(1,1,(.t 213)),(2,1,(.t 215)),(3,1,(.t 217))])),⟨(aN (.sto 4 (.t 202) (.t 218))),[],[],false⟩])
 .ret)))
def rv31_200w:List RV:=[.cell 202 true 4]
theorem ok31_200w:qh6 Tryd.prog 200 ac31_200w rv31_200w Tryd.f31=true:=by kernel_rfl

def ac12w:AC:=
 (.seq (.reg [0,133,0,1] [
 (aO 2 (.box (.t 0))),(aO 4 (.alc [.nil,.nil,.nil,.nil]))])
 (.seq (.reg [0,133,1,2,4] [
 (aO 10 (.ld true 5 (.t 2))),(aO 11 (.clm 31 [(.t 10)])),(aO 5 (.alc [.nil,.nil,.nil,.nil])),(aN (.sto 4 (.t 5) (.t 11)))])
 (.seq (.seq (.reg [0,133,1,2,4,5] [
 (aO 6 (.mv (kI 0)))])
 (.block 0
 (.loop [0,133,1,2,4,5,6]
 (.seq (.seq (.reg [0,133,1,2,4,5,6] [
 (aO 12 (.mv (.t 6))),(aO 13 (.ari .add true .i64 (.t 12) (kI 1))),(aO 14 (.mv (.t 1))),(aO 15 (.len (.t 14))),(aO 16 (.cmp .lss .i64 (.t 13) (.t 15))),(aO 17 (.mv (.t 16))),⟨some 18,some (17,true),.mv (.t 6)⟩,⟨some 19,some (17,true),.cmp .lss .i64 (.t 18) (kI 80)⟩,(aO 20 (.pick (.t 17) (.t 19) (.c (.sc (.bool false)))))])
 (.cut [0,133,1,2,4,5,6,20] (.cond (.t 20)
 .skip
 (.exit 0))))
 (.seq (.block 1
 (.seq (.drw [0,133,1,2,4,5,6] [
 (eT 23 (.mv (.t 6))),(eT 24 (.ari .mul true .i64 (kI 7) (.t 23))),(eT 25 (.mv (.t 1))),(eT 26 (.mv (.t 6))),(eT 27 (.ixs 1 (.t 25) (.t 26))),(eT 28 (.ld false 1 (.t 27))),(eT 29 (.cnv true .i64 (.t 28))),(eT 30 (.ari .add true .i64 (.t 24) (.t 29))),(eT 31 (.fa 0 (.t 5))),(eT 32 (.ld false 1 (.t 31))),(eT 33 (.len (.t 32))),(eF 34 (.dvd .rem true .i64 (.t 30) (.t 33))),(eF 7 (.mv (.t 34)))])
 (.seq (.reg [0,133,1,2,4,5,6,7] [
 (aO 35 (.ld true 5 (.t 2))),(aO 36 (.mv (.t 7))),(aO 37 (.cal 32 [(.t 35),(.t 36)])),(aO 8 (.mv (.t 37)))])
 (.seq (.seq (.reg [0,133,1,2,4,5,6,7,8] [
 (aO 38 (.mv (.t 8))),(aO 39 (.cmp .gtr .i64 (.t 38) (kI 0)))])
 (.cond (.t 39)
 (.drw [0,133,1,2,4,5,6,7,8] [
 (eT 40 (.fa 0 (.t 5))),(eT 41 (.ld false 1 (.t 40))),(eT 42 (.mv (.t 7))),(eT 43 (.mv (.t 1))),(eT 44 (.mv (.t 6))),(eT 45 (.ari .add true .i64 (.t 44) (kI 1))),(eT 46 (.ixs 1 (.t 43) (.t 45))),(eT 47 (.ld false 1 (.t 46))),(eT 48 (.cnv true .i64 (.t 47))),(eT 49 (.mv (.t 8))),(eT 50 (.dvd .rem true .i64 (.t 48) (.t 49))),(eT 51 (.ari .add true .i64 (kI 1) (.t 50))),(eF 52 (.ixs 1 (.t 41) (.t 42))),⟨(aN (.sto 1 (.t 52) (.t 51))),[],[],false⟩])
 .skip))
 (.seq (.drw [0,133,1,2,4,5,6] [
 (eT 53 (.mv (.t 1))),(eT 54 (.mv (.t 6))),(eT 55 (.ixs 1 (.t 53) (.t 54))),(eT 56 (.ld false 1 (.t 55))),(eT 57 (.cnv true .i64 (.t 56))),(eT 58 (.fa 0 (.t 2))),(eT 59 (.ld false 1 (.t 58))),(eT 60 (.fa 1 (.t 2))),(eT 61 (.ld false 1 (.t 60))),(eT 62 (.ari .mul true .i64 (.t 59) (.t 61))),(eF 63 (.dvd .rem true .i64 (.t 57) (.t 62))),(eF 9 (.mv (.t 63)))])
 (.block 2
 (.seq (.reg [0,133,1,2,4,5,6,9] [
 (aO 65 (.fa 4 (.t 2))),(aO 66 (.ld false 1 (.t 65))),(aO 67 (.mv (.t 9))),(aO 68 (.ixs 1 (.t 66) (.t 67))),(aO 69 (.ld false 1 (.t 68))),(aO 70 (.cmp .eql .i64 (.t 69) (kI 0))),(aO 64 (.mv (.t 70)))])
 (.cond (.t 64)
 .skip
 (.seq (.reg [0,133,1,2,4,5,6,9] [
 (aO 72 (.mv (.t 1))),(aO 73 (.mv (.t 6))),(aO 74 (.ari .add true .i64 (.t 73) (kI 1))),(aO 75 (.ixs 1 (.t 72) (.t 74))),(aO 76 (.ld false 1 (.t 75))),(aO 77 (.dvd .rem true .u8 (.t 76) (.c (.sc (.int .u8 3))))),(aO 78 (.cmp .eql .u8 (.t 77) (.c (.sc (.int .u8 0))))),(aO 71 (.mv (.t 78)))])
 (.cond (.t 71)
 (.seq (.reg [0,133,1,2,4,5,6,9] [
 (aO 79 (.fa 1 (.t 5))),(aO 80 (.ld false 1 (.t 79))),(aO 81 (.mv (.t 9))),(aO 82 (.ixs 1 (.t 80) (.t 81))),(aN (.sto 1 (.t 82) (kI 1)))])
 (.seq (.drw [0,133,1,2,4,5,6,9] [
 (eT 83 (.fa 2 (.t 5))),(eT 84 (.ld false 1 (.t 83))),(eT 85 (.mv (.t 9))),(eT 86 (.mv (.t 1))),(eT 87 (.mv (.t 6))),(eT 88 (.ari .add true .i64 (.t 87) (kI 1))),(eT 89 (.ixs 1 (.t 86) (.t 88))),(eT 90 (.ld false 1 (.t 89))),(eT 91 (.cnv true .i64 (.t 90))),(eT 92 (.ari .mul true .i64 (kI 100) (.t 91))),(eF 93 (.ixs 1 (.t 84) (.t 85))),⟨(aN (.sto 1 (.t 93) (.t 92))),[],[],false⟩])
 (.reg [0,133,1,2,4,5,6,9] [
 (aO 94 (.fa 3 (.t 5))),(aO 95 (.ld false 1 (.t 94))),(aO 96 (.mv (.t 9))),(aO 97 (.ixs 1 (.t 95) (.t 96))),(aN (.sto 1 (.t 97) (kI 0)))])))
 (.seq (.reg [0,133,1,2,4,5,6,9] [
 (aO 99 (.mv (.t 1))),(aO 100 (.mv (.t 6))),(aO 101 (.ari .add true .i64 (.t 100) (kI 1))),(aO 102 (.ixs 1 (.t 99) (.t 101))),(aO 103 (.ld false 1 (.t 102))),(aO 104 (.dvd .rem true .u8 (.t 103) (.c (.sc (.int .u8 3))))),(aO 105 (.cmp .eql .u8 (.t 104) (.c (.sc (.int .u8 1))))),(aO 98 (.mv (.t 105)))])
 (.cond (.t 98)
 (.seq (.reg [0,133,1,2,4,5,6,9] [
 (aO 106 (.fa 1 (.t 5))),(aO 107 (.ld false 1 (.t 106))),(aO 108 (.mv (.t 9))),(aO 109 (.ixs 1 (.t 107) (.t 108))),(aN (.sto 1 (.t 109) (kI 2)))])
 (.seq (.drw [0,133,1,2,4,5,6,9] [
 (eT 110 (.fa 2 (.t 5))),(eT 111 (.ld false 1 (.t 110))),(eT 112 (.mv (.t 9))),(eT 113 (.mv (.t 1))),(eT 114 (.mv (.t 6))),(eT 115 (.ari .add true .i64 (.t 114) (kI 1))),(eT 116 (.ixs 1 (.t 113) (.t 115))),(eT 117 (.ld false 1 (.t 116))),(eT 118 (.cnv true .i64 (.t 117))),(eT 119 (.ari .mul true .i64 (kI 100) (.t 118))),(eF 120 (.ixs 1 (.t 111) (.t 112))),⟨(aN (.sto 1 (.t 120) (.t 119))),[],[],false⟩])
 (.drw [0,133,1,2,4,5,6,9] [
 (eT 121 (.fa 3 (.t 5))),(eT 122 (.ld false 1 (.t 121))),(eT 123 (.mv (.t 9))),(eT 124 (.mv (.t 1))),(eT 125 (.mv (.t 6))),(eT 126 (.ari .add true .i64 (.t 125) (kI 1))),(eT 127 (.ixs 1 (.t 124) (.t 126))),(eT 128 (.ld false 1 (.t 127))),(eT 129 (.dvd .quo true .u8 (.t 128) (.c (.sc (.int .u8 3))))),(eT 130 (.cnv true .i64 (.t 129))),(eF 131 (.ixs 1 (.t 122) (.t 123))),⟨(aN (.sto 1 (.t 131) (.t 130))),[],[],false⟩])))
 .skip))))))))))))
 (.reg [0,133,1,2,4,5,6] [
 (aO 21 (.mv (.t 6))),(aO 22 (.ari .add true .i64 (.t 21) (kI 2))),(aO 6 (.mv (.t 22)))]))))))
 (.seq (.reg [0,133,4,5] [
 (aO 132 (.ld true 4 (.t 5))),(aN (.sto 4 (.t 4) (.t 132)))])
 .ret))))
def rv12w:List RV:=[.cell 4 true 4]
theorem ok12w:fnOk Tryd.prog ac12w rv12w Tryd.f12=true:=by kernel_rfl
end Go.Proofs.YtecoaapkcnhlhaaDoor.Txt
namespace Go.Proofs.YtecoaapkcnhlhaaDoor
open Go Go.Vc Txt
theorem qyH{α:Type}(f:Nat->α)(k:Nat):(List.range (k+1)).map f=(List.range k).map f++[f k]:=by simp[List.range_succ]
def qyI(l:List Int)(i:Nat):Int:=if i<l.length/\l.getD i default%8<2 then l.getD i default%8 else 2
def qyJ(n:Nat)(l:List Int):List Int:=(List.range n).map (qyI l)
theorem qyK (n : Nat) (hn : (n : Int) <= 1000000) (l : List Int) (hl : (l.length : Int) <= 9223372036854775807) (hb : ∀ x ∈ l, 0 <= x /\ x <= 255) :
  FnEq Tryd.prog 30 [.int n,.sl false 1 (qkf l)] (.sl true 1 (ints (qyJ n l))):=by
 refine FnEq.of_awp Tryd.func30 ok30 (by show 2<=_;decide) (by simp only[push_cast,reduceIte,zA,zB,zC,zD,zE,zF,zG,reduceCtorEq,zH,zJ,cNI]<;>first|exact fun _ _=>trivial|simp) ?_
 simp only[ac30,rv30,push_cast,reduceIte,zA,zB,zC,zD,zE,zF,zG,reduceCtorEq,zH,zJ,cNI]
 refine qoP (fun m st=> ∃k:Nat,k<=n/\m=n-k/\
  st=⟨[(0,.int n),(1,.sl false 1 (qkf l)),(5,.view 8 0 k),(6,.int k)],[],[(8,⟨1,3,ints ((List.range k).map (qyI l))⟩)],[]⟩) n ?_ ?_
 ·refine⟨0,oM,oM,?_⟩
  refine sB ?_
  rfl
 ·rintro m st ⟨k,hk,rfl,rfl⟩
  refine sB ?_
  have hlen:((List.range k).map (qyI l)).length=k:=by simp
  have hsucc:=qyH (qyI l) k
  refine qnY (fun h=> ?_) fun h=> ?_
  ·refine qrH ⟨[(0,.int n),(1,.sl false 1 (qkf l)),(5,.view 8 0 k),(6,.int k),(7,.int 2),(25,.bool (decide (k<l.length/\l.getD k default%8<2)))],[],[(8,⟨1,3,ints ((List.range k).map (qyI l))⟩)],[]⟩ ?_ ?_
   ·refine qrz rfl (fun h1=> ?_) fun h1=> ?_<;>simp only[push_cast,reduceIte,zA,zB,zC,zD,zE,zF,zG,reduceCtorEq,zH,zJ,cNI]
    ·have h1' :k<l.length:=by omega
     have hx:=hb _ (show l.getD k default∈l by simp[zK,h1'])
     refine⟨⟨oM,oM⟩,h1',⟨oM,oM,oM⟩,?_⟩
     rw[show decide (k<l.length/\l.getD k default%8<2)=decide (l.getD k default%8<2)from by rw[decide_eq_decide];omega]
    ·have h1' : ¬k<l.length:=by omega
     simp[h1']
   refine sB ?_
   refine qnY (fun h1=> ?_) fun h1=> ?_
   ·have hx:=hb _ (show l.getD k default∈l by simp[zK,h1.1])
    have hf:qyI l k=l.getD k default%8:=by rw[qyI,if_pos h1]
    rw[hf]at hsucc
    refine⟨⟨oM,oM⟩,h1.1,⟨oM,oM,oM⟩,⟨oM,oM⟩,by simp,⟨hlen.symm,oM,oM⟩,⟨oM,oM⟩,_,?_,k+1,oM,rfl,?_⟩
    ·omega
    ·rw[hsucc];simp
   ·have hf:qyI l k=2:=by rw[qyI,if_neg h1]
    rw[hf]at hsucc
    refine⟨by simp,⟨hlen.symm,oM,oM⟩,⟨oM,oM⟩,_,?_,k+1,oM,rfl,?_⟩
    ·omega
    ·rw[hsucc];simp
  ·have hkk:k=n:=by omega
   subst hkk
   rw[zY oM]
   exact⟨fun _ _=>trivial,.refl _⟩
structure RawG where
 w:Int
 h:Int
 tracks:Int
 pads:Int
 kind:List Int
def qyL(q:Bool)(x:RawG):List PV:=[.sc (.int .u8 x.w),.sc (.int .u8 x.h),.sc (.int .u8 x.tracks),.sc (.int .u8 x.pads),.sl q 1 (qkf x.kind)]
@[push_cast] theorem qyM(q:Bool)(x:RawG):qyL q x=[.sc (.int .u8 x.w),.sc (.int .u8 x.h),.sc (.int .u8 x.tracks),.sc (.int .u8 x.pads),.sl q 1 (qkf x.kind)]:=rfl
structure RawG.Ok (x:RawG):Prop where
 w:0<=x.w/\x.w<=255
 h:0<=x.h/\x.h<=255
 tracks:0<=x.tracks/\x.tracks<=255
 pads:0<=x.pads/\x.pads<=255
 len:(x.kind.length:Int)<=9223372036854775807
 kind: ∀k∈x.kind,0<=k/\k<=255
def qyN(x:RawG):Grid:=⟨2+x.w%4,2+x.h%4,2+x.tracks%3,24,qyJ ((2+x.w%4)*(2+x.h%4)).toNat x.kind⟩
theorem qyO(x:RawG)(hx:x.Ok):FnEq Tryd.prog 11 [.agg (qyL false x)] (.agg (quX true (qyN x))):=by
 refine FnEq.of_awp Tryd.func11 ok11 (by show 1<=_;decide) (by simp only[push_cast,reduceIte,zA,zB,zC,zD,zE,zF,zG,reduceCtorEq,zH,zJ,cNI]<;>first|exact fun _ _=>trivial|simp) ?_
 simp only[ac11,rv11,push_cast,reduceIte,zA,zB,zC,zD,zE,zF,zG,reduceCtorEq,zH,zJ,cNI]
 obtain⟨h1,h2,h3,h4,h5,h6⟩:=hx
 have hm:0<=(2+x.w%4)*(2+x.h%4)/\(2+x.w%4)*(2+x.h%4)<=5*5:=⟨Int.mul_nonneg oM oM,Int.mul_le_mul oM oM oM oM⟩
 obtain⟨n,hn⟩: ∃n:Nat,(2+x.w%4)*(2+x.h%4)=n:=⟨((2+x.w%4)*(2+x.h%4)).toNat,oM⟩
 have hg:qyN x=⟨2+x.w%4,2+x.h%4,2+x.tracks%3,24,qyJ n x.kind⟩:=by unfold qyN;rw[hn,Int.toNat_natCast]
 rw[hn]at hm ⊢
 rw[hg]
 refine⟨⟨oM,oM,oM⟩,⟨oM,oM⟩,⟨oM,oM⟩,⟨oM,oM,oM⟩,⟨oM,oM⟩,⟨oM,oM⟩,⟨oM,oM,oM⟩,⟨oM,oM⟩,⟨oM,oM⟩,⟨oM,oM⟩,?_⟩
 refine qrv (qyK n oM x.kind h5 h6) sC ?_
 refine sB ?_
 exact fun _ _=>trivial
theorem qyP(x:RawG):GOk (qyN x)/\(qyN x).pads=24:=by
 have hm:0<=(2+x.w%4)*(2+x.h%4):=Int.mul_nonneg oM oM
 refine⟨⟨?_,?_,?_,?_,?_⟩,rfl⟩<;>simp only[qyN,qyJ,yG,List.length_range]<;>omega
def wilA(c:Cfg):List (Nat×Arr):=[(211,⟨1,3,ints c.sel⟩),(213,⟨1,3,ints c.mode⟩),(215,⟨1,3,ints c.tab⟩),(217,⟨1,3,ints c.ram⟩)]
def wilV(c:Cfg):List PV:=[.view 211 0 c.sel.length,.view 213 0 c.mode.length,.view 215 0 c.tab.length,.view 217 0 c.ram.length]
def wilS(l:List Int)(g:Grid):St:=⟨[(1,.sl false 1 (qkf l)),(2,.ptr 2 0),(4,.ptr 4 0),(10,.agg (quX false g))],[(2,quX false g),(4,[.nil,.nil,.nil,.nil])],[],[]⟩
theorem qyQ(l:List Int)(g:Grid)(hg:GOk g):FnM (Env.of Tryd.prog) 31 [.agg (quX false g)] (wilS l g) (fun v st' =>v= .agg (wilV (qxc g))/\st' = { wilS l g with a:=wilA (qxc g) }):=by
 have h1:=hg.count
 have h2:=hg.wh
 have h3:=hg.kind
 refine FnM.dropB 201 (FnM.dropB 202 ?_)
 simp only[wilS,push_cast,reduceIte,zA,zB,zC,zD,zE,zF,zG,reduceCtorEq,zH,zJ,cNI]
 refine quf 200 Tryd.func31 ok31_200w (by show 1<=_;decide) rfl (by decide) ?_
 simp only[ac31_200w,rv31_200w,push_cast,reduceIte,zA,zB,zC,zD,zE,zF,zG,reduceCtorEq,zH,zJ,cNI]
 refine⟨oM,?_⟩
 refine qrx (qv7 g hg) sC rfl ?_
 refine sB ?_
 refine⟨oM,oM,oM,oM,?_,?_⟩
 ·simp[wilV,qxc]
  omega
 ·rw[show(g.w*g.h).toNat=g.kind.length by omega]
  simp only[wilA,qxc,List.length_replicate,push_cast,reduceIte,zA,zB,zC,zD,zE,zF,zG,reduceCtorEq,zH,zJ,cNI]
def selW(g:Grid)(c:Cfg)(n b:Int):Cfg:=if 0<((qwb g n).length:Int)then { c with sel:=c.sel.set n.toNat (1+b%((qwb g n).length:Int)) } else c
def qyR(g:Grid)(c:Cfg)(t:Nat)(b:Int):Cfg:=
 if g.kind.getD t 0=0 then c else if b%3=0 then { c with mode:=c.mode.set t 1,tab:=c.tab.set t (100*b),ram:=c.ram.set t 0 }
 else if b%3=1 then { c with mode:=c.mode.set t 2,tab:=c.tab.set t (100*b),ram:=c.ram.set t (b/3) } else c
def qyS(g:Grid)(l:List Int)(c:Cfg)(i:Nat):Cfg:=
 qyR g (selW g c ((7*(i:Int)+l.getD i 0)%(c.sel.length:Int)) (l.getD (i+1) 0)) (l.getD i 0%(g.w*g.h)).toNat (l.getD (i+1) 0)
def qyT(g:Grid)(l:List Int):Nat->Cfg
 |0=>qxc g
 |j+1=>qyS g l (qyT g l j) (2*j)
def qyU(g:Grid)(l:List Int):Cfg:=qyT g l (min (l.length/2) 40)
def CfgLn(g:Grid)(c:Cfg):Prop:=c.sel.length=(qv2 g).toNat/\c.mode.length=g.kind.length/\c.tab.length=g.kind.length/\c.ram.length=g.kind.length
theorem qyV{g:Grid}{c:Cfg}{n b:Int}(h:CfgLn g c):CfgLn g (selW g c n b):=by
 obtain⟨h1,h2,h3,h4⟩:=h
 unfold selW
 split<;>refine⟨?_,?_,?_,?_⟩<;>simp[*]
theorem qyW{g:Grid}{c:Cfg}{t:Nat}{b:Int}(h:CfgLn g c):CfgLn g (qyR g c t b):=by
 obtain⟨h1,h2,h3,h4⟩:=h
 unfold qyR
 split
 ·exact⟨h1,h2,h3,h4⟩
 ·split
  ·refine⟨?_,?_,?_,?_⟩<;>simp[*]
  ·split
   ·refine⟨?_,?_,?_,?_⟩<;>simp[*]
   ·exact⟨h1,h2,h3,h4⟩
theorem qyX{g:Grid}{l:List Int}{c:Cfg}{i:Nat}(h:CfgLn g c):CfgLn g (qyS g l c i):=qyW (qyV h)
theorem qyY(g:Grid)(l:List Int): ∀j,CfgLn g (qyT g l j)
 |0=>by refine⟨?_,?_,?_,?_⟩<;>simp[qyT,qxc]
 |j+1=>qyX (qyY g l j)
set_option maxHeartbeats 4000000 in
theorem qyZ(g:Grid)(hg:GOk g)(l:List Int)(hl:(l.length:Int)<=9223372036854775807)(hb: ∀x∈l,0<=x/\x<=255):FnEq Tryd.prog 12 [.agg (quX false g),.sl false 1 (qkf l)] (.agg (cfgC true (qyU g l))):=by
 have h1:=hg.count
 have h2:=hg.wh
 have h3:=hg.kind
 refine FnEq.of_awp Tryd.func12 ok12w (by show 2<=_;decide) (by simp only[push_cast,reduceIte,zA,zB,zC,zD,zE,zF,zG,reduceCtorEq,zH,zJ,cNI]<;>first|exact fun _ _=>trivial|simp) ?_
 simp only[ac12w,rv12w,push_cast,reduceIte,zA,zB,zC,zD,zE,zF,zG,reduceCtorEq,zH,zJ,cNI]
 refine qsP (qyQ l g hg) ?_
 simp only[wilV,wilA,wilS,push_cast,reduceIte,zA,zB,zC,zD,zE,zF,zG,reduceCtorEq,zH,zJ,cNI]
 refine qoP (fun m st=> ∃j:Nat,j<=min (l.length/2) 40/\m=min (l.length/2) 40-j/\st=⟨[(1,.sl false 1 (qkf l)),(2,.ptr 2 0),(4,.ptr 4 0),(5,.ptr 5 0),(6,.int (2*(j:Int)))],[(2,quX false g),(4,[.nil,.nil,.nil,.nil]),(5,wilV (qyT g l j))],wilA (qyT g l j),[]⟩) (min (l.length/2) 40) ?_ ?_
 ·refine⟨0,oM,oM,?_⟩
  simp only[wilV,wilA,qyT,Int.mul_zero,push_cast,reduceIte,zA,zB,zC,zD,zE,zF,zG,reduceCtorEq,zH,zJ,cNI]
 rintro m st ⟨j,hj,rfl,rfl⟩
 obtain⟨q1,q2,q3,q4⟩:=qyY g l j
 have e0: ∀(l:List Int) (j:Nat),l.getD j default=l.getD j 0:=fun _ _=>rfl
 have hst:qyT g l (j+1)=qyS g l (qyT g l j) (2*j):=rfl
 have hcast:((2*j:Nat):Int)=2*(j:Int):=by omega
 have hF:qyU g l=qyT g l (min (l.length/2) 40):=rfl
 have hba:0<=l.getD (2*j) 0/\l.getD (2*j) 0<=255:=by
  by_cases h:2*j<l.length
  ·exact hb _ (qyD h)
  ·rw[zK,List.getElem?_eq_none oM];decide
 have hbb:0<=l.getD (2*j+1) 0/\l.getD (2*j+1) 0<=255:=by
  by_cases h:2*j+1<l.length
  ·exact hb _ (qyD h)
  ·rw[zK,List.getElem?_eq_none oM];decide
 simp only[wilV,wilA,push_cast,reduceIte,zA,zB,zC,zD,zE,zF,zG,reduceCtorEq,zH,zJ,cNI]
 refine⟨oM,?_⟩
 obtain⟨B,hB⟩: ∃B,B=decide (2*j+1<l.length/\2*j<80):=⟨_,rfl⟩
 refine qrH ⟨[(1,.sl false 1 (qkf l)),(2,.ptr 2 0),(4,.ptr 4 0),(5,.ptr 5 0),(6,.int (2*j)),(20,.bool B)],[(2,quX false g),(4,[.nil,.nil,.nil,.nil]),(5,wilV (qyT g l j))],wilA (qyT g l j),[]⟩ ?_ ?_
 ·refine qrz rfl (fun e1=> ?_) fun e1=> ?_<;>simp only[push_cast,reduceIte,zA,zB,zC,zD,zE,zF,zG,reduceCtorEq,zH,zJ,cNI]
  ·rw[show B=decide (2*(j:Int)<80)from by rw[hB,decide_eq_decide];omega]
   simp only[wilV,wilA,push_cast,reduceIte,zA,zB,zC,zD,zE,zF,zG,reduceCtorEq,zH,zJ,cNI]
  ·rw[show B=false from by rw[hB];exact decide_eq_false oM]
   simp only[wilV,wilA,push_cast,reduceIte,zA,zB,zC,zD,zE,zF,zG,reduceCtorEq,zH,zJ,cNI]
 simp only[wilV,wilA,push_cast,reduceIte,zA,zB,zC,zD,zE,zF,zG,reduceCtorEq,zH,zJ,cNI]
 refine qnX (fun e=> ?_) fun e=> ?_
 rotate_left
 ·rw[hB,decide_eq_false_iff_not]at e
  rw[hF,show min (l.length/2) 40=j by omega]
  exact⟨⟨fun _ _=>trivial,fun _ _=>trivial,fun _ _=>trivial,fun _ _=>trivial⟩,.refl _,.refl _,.refl _,.refl _⟩
 rw[hB,decide_eq_true_eq]at e
 obtain⟨e1,e2⟩:=e
 generalize qyT g l j=c at *
 have ht:(2*(j:Int)).toNat=2*j:=by omega
 have ht1:(2*(j:Int)+1).toNat=2*j+1:=by omega
 have hm:(0<=l.getD (2*j) 0%(g.w*g.h)/\l.getD (2*j) 0%(g.w*g.h)<g.w*g.h):=⟨Int.emod_nonneg _ oM,Int.emod_lt_of_pos _ oM⟩
 rw[qyS,hcast]at hst
 have hn0:0<=(7*(2*(j:Int))+l.getD (2*j) 0)%(c.sel.length:Int)/\(7*(2*(j:Int))+l.getD (2*j) 0)%(c.sel.length:Int)<c.sel.length:=⟨Int.emod_nonneg _ oM,Int.emod_lt_of_pos _ oM⟩
 simp only[e0,ht,ht1,push_cast,reduceIte,zA,zB,zC,zD,zE,zF,zG,reduceCtorEq,zH,zJ,cNI]
 generalize hA:l.getD (2*j) 0=a at *
 generalize hC:l.getD (2*j+1) 0=b at *
 refine⟨oM,oM,oM,oM,oM,oM,?_⟩
 generalize (7*(2*(j:Int))+a)%(c.sel.length:Int)=n at *
 refine qoM (qy9 g hg n oM) ?_
 simp only[e0,ht,ht1,hA,hC,push_cast,reduceIte,zA,zB,zC,zD,zE,zF,zG,reduceCtorEq,zH,zJ,cNI]
 have hdl:=qxu g hg n
 rw[selW]at hst
 generalize (qwb g n).length=k at *
 generalize g.w*g.h=wh at *
 generalize a%wh=t at *
 have next:2*((j:Int)+1)=2*(j:Int)+2:=by omega
 refine qnY (fun hk=> ?_) fun hk=> ?_
 ·rw[if_pos hk]at hst
  have hbk:0<=b%(k:Int)/\b%(k:Int)<k:=⟨Int.emod_nonneg _ oM,Int.emod_lt_of_pos _ oM⟩
  refine⟨oM,oM,oM,oM,oM,oM,oM,oM,oM,oM,oM,oM,oM,oM,oM,?_⟩
  refine qnY (fun h0=> ?_) fun h0=> ?_
  ·refine⟨oM,_,?_,j+1,oM,rfl,?_⟩
   ·omega
   ·rw[hst,qyR,if_pos h0]
    simp only[wilV,wilA,yF,push_cast,reduceIte,zA,zB,zC,zD,zE,zF,zG,reduceCtorEq,zH,zJ,cNI]
    rw[next]
  refine⟨oM,oM,oM,oM,qnY (fun h4=> ?_) fun h4=> ?_⟩
  ·refine⟨oM,oM,oM,oM,oM,oM,oM,oM,oM,oM,oM,?_⟩
   refine⟨oM,_,?_,j+1,oM,rfl,?_⟩
   ·omega
   ·rw[hst,qyR,if_neg h0,if_pos h4]
    simp only[wilV,wilA,yF,push_cast,reduceIte,zA,zB,zC,zD,zE,zF,zG,reduceCtorEq,zH,zJ,cNI]
    rw[next]
  refine⟨oM,oM,oM,oM,qnY (fun h5=> ?_) fun h5=> ?_⟩
  ·refine⟨oM,oM,oM,oM,oM,oM,oM,oM,oM,oM,oM,oM,oM,oM,oM,oM,?_⟩
   refine⟨oM,_,?_,j+1,oM,rfl,?_⟩
   ·omega
   ·rw[hst,qyR,if_neg h0,if_neg h4,if_pos h5]
    simp only[wilV,wilA,yF,push_cast,reduceIte,zA,zB,zC,zD,zE,zF,zG,reduceCtorEq,zH,zJ,cNI]
    rw[next]
  ·refine⟨oM,_,?_,j+1,oM,rfl,?_⟩
   ·omega
   ·rw[hst,qyR,if_neg h0,if_neg h4,if_neg h5]
    simp only[wilV,wilA,yF,push_cast,reduceIte,zA,zB,zC,zD,zE,zF,zG,reduceCtorEq,zH,zJ,cNI]
    rw[next]
 ·rw[if_neg hk]at hst
  refine⟨oM,oM,oM,oM,oM,oM,oM,?_⟩
  refine qnY (fun h0=> ?_) fun h0=> ?_
  ·refine⟨oM,_,?_,j+1,oM,rfl,?_⟩
   ·omega
   ·rw[hst,qyR,if_pos h0]
    simp only[wilV,wilA,yF,push_cast,reduceIte,zA,zB,zC,zD,zE,zF,zG,reduceCtorEq,zH,zJ,cNI]
    rw[next]
  refine⟨oM,oM,oM,oM,qnY (fun h4=> ?_) fun h4=> ?_⟩
  ·refine⟨oM,oM,oM,oM,oM,oM,oM,oM,oM,oM,oM,?_⟩
   refine⟨oM,_,?_,j+1,oM,rfl,?_⟩
   ·omega
   ·rw[hst,qyR,if_neg h0,if_pos h4]
    simp only[wilV,wilA,yF,push_cast,reduceIte,zA,zB,zC,zD,zE,zF,zG,reduceCtorEq,zH,zJ,cNI]
    rw[next]
  refine⟨oM,oM,oM,oM,qnY (fun h5=> ?_) fun h5=> ?_⟩
  ·refine⟨oM,oM,oM,oM,oM,oM,oM,oM,oM,oM,oM,oM,oM,oM,oM,oM,?_⟩
   refine⟨oM,_,?_,j+1,oM,rfl,?_⟩
   ·omega
   ·rw[hst,qyR,if_neg h0,if_neg h4,if_pos h5]
    simp only[wilV,wilA,yF,push_cast,reduceIte,zA,zB,zC,zD,zE,zF,zG,reduceCtorEq,zH,zJ,cNI]
    rw[next]
  ·refine⟨oM,_,?_,j+1,oM,rfl,?_⟩
   ·omega
   ·rw[hst,qyR,if_neg h0,if_neg h4,if_neg h5]
    simp only[wilV,wilA,yF,push_cast,reduceIte,zA,zB,zC,zD,zE,zF,zG,reduceCtorEq,zH,zJ,cNI]
    rw[next]
theorem qz0(l:List Int)(i j:Nat)(v:Int):(l.set i v).getD j 0=if i=j/\i<l.length then v else l.getD j 0:=by
 rw[zK,List.getElem?_set,zK]
 by_cases h:i=j
 ·subst h
  by_cases h2:i<l.length<;>simp[h2]
 ·simp[h]
theorem qz1{g:Grid}{c:Cfg}{n b:Int}(hn:0<=n)(h: ∀i,i<c.sel.length->qys g c i): ∀i,i<c.sel.length->qys g (selW g c n b) i:=by
 intro i hi
 unfold selW
 split
 ·rename_i hk
  have hbk:0<=b%((qwb g n).length:Int)/\b%((qwb g n).length:Int)<((qwb g n).length:Int):=⟨Int.emod_nonneg _ oM,Int.emod_lt_of_pos _ oM⟩
  unfold qys
  simp only
  rw[qz0]
  by_cases e:n.toNat=i/\n.toNat<c.sel.length
  ·rw[if_pos e]
   intro _
   rw[show((i:Nat):Int)=n by omega]
   omega
  ·rw[if_neg e]
   exact h i hi
 ·exact h i hi
theorem qz2(g:Grid)(c:Cfg)(t:Nat)(b:Int):(qyR g c t b).sel=c.sel:=by
 unfold qyR
 split
 ·rfl
 ·split
  ·rfl
  ·split<;>rfl
theorem qz3{g:Grid}(hg:GOk g)(l:List Int): ∀j,∀i,i<(qyT g l j).sel.length->qys g (qyT g l j) i
 |0=>fun i hi h=>absurd (by simp[qyT,qxc,List.getElem?_replicate]at hi ⊢;split<;>rfl) h
 | j + 1 => fun i hi => by
   have h1:=hg.count
   have h2:=(qyY g l j).1
   have h3:=(qyY g l (j+1)).1
   have hn:=Int.emod_nonneg (7*((2*j:Nat):Int)+l.getD (2*j) 0) (show((qyT g l j).sel.length:Int)≠0 by omega)
   have:=qz1 (b:=l.getD (2*j+1) 0) hn (qz3 hg l j) i oM
   unfold qys at this ⊢
   show(qyR _ _ _ _).sel.getD _ _≠0->_
   rw[qz2]
   intro h4
   show 1<=(qyR _ _ _ _).sel.getD _ _/\(qyR _ _ _ _).sel.getD _ _<=_
   rw[qz2]
   exact this h4
theorem qz4{g:Grid}(hg:GOk g)(l:List Int):SelsOk g (qyU g l):=⟨(qyY g l _).1,qz3 hg l _⟩
structure RawG.By (x:RawG):Prop where
 w:0<=x.w/\x.w<=255
 h:0<=x.h/\x.h<=255
 tracks:0<=x.tracks/\x.tracks<=255
 pads:0<=x.pads/\x.pads<=255
 len:(x.kind.length:Int)<=9223372036854775807
 kind: ∀k∈x.kind,0<=k/\k<=255
theorem RawG.By.ok{x:RawG}(h:x.By):x.Ok:=⟨h.w,h.h,h.tracks,h.pads,h.len,h.kind⟩
def qzk(l:List Int):List PV:=l.map fun n=> .sc (.int .u8 n)
def qzl:List Ty:=[.i .u8,.i .u8,.i .u8,.i .u8,.sl 1 [.i .u8]]
theorem qzm{a:List PV}(h:RowV [] a):a=[]:=List.length_eq_zero_iff.1 h.1
theorem qmu{t:Ty}{ts:List Ty}{a:List PV}(h:RowV (t::ts) a): ∃c r,a=c::r/\qrM t c/\RowV ts r:=by
 obtain⟨h1,h2⟩:=h
 cases a with
 |nil=>cases h1
 |cons c r=>exact⟨c,r,rfl,h2 0 t c rfl rfl,by simpa using h1,fun j t' c' ht hc=>h2 (j+1) t' c' ht hc⟩
theorem qzn{k:IntKind}{c:PV}(h:qrM (.i k) c): ∃n:Int,c= .sc (.int k n)/\k.min<=n/\n<=k.max:=by
 cases h with|i k n h1 h2=>exact⟨n,rfl,h1,h2⟩
theorem qzo{c:PV}(h:qrM (.i .u8) c): ∃n:Int,c= .sc (.int .u8 n)/\0<=n/\n<=255:=by
 obtain⟨n,h1,h2,h3⟩:=qzn h
 exact⟨n,h1,h2,h3⟩
theorem qzq{es:Nat}{ts:List Ty}{c:PV}(h:qrM (.sl es ts) c): ∃rs:List (List PV),c= .sl true es rs/\rs.length<=maxLen/\ ∀r∈rs,RowV ts r:=by
 cases h with|sl es ts rs h1 h2 h3=>exact⟨rs,rfl,h1,fun r hr=>⟨h2 r hr,h3 r hr⟩⟩
theorem qzr{α:Type}{f:α->List PV}{Q:α->Prop} : ∀ {rs:List (List PV)},(∀r∈rs,∃x,r=f x/\Q x)-> ∃l:List α,rs=rows f l/\ ∀x∈l,Q x
 |[],_=>⟨[],rfl,fun x hx=>by cases hx⟩
 | r :: rs, h => by
   obtain⟨x,rfl,hx⟩:=h r (by simp)
   obtain⟨l,rfl,hl⟩:=qzr (f:=f) (Q:=Q) (rs:=rs) fun r hr=>h r (by simp[hr])
   refine⟨x::l,rfl,fun y hy=> ?_⟩
   rcases List.mem_cons.1 hy with rfl|hy
   ·exact hx
   ·exact hl y hy
theorem qzs{c:PV}(h:qrM (.sl 1 [.i .u8]) c): ∃l:List Int,c= .sl true 1 (qkf l)/\(l.length:Int)<=9223372036854775807/\ ∀b∈l,0<=b/\b<=255:=by
 obtain⟨rs,rfl,h1,h2⟩:=qzq h
 obtain⟨l,rfl,hl⟩:=qzr (f:=fun x:Int=>[PV.sc (.int .u8 x)]) (Q:=fun b=>0<=b/\b<=255) (rs:=rs) fun r hr=>by
  obtain⟨c,q,rfl,hc,h3⟩:=qmu (h2 r hr)
  obtain⟨n,rfl,hn⟩:=qzo hc
  rw[qzm h3]
  exact⟨n,rfl,hn⟩
 simp only[rows,yG]at h1
 have:maxLen=9223372036854775807:=rfl
 exact⟨l,rfl,oM,hl⟩
theorem qzu: ∀ {n:Nat} {a:List PV},RowV (List.replicate n (.i .u8)) a-> ∃l:List Int,a=qzk l/\l.length=n/\ ∀b∈l,0<=b/\b<=255
 |0,a,h=>⟨[],by rw[qzm h];rfl,rfl,fun b hb=>by cases hb⟩
 | n + 1, a, h => by
   obtain⟨c,q,rfl,hc,h3⟩:=qmu h
   obtain⟨x,rfl,hx⟩:=qzo hc
   obtain⟨l,rfl,h1,h2⟩:=qzu (n:=n) h3
   refine⟨x::l,rfl,by simp[h1],fun y hy=> ?_⟩
   rcases List.mem_cons.1 hy with rfl|hy
   ·exact hx
   ·exact h2 y hy
theorem qzv{a:List PV}(h:RowV qzl a): ∃x:RawG,x.By/\a=qyL true x:=by
 obtain⟨c0,a0,rfl,h0,k0⟩:=qmu h
 obtain⟨c1,a1,rfl,h1,k1⟩:=qmu k0
 obtain⟨c2,a2,rfl,h2,k2⟩:=qmu k1
 obtain⟨c3,a3,rfl,h3,k3⟩:=qmu k2
 obtain⟨c4,a4,rfl,h4,k4⟩:=qmu k3
 obtain⟨n0,rfl,b0⟩:=qzo h0
 obtain⟨n1,rfl,b1⟩:=qzo h1
 obtain⟨n2,rfl,b2⟩:=qzo h2
 obtain⟨n3,rfl,b3⟩:=qzo h3
 obtain⟨l,rfl,hn,hl⟩:=qzs h4
 rw[qzm k4]
 exact⟨⟨n0,n1,n2,n3,l⟩,⟨b0,b1,b2,b3,hn,hl⟩,rfl⟩
theorem okSl{P:Program}{W:World}{base:Nat}{t e:TypeId}{v:Value}(hu:P.underlying t=some (.slice e))(h:Value.okWide P W .any base t v):v.cells= #[v]:=by
 unfold Value.okWide Cell.okWide Cell.ok at h
 rw[hu]at h
 cases v<;>first
  |rfl
  |(simp only at h)
end Go.Proofs.YtecoaapkcnhlhaaDoor
namespace Go.Proofs.YtecoaapkcnhlhaaDoor.Txt
open Go Go.Vc
set_option maxRecDepth 100000
def ac37:AC:=
 (.seq (.reg [0,35,0] [
 (aO 2 (.mv (kI 0)))])
 (.seq (.reg [0,35,0] [
 (aO 3 (.mv (.t 0))),(aO 4 (.shf .shr .u64 (.t 3) (.c (.sc (.int .u64 1))))),(aO 5 (.bit .and .u64 (.t 4) (.c (.sc (.int .u64 6148914691236517205))))),(aO 6 (.mv (.t 0))),(aO 7 (.bit .and .u64 (.t 6) (.c (.sc (.int .u64 6148914691236517205))))),(aO 8 (.ari .add false .u64 (.t 5) (.t 7))),(aO 0 (.mv (.t 8)))])
 (.seq (.reg [0,35,0] [
 (aO 9 (.mv (.t 0))),(aO 10 (.shf .shr .u64 (.t 9) (.c (.sc (.int .u64 2))))),(aO 11 (.bit .and .u64 (.t 10) (.c (.sc (.int .u64 3689348814741910323))))),(aO 12 (.mv (.t 0))),(aO 13 (.bit .and .u64 (.t 12) (.c (.sc (.int .u64 3689348814741910323))))),(aO 14 (.ari .add false .u64 (.t 11) (.t 13))),(aO 0 (.mv (.t 14)))])
 (.seq (.reg [0,35,0] [
 (aO 15 (.mv (.t 0))),(aO 16 (.shf .shr .u64 (.t 15) (.c (.sc (.int .u64 4))))),(aO 17 (.mv (.t 0))),(aO 18 (.ari .add false .u64 (.t 16) (.t 17))),(aO 19 (.bit .and .u64 (.t 18) (.c (.sc (.int .u64 1085102592571150095))))),(aO 0 (.mv (.t 19)))])
 (.seq (.reg [0,35,0] [
 (aO 20 (.mv (.t 0))),(aO 21 (.mv (.t 0))),(aO 22 (.shf .shr .u64 (.t 21) (.c (.sc (.int .u64 8))))),(aO 23 (.ari .add false .u64 (.t 20) (.t 22))),(aO 0 (.mv (.t 23)))])
 (.seq (.reg [0,35,0] [
 (aO 24 (.mv (.t 0))),(aO 25 (.mv (.t 0))),(aO 26 (.shf .shr .u64 (.t 25) (.c (.sc (.int .u64 16))))),(aO 27 (.ari .add false .u64 (.t 24) (.t 26))),(aO 0 (.mv (.t 27)))])
 (.seq (.reg [0,35,0] [
 (aO 28 (.mv (.t 0))),(aO 29 (.mv (.t 0))),(aO 30 (.shf .shr .u64 (.t 29) (.c (.sc (.int .u64 32))))),(aO 31 (.ari .add false .u64 (.t 28) (.t 30))),(aO 0 (.mv (.t 31)))])
 (.seq (.reg [0,35,0] [
 (aO 32 (.mv (.t 0))),(aO 33 (.cnv true .i64 (.t 32))),(aO 34 (.bit .and .i64 (.t 33) (kI 127))),(aO 2 (.mv (.t 34)))])
 .ret))))))))
def rv37:List RV:=[.tmp 2]
theorem ok37:fnOk Tryd.prog ac37 rv37 Tryd.f37=true:=by kernel_rfl

def ac38:AC:=
 (.seq (.reg [0,15,0] [
 (aO 2 (.mv (kI 0)))])
 (.seq (.reg [0,15,0] [
 (aO 3 (.mv (kI 0)))])
 (.seq (.block 0
 (.loop [0,15,0,3]
 (.seq (.seq (.reg [0,15,0,3] [
 (aO 4 (.mv (.t 0))),(aO 5 (.cmp .neq .u64 (.t 4) (.c (.sc (.int .u64 0)))))])
 (.cond (.t 5)
 .skip
 (.exit 0)))
 (.seq (.block 1
 (.reg [0,15,0,3] [
 (aO 10 (.mv (.t 3))),(aO 11 (.mv (.t 0))),(aO 12 (.cal 58 [(.t 11)])),(aO 13 (.bit .xor .i64 (.t 10) (.t 12))),(aO 3 (.mv (.t 13)))]))
 (.reg [0,15,0,3] [
 (aO 6 (.mv (.t 0))),(aO 7 (.mv (.t 0))),(aO 8 (.ari .sub false .u64 (.t 7) (.c (.sc (.int .u64 1))))),(aO 9 (.bit .and .u64 (.t 6) (.t 8))),(aO 0 (.mv (.t 9)))])))))
 (.seq (.reg [0,15,3] [
 (aO 14 (.mv (.t 3))),(aO 2 (.mv (.t 14)))])
 .ret))))
def rv38:List RV:=[.tmp 2]
theorem ok38:fnOk Tryd.prog ac38 rv38 Tryd.f38=true:=by kernel_rfl

def ac17:AC:=
 (.seq (.reg [0,12,0] [
 (aO 2 (.mv (kI 0)))])
 (.seq (.block 0
 (.seq (.reg [0,12,0] [
 (aO 4 (.mv (.t 0))),(aO 5 (.cal 37 [(.t 4)])),(aO 6 (.dvd .rem true .i64 (.t 5) (kI 2))),(aO 7 (.cmp .eql .i64 (.t 6) (kI 1))),(aO 3 (.mv (.t 7)))])
 (.cond (.t 3)
 (.seq (.reg [0,12] [
 (aO 2 (.mv (kI 1)))])
 .ret)
 (.seq (.reg [0,12,0] [
 (aO 9 (.mv (.t 0))),(aO 10 (.cal 38 [(.t 9)])),(aO 11 (.cmp .neq .i64 (.t 10) (kI 0))),(aO 8 (.mv (.t 11)))])
 (.cond (.t 8)
 (.seq (.reg [0,12] [
 (aO 2 (.mv (kI 2)))])
 .ret)
 .skip)))))
 (.seq (.reg [0,12] [
 (aO 2 (.mv (kI 0)))])
 .ret)))
def rv17:List RV:=[.tmp 2]
theorem ok17:fnOk Tryd.prog ac17 rv17 Tryd.f17=true:=by kernel_rfl

def ac46:AC:=
 (.seq (.reg [0,16,0,1] [
 (aO 4 (.mv (.c (.sc (.int .u64 0)))))])
 (.seq (.seq (.reg [0,16,0,1] [
 (aO 5 (.mv (.t 1))),(aO 6 (.cmp .lss .i64 (.t 5) (kI 0))),(aO 7 (.mv (.t 6))),⟨some 8,some (7,false),.mv (.t 1)⟩,⟨some 9,some (7,false),.cmp .gtr .i64 (.t 8) (kI 63)⟩,(aO 10 (.pick (.t 7) (.c (.sc (.bool true))) (.t 9)))])
 (.cut [0,16,0,1,10] (.cond (.t 10)
 (.seq (.reg [0,16,0] [
 (aO 11 (.mv (.t 0))),(aO 4 (.mv (.t 11)))])
 .ret)
 .skip)))
 (.seq (.reg [0,16,0,1] [
 (aO 12 (.mv (.t 0))),(aO 13 (.mv (.t 1))),(aO 14 (.shf .shl .u64 (.c (.sc (.int .u64 1))) (.t 13))),(aO 15 (.bit .xor .u64 (.t 12) (.t 14))),(aO 4 (.mv (.t 15)))])
 .ret)))
def rv46:List RV:=[.tmp 4]
theorem ok46:fnOk Tryd.prog ac46 rv46 Tryd.f46=true:=by kernel_rfl

def ac47_200:AC:=
 (.seq (.reg [200,20,200] [
 (aO 202 (.mv (kI 0)))])
 (.seq (.reg [200,20,200,202] [
 (aO 203 (.mv (kI 3)))])
 (.block 0
 (.lps [200,20,200,202,203]
 (.seq (.seq (.reg [200,20,200,202,203] [
 (aO 204 (.mv (.t 203))),(aO 205 (.cmp .lss .i64 (.t 204) (kI 64)))])
 (.cond (.t 205)
 .skip
 (.exit 0)))
 (.seq (.block 1
 (.seq (.seq (.reg [200,20,200,202,203] [
 (aO 208 (.mv (.t 203))),(aO 209 (.mv (.t 203))),(aO 210 (.ari .sub true .i64 (.t 209) (kI 1))),(aO 211 (.bit .and .i64 (.t 208) (.t 210))),(aO 212 (.cmp .eql .i64 (.t 211) (kI 0)))])
 (.cond (.t 212)
 (.exit 1)
 .skip))
 (.seq (.seq (.reg [200,20,200,202,203] [
 (aO 213 (.mv (.t 200))),(aO 214 (.mv (.t 202))),(aO 215 (.mv (.t 203))),(aO 216 (.clv (.t 213) [(.t 214),(.t 215)])),(aO 217 (.not (.t 216)))])
 (.cond (.t 217)
 .ret
 .skip))
 (.reg [200,20,200,202,203] [
 (aO 218 (.mv (.t 202))),(aO 219 (.ari .add true .i64 (.t 218) (kI 1))),(aO 202 (.mv (.t 219)))]))))
 (.reg [200,20,200,202,203] [
 (aO 206 (.mv (.t 203))),(aO 207 (.ari .add true .i64 (.t 206) (kI 1))),(aO 203 (.mv (.t 207)))])))))))
def rv47_200:List RV:=[]
theorem ok47_200:qh6 Tryd.prog 200 ac47_200 rv47_200 Tryd.f47=true:=by kernel_rfl

def ac48_2000:AC:=
 (.drw [2000,7,2000,2001] [
 (eT 2003 (.ld false 1 (.t 2001))),(eT 2004 (.mv (.t 2000))),(eT 2005 (.shf .shl .u64 (.c (.sc (.int .u64 1))) (.t 2004))),(eF 2006 (.bit .or .u64 (.t 2003) (.t 2005))),⟨(aN (.sto 1 (.t 2001) (.t 2006))),[],[],false⟩])
def rv48_2000:List RV:=[]
theorem ok48_2000:qh6 Tryd.prog 2000 ac48_2000 rv48_2000 Tryd.f48=true:=by kernel_rfl

def ac26:AC:=
 (.seq (.reg [0,43,0] [
 (aO 1 (.box (.t 0))),(aO 2 (.mv (.c (.sc (.int .u64 0))))),(aO 3 (.mv (kI 0)))])
 (.seq (.seq (.reg [0,43,1] [
 (aO 10 (.ld false 1 (.t 1))),(aO 11 (.cmp .geq .u64 (.t 10) (.c (.sc (.int .u64 144115188075855872)))))])
 (.cond (.t 11)
 (.seq (.reg [0,43] [
 (aO 2 (.mv (.c (.sc (.int .u64 0))))),(aO 3 (.mv (kI 1)))])
 .ret)
 .skip))
 (.seq (.reg [0,43,1] [
 (aO 4 (.alc [.sc (.int .u64 0)]))])
 (.seq (.reg [0,43,1,4] [
 (aO 12 (.mkf 48 [(.t 4)])),(aO 5 (.alc [.sc .nilFunc])),(aN (.sto 1 (.t 5) (.t 12)))])
 (.seq (.block 0
 (.rngf ⟨(.c (.sc (.func (.func 47) #[] #[]))),0,43,1000,[0,43,1,4,5],999⟩ [1013,1014]
 (.seq (.reg [1000,43,1001,1005,1013,1014] [
 (aO 1006 (.mv (.t 1013)))])
 (.reg [1000,43,1001,1005,1006,1014] [
 (aO 1007 (.mv (.t 1014)))]))
 (.block 1
 (.seq (.reg [1000,43,1001,1005,1006,1007] [
 (aO 1015 (.ld false 1 (.t 1001))),(aO 1016 (.mv (.t 1006))),(aO 1017 (.shf .shr .u64 (.t 1015) (.t 1016))),(aO 1018 (.bit .and .u64 (.t 1017) (.c (.sc (.int .u64 1))))),(aO 1019 (.cmp .eql .u64 (.t 1018) (.c (.sc (.int .u64 1)))))])
 (.cond (.t 1019)
 (.reg [1000,43,1005,1007] [
 (aO 1020 (.ld false 1 (.t 1005))),(aO 1021 (.mv (.t 1007))),(aO 1022 (.clv (.t 1020) [(.t 1021)]))])
 .skip)))))
 (.seq (.reg [0,43,4,5] [
 (aO 23 (.ld false 1 (.t 4))),(aO 24 (.cal 38 [(.t 23)])),(aO 8 (.mv (.t 24)))])
 (.seq (.seq (.reg [0,43,4,5,8] [
 (aO 9 (.mv (kI 1)))])
 (.block 2
 (.loop [0,43,4,5,8,9]
 (.seq (.seq (.reg [0,43,4,5,8,9] [
 (aO 25 (.mv (.t 9))),(aO 26 (.cmp .lss .i64 (.t 25) (kI 64)))])
 (.cond (.t 26)
 .skip
 (.exit 2)))
 (.seq (.block 3
 (.seq (.reg [0,43,4,5,8,9] [
 (aO 29 (.mv (.t 8))),(aO 30 (.mv (.t 9))),(aO 31 (.bit .and .i64 (.t 29) (.t 30))),(aO 32 (.cmp .neq .i64 (.t 31) (kI 0)))])
 (.cond (.t 32)
 (.reg [0,43,4,5,8,9] [
 (aO 33 (.ld false 1 (.t 5))),(aO 34 (.mv (.t 9))),(aO 35 (.clv (.t 33) [(.t 34)]))])
 .skip)))
 (.reg [0,43,4,5,8,9] [
 (aO 27 (.mv (.t 9))),(aO 28 (.ari .mul true .i64 (.t 27) (kI 2))),(aO 9 (.mv (.t 28)))]))))))
 (.seq (.seq (.reg [0,43,4,5] [
 (aO 36 (.ld false 1 (.t 4))),(aO 37 (.cal 37 [(.t 36)])),(aO 38 (.dvd .rem true .i64 (.t 37) (kI 2))),(aO 39 (.cmp .eql .i64 (.t 38) (kI 1)))])
 (.cond (.t 39)
 (.reg [0,43,4,5] [
 (aO 40 (.ld false 1 (.t 5))),(aO 41 (.clv (.t 40) [(kI 0)]))])
 .skip))
 (.seq (.reg [0,43,4] [
 (aO 42 (.ld false 1 (.t 4))),(aO 2 (.mv (.t 42))),(aO 3 (.mv (kI 0)))])
 .ret)))))))))
def rv26:List RV:=[.tmp 2,.tmp 3]
theorem ok26:fnOk Tryd.prog ac26 rv26 Tryd.f26=true:=by kernel_rfl

def ac25_r6:AC:=
 (.seq (.reg [0,31,1,5] [
 (aO 6 (.alc [.sc (.int .u64 0)]))])
 (.seq (.block 0
 (.rngf ⟨(.c (.sc (.func (.func 47) #[] #[]))),0,31,1000,[0,31,1,5,6],999⟩ [1019,1020]
 (.seq (.reg [1000,31,1001,1006,1019,1020] [
 (aO 1007 (.mv (.t 1019)))])
 (.reg [1000,31,1001,1006,1007,1020] [
 (aO 1008 (.mv (.t 1020)))]))
 (.block 1
 (.drw [1000,31,1001,1006,1007,1008] [
 (eT 1021 (.ld false 1 (.t 1006))),(eT 1022 (.ld false 1 (.t 1001))),(eT 1023 (.mv (.t 1008))),(eT 1024 (.shf .shr .u64 (.t 1022) (.t 1023))),(eT 1025 (.bit .and .u64 (.t 1024) (.c (.sc (.int .u64 1))))),(eT 1026 (.mv (.t 1007))),(eT 1027 (.shf .shl .u64 (.t 1025) (.t 1026))),(eF 1028 (.bit .or .u64 (.t 1021) (.t 1027))),⟨(aN (.sto 1 (.t 1006) (.t 1028))),[],[],false⟩]))))
 (.seq (.reg [0,31,5,6] [
 (aO 29 (.ld false 1 (.t 6))),(aO 30 (.mv (.t 5))),(aO 2 (.mv (.t 29))),(aO 3 (.mv (.t 30))),(aO 4 (.mv (kI 0)))])
 .ret)))
def ac25:AC:=
 (.seq (.reg [0,31,0] [
 (aO 1 (.box (.t 0))),(aO 2 (.mv (.c (.sc (.int .u64 0))))),(aO 3 (.mv (kI 0))),(aO 4 (.mv (kI 0)))])
 (.seq (.reg [0,31,1] [
 (aO 9 (.ld false 1 (.t 1))),(aO 10 (.cal 17 [(.t 9)])),(aO 5 (.mv (.t 10)))])
 (.seq (.seq (.reg [0,31,1,5] [
 (aO 11 (.mv (.t 5))),(aO 12 (.cmp .eql .i64 (.t 11) (kI 2)))])
 (.cond (.t 12)
 (.seq (.reg [0,31] [
 (aO 2 (.mv (.c (.sc (.int .u64 0))))),(aO 3 (.mv (kI 0))),(aO 4 (.mv (kI 6)))])
 .ret)
 .skip))
 (.seq (.seq (.reg [0,31,1,5] [
 (aO 13 (.mv (.t 5))),(aO 14 (.cmp .eql .i64 (.t 13) (kI 1)))])
 (.cond (.t 14)
 (.drw [0,31,1,5] [
 (eT 15 (.ld false 1 (.t 1))),(eT 16 (.ld false 1 (.t 1))),(eT 17 (.cal 38 [(.t 16)])),(eF 18 (.cal 46 [(.t 15),(.t 17)])),⟨(aN (.sto 1 (.t 1) (.t 18))),[],[],false⟩])
 .skip))
 ac25_r6))))
def rv25:List RV:=[.tmp 2,.tmp 3,.tmp 4]
theorem ok25:fnOk Tryd.prog ac25 rv25 Tryd.f25=true:=by kernel_rfl
end Go.Proofs.YtecoaapkcnhlhaaDoor.Txt
namespace Go.Ham
def syn(w:Nat):Nat->Nat
 |0=>0
 |n+1=>if w.testBit n then syn w n^^^n else syn w n
def ons(w:Nat):Nat->Nat
 |0=>0
 |n+1=>ons w n+(w.testBit n).toNat
theorem qzy: ∀n,syn 0 n=0
 |0=>rfl
 |n+1=>by simp[syn,qzy n]
theorem xor3(a b n:Nat):a^^^n^^^b=a^^^b^^^n:=by rw[Nat.xor_assoc,Nat.xor_comm n b,<- Nat.xor_assoc]
theorem qzz(w v:Nat): ∀n,syn (w^^^v) n=syn w n^^^syn v n
 |0=>by simp[syn]
 | n + 1 => by
   simp only[syn,Nat.testBit_xor,qzz w v n]
   cases w.testBit n<;>cases v.testBit n<;>simp
   ·rw[Nat.xor_assoc]
   ·rw[xor3]
   ·rw[<- Nat.xor_assoc,xor3 _ _ n,Nat.xor_assoc _ n n];simp
theorem qzA(w v:Nat): ∀n,ons (w^^^v) n%2=(ons w n+ons v n)%2
 |0=>rfl
 | n + 1 => by
   have:=qzA w v n
   simp only[ons,Nat.testBit_xor]
   cases w.testBit n<;>cases v.testBit n<;>simp<;>omega
theorem qzB(i:Nat): ∀n,syn (2^i) n=if i<n then i else 0
 |0=>rfl
 | n + 1 => by
   simp only[syn,Nat.testBit_two_pow,qzB i n,decide_eq_true_eq]
   by_cases h:i=n
   ·subst h;simp
   ·by_cases h2:i<n
    ·simp[h,h2,Nat.lt_succ_of_lt h2]
    ·have: ¬i<n+1:=by omega
     simp[h,h2,this]
theorem qzC(i:Nat): ∀n,ons (2^i) n=if i<n then 1 else 0
 |0=>rfl
 | n + 1 => by
   simp only[ons,Nat.testBit_two_pow,qzC i n]
   by_cases h:i=n
   ·subst h;simp
   ·by_cases h2:i<n
    ·simp[h,h2,Nat.lt_succ_of_lt h2]
    ·have: ¬i<n+1:=by omega
     simp[h,h2,this]
theorem qzD(w:Nat): ∀n,n<=64->syn w n<64
 |0,_=>by simp[syn]
 | n + 1, h => by
   have h1:syn w n<2^6:=qzD w n (by omega)
   simp only[syn]
   split
   ·exact Nat.xor_lt_two_pow h1 (show n<2^6 by omega)
   ·exact h1
def plc:List (Nat×Nat):=(List.range 57).zip [3,5,6,7,9,10,11,12,13,14,15,17,18,19,20,21,22,23,24,25,26,27,28,29,30,31,33,34,35,36,37,38,39,40,41,42,43,44,45,46,47,48,49,50,51,52,53,54,55,56,57,58,59,60,61,62,63]
def sctL(d:Nat)(l:List (Nat×Nat)):Nat:=l.foldl (fun w x=>if d.testBit x.1 then w|||2^x.2 else w) 0
def gatL(w:Nat)(l:List (Nat×Nat)):Nat:=l.foldl (fun d x=>if w.testBit x.2 then d|||2^x.1 else d) 0
def sct(d:Nat):Nat:=sctL d plc
def gat(w:Nat):Nat:=gatL w plc
def prt(w s:Nat):Nat:=(List.range 6).foldl (fun w k=>if s.testBit k then w|||2^(2^k)else w) w
def fin(w:Nat):Nat:=if ons w 64%2=1 then w|||1 else w
def encW(d:Nat):Nat:=fin (prt (sct d) (syn (sct d) 64))
def chkW(w:Nat):Nat:=if ons w 64%2=1 then 1 else if syn w 64≠0 then 2 else 0
theorem qzE{α:Type}(c:α->Bool)(e:α->Nat)(p:Nat): ∀(l:List α) (w:Nat),(l.foldl (fun w x=>if c x then w|||2^e x else w) w).testBit p=(w.testBit p||l.any fun x=>c x&&decide (e x=p))
 |[],w=>by simp
 | x :: l, w => by
   rw[List.foldl_cons,qzE c e p l,List.any_cons]
   cases h:c x<;>simp[Nat.testBit_or,Nat.testBit_two_pow,Bool.or_assoc]
theorem qzF(d p:Nat):(sct d).testBit p=plc.any fun x=>d.testBit x.1&&decide (x.2=p):=by
 unfold sct sctL;rw[qzE (fun x:Nat×Nat=>d.testBit x.1) (fun x=>x.2)];simp
theorem qzG(w p:Nat):(gat w).testBit p=plc.any fun x=>w.testBit x.2&&decide (x.1=p):=by
 unfold gat gatL;rw[qzE (fun x:Nat×Nat=>w.testBit x.2) (fun x=>x.1)];simp
theorem qzH:plc.all (fun x=>plc.all fun y=>(decide (x.1=y.1))==decide (x.2=y.2))=true:=by decide+kernel
theorem qzI:(List.range 57).all (fun i=>plc.any fun x=>decide (x.1=i))=true:=by decide+kernel
theorem qzJ:plc.all (fun x=>decide (x.1<57)&&decide (x.2<64)&&decide (x.2≠0)&&(List.range 6).all fun k=>decide (x.2≠2^k))=true:=by decide+kernel
theorem qzK:(List.range 64).all (fun p=>decide (p=0)||(List.range 6).any (fun k=>decide (p=2^k))||plc.any fun x=>decide (x.2=p))=true:=by decide+kernel
theorem inj1{x y:Nat×Nat}(hx:x∈plc)(hy:y∈plc):x.1=y.1 ↔ x.2=y.2:=by
 have:=yE.1 (yE.1 qzH x hx) y hy
 simpa using this
theorem qzL{x:Nat×Nat}(hx:x∈plc):x.1<57/\x.2<64/\x.2≠0/\ ∀k,k<6->x.2≠2^k:=by
 have:=yE.1 qzJ x hx
 simp only[zN,decide_eq_true_eq,yE,List.mem_range]at this
 exact⟨this.1.1.1,this.1.1.2,this.1.2,this.2⟩
theorem qzM(d:Nat){x:Nat×Nat}(hx:x∈plc):(sct d).testBit x.2=d.testBit x.1:=by
 rw[qzF]
 cases h:d.testBit x.1
 ·rw[yD]
  intro y hy
  by_cases e:y.2=x.2
  ·rw[(inj1 hy hx).2 e];simp[h]
  ·simp[e]
 ·rw[List.any_eq_true]
  exact⟨x,hx,by simp[h]⟩
theorem qzN(w:Nat){x:Nat×Nat}(hx:x∈plc):(gat w).testBit x.1=w.testBit x.2:=by
 rw[qzG]
 cases h:w.testBit x.2
 ·rw[yD]
  intro y hy
  by_cases e:y.1=x.1
  ·rw[(inj1 hy hx).1 e];simp[h]
  ·simp[e]
 ·rw[List.any_eq_true]
  exact⟨x,hx,by simp[h]⟩
theorem qzO(d p:Nat)(h: ∀x∈plc,x.2≠p):(sct d).testBit p=false:=by
 rw[qzF,yD]
 intro x hx
 simp[h x hx]
theorem qzP(w:Nat):gat w<2^57:=by
 apply Nat.lt_pow_two_of_testBit
 intro i hi
 rw[qzG,yD]
 intro x hx
 have:=(qzL hx).1
 have:x.1≠i:=by omega
 simp[this]
theorem qzQ{a b:Nat}(ha:a<2^57)(hb:b<2^57)(h: ∀x∈plc,a.testBit x.1=b.testBit x.1):a=b:=by
 apply Nat.eq_of_testBit_eq
 intro i
 by_cases hi:i<57
 ·have:=yE.1 qzI i (List.mem_range.2 hi)
  obtain⟨x,hx,hxi⟩:=List.any_eq_true.1 this
  have hxi:x.1=i:=by simpa using hxi
  rw[<- hxi];exact h x hx
 ·have e:2^57<=2^i:=Nat.pow_le_pow_right (by decide) (by omega)
  rw[Nat.testBit_lt_two_pow (by omega),Nat.testBit_lt_two_pow (by omega)]
theorem qzR{w d:Nat}(hd:d<2^57)(h: ∀x∈plc,w.testBit x.2=d.testBit x.1):gat w=d:=
 qzQ (qzP w) hd fun x hx=>by rw[qzN w hx,h x hx]
theorem qzS(w s p:Nat):(prt w s).testBit p=(w.testBit p||(List.range 6).any fun k=>s.testBit k&&decide (2^k=p)):=by
 unfold prt;exact qzE (fun k=>s.testBit k) (fun k=>2^k) p _ w
theorem qzT: ∀s,s<64->syn (prt 0 s) 64=s:=by
 have:(List.range 64).all (fun s=>decide (syn (prt 0 s) 64=s))=true:=by decide+kernel
 intro s hs
 simpa using yE.1 this s (List.mem_range.2 hs)
theorem qzU(w s:Nat)(h: ∀k,k<6->w.testBit (2^k)=false):prt w s=w^^^prt 0 s:=by
 apply Nat.eq_of_testBit_eq
 intro p
 rw[Nat.testBit_xor,qzS,qzS,Nat.zero_testBit,Bool.false_or]
 cases ha:(List.range 6).any fun k=>s.testBit k&&decide (2^k=p)
 ·simp
 ·obtain⟨k,hk,h2⟩:=List.any_eq_true.1 ha
  simp only[zN,decide_eq_true_eq]at h2
  rw[<- h2.2,h k (List.mem_range.1 hk)];rfl
theorem qzV{w:Nat}(h:w.testBit 0=false):w|||1=w^^^1:=by
 apply Nat.eq_of_testBit_eq
 intro p
 rw[Nat.testBit_or,Nat.testBit_xor,show(1:Nat)=2^0 from rfl,Nat.testBit_two_pow]
 by_cases e:0=p
 ·subst e;rw[h];rfl
 ·simp[e]
theorem qzW(d k:Nat)(hk:k<6):(sct d).testBit (2^k)=false:=qzO d _ fun _ hx=>(qzL hx).2.2.2 k hk
theorem qzX(d:Nat):(sct d).testBit 0=false:=qzO d _ fun _ hx=>(qzL hx).2.2.1
theorem qzY(s:Nat):(prt 0 s).testBit 0=false:=by
 rw[qzS,Nat.zero_testBit,Bool.false_or,yD]
 intro k _
 have:2^k≠0:=by have:=Nat.two_pow_pos k;omega
 simp[this]
theorem qzZ(s:Nat){x:Nat×Nat}(hx:x∈plc):(prt 0 s).testBit x.2=false:=by
 rw[qzS,Nat.zero_testBit,Bool.false_or,yD]
 intro k hk
 have:=(qzL hx).2.2.2 k (List.mem_range.1 hk)
 have:2^k≠x.2:=fun e=>this e.symm
 simp[this]
theorem qA1(d:Nat):(∀x∈plc,(encW d).testBit x.2=d.testBit x.1)/\syn (encW d) 64=0/\ons (encW d) 64%2=0:=by
 have hs:syn (sct d) 64<64:=qzD _ _ (Nat.le_refl _)
 have h1:prt (sct d) (syn (sct d) 64)=sct d^^^prt 0 (syn (sct d) 64):=qzU _ _ fun k hk=>qzW d k hk
 have hb: ∀x∈plc,(prt (sct d) (syn (sct d) 64)).testBit x.2=d.testBit x.1:=fun x hx=>by
  rw[h1,Nat.testBit_xor,qzM d hx,qzZ _ hx];simp
 have hy:syn (prt (sct d) (syn (sct d) 64)) 64=0:=by rw[h1,qzz,qzT _ hs];simp
 have h0:(prt (sct d) (syn (sct d) 64)).testBit 0=false:=by rw[h1,Nat.testBit_xor,qzX,qzY];rfl
 unfold encW fin
 split
 ·rename_i ho
  rw[qzV h0]
  refine⟨fun x hx=> ?_,?_,?_⟩
  ·rw[Nat.testBit_xor,hb x hx,show(1:Nat)=2^0 from rfl,Nat.testBit_two_pow]
   have:=(qzL hx).2.2.1
   have:0≠x.2:=fun e=>this e.symm
   simp[this]
  ·rw[qzz,hy,show(1:Nat)=2^0 from rfl,qzB];rfl
  ·rw[qzA,show(1:Nat)=2^0 from rfl,qzC];simp;omega
 ·rename_i ho
  exact⟨hb,hy,by omega⟩
theorem qA2{w:Nat}{n:Nat}(h: ∀p,n<=p->w.testBit p=false):w<2^n:=Nat.lt_pow_two_of_testBit w h
theorem qA3(d:Nat):sct d<2^64:=qA2 fun p hp=>qzO d p fun x hx=>by have:=(qzL hx).2.1;omega
theorem qA4(d:Nat):encW d<2^64:=by
 have h1:prt (sct d) (syn (sct d) 64)<2^64:=qA2 fun p hp=>by
  rw[qzS,Nat.testBit_lt_two_pow (Nat.lt_of_lt_of_le (qA3 d) (Nat.pow_le_pow_right (by decide) hp)),Bool.false_or,yD]
  intro k hk
  have hk:k<6:=List.mem_range.1 hk
  have:2^k<=2^5:=Nat.pow_le_pow_right (by decide) (by omega)
  have:2^k≠p:=by omega
  simp[this]
 unfold encW fin
 split
 ·exact Nat.or_lt_two_pow h1 (by decide)
 ·exact h1
theorem qA5{d:Nat}(hd:d<2^57):gat (encW d)=d:=qzR hd (qA1 d).1
theorem qA6(d:Nat):chkW (encW d)=0:=by
 obtain⟨_,h2,h3⟩:=qA1 d
 unfold chkW;rw[if_neg (by omega),if_neg (by omega)]
theorem qA7{x:Nat}(hx:x<2^64)(h1: ∀q∈plc,x.testBit q.2=false)(h2:syn x 64=0)(h3:ons x 64%2=0):x=0:=by
 have hx' :x=(if x.testBit 0 then 1 else 0)^^^prt 0 ((if x.testBit 1 then 1 else 0)+(if x.testBit 2 then 2 else 0)+(if x.testBit 4 then 4 else 0)+(if x.testBit 8 then 8 else 0)+(if x.testBit 16 then 16 else 0)+(if x.testBit 32 then 32 else 0)):=by
  apply Nat.eq_of_testBit_eq
  intro p
  by_cases hp:p<64
  ·have:=yE.1 qzK p (List.mem_range.2 hp)
   simp only[Bool.or_eq_true,decide_eq_true_eq,List.any_eq_true]at this
   rcases this with(rfl|⟨k,hk,rfl⟩)|⟨q,hq,rfl⟩
   ·rw[Nat.testBit_xor,qzY]
    cases x.testBit 0<;>rfl
   ·rw[Nat.testBit_xor]
    have e0:(if x.testBit 0 then 1 else 0:Nat).testBit (2^k)=false:=by
     have hk:k<6:=List.mem_range.1 hk
     cases x.testBit 0
     ·simp
     ·simp only[if_true];rw[show(1:Nat)=2^0 from rfl,Nat.testBit_two_pow];have:=Nat.two_pow_pos k;simp;omega
    rw[e0,Bool.false_xor]
    have hk:k<6:=List.mem_range.1 hk
    have key: ∀b1 b2 b3 b4 b5 b6:Bool,∀k,k<6->(prt 0 ((if b1 then 1 else 0)+(if b2 then 2 else 0)+(if b3 then 4 else 0)+(if b4 then 8 else 0)+(if b5 then 16 else 0)+(if b6 then 32 else 0))).testBit (2^k)=[b1,b2,b3,b4,b5,b6].getD k false:=by decide+kernel
    rw[key _ _ _ _ _ _ k hk]
    have:k=0\/k=1\/k=2\/k=3\/k=4\/k=5:=by omega
    rcases this with rfl|rfl|rfl|rfl|rfl|rfl<;>rfl
   ·rw[h1 q hq,Nat.testBit_xor,qzZ _ hq]
    obtain⟨_,_,q3,_⟩:=qzL hq
    cases x.testBit 0
    ·simp
    ·simp only[if_true];rw[show(1:Nat)=2^0 from rfl,Nat.testBit_two_pow];simp;omega
  ·have e:2^64<=2^p:=Nat.pow_le_pow_right (by decide) (by omega)
   rw[Nat.testBit_lt_two_pow (by omega),Nat.testBit_xor,qzS,Nat.zero_testBit,Bool.false_or]
   have e1:(if x.testBit 0 then 1 else 0:Nat).testBit p=false:=by
    cases x.testBit 0
    ·simp
    ·simp only[if_true];rw[show(1:Nat)=2^0 from rfl,Nat.testBit_two_pow];simp;omega
   rw[e1,Bool.false_xor]
   refine(yD.2 fun k hk=> ?_).symm
   have hk:k<6:=List.mem_range.1 hk
   have:2^k<=2^5:=Nat.pow_le_pow_right (by decide) (by omega)
   have:2^k≠p:=by omega
   simp[this]
 revert h2 h3
 rw[hx']
 have key : ∀ b0 b1 b2 b3 b4 b5 b6 : Bool, syn ((if b0 then 1 else 0) ^^^ prt 0 ((if b1 then 1 else 0) + (if b2 then 2 else 0) + (if b3 then 4 else 0) + (if b4 then 8 else 0) + (if b5 then 16 else 0) + (if b6 then 32 else 0))) 64 = 0 -> ons ((if b0 then 1 else 0) ^^^ prt 0 ((if b1 then 1 else 0) + (if b2 then 2 else 0) + (if b3 then 4 else 0) + (if b4 then 8 else 0) + (if b5 then 16 else 0) + (if b6 then 32 else 0))) 64 % 2 = 0 ->
   (if b0 then 1 else 0)^^^prt 0 ((if b1 then 1 else 0)+(if b2 then 2 else 0)+(if b3 then 4 else 0)+(if b4 then 8 else 0)+(if b5 then 16 else 0)+(if b6 then 32 else 0))=0:=by decide+kernel
 exact key _ _ _ _ _ _ _
theorem qA8{w:Nat}(hw:w<2^64)(h:chkW w=0):encW (gat w)=w:=by
 unfold chkW at h
 have h1:ons w 64%2=0:=by
  by_cases e:ons w 64%2=1
  ·rw[if_pos e]at h;omega
  ·omega
 rw[if_neg (by omega)]at h
 have h2:syn w 64=0:=by
  by_cases e:syn w 64=0
  ·exact e
  ·rw[if_pos e]at h;omega
 obtain⟨g1,g2,g3⟩:=qA1 (gat w)
 have hz:encW (gat w)^^^w=0:=by
  refine qA7 (Nat.xor_lt_two_pow (qA4 _) hw) (fun q hq=> ?_) ?_ ?_
  ·rw[Nat.testBit_xor,g1 q hq,qzN w hq];simp
  ·rw[qzz,g2,h2];rfl
  ·rw[qzA];omega
 have:=congrArg (· ^^^w) hz
 simpa[Nat.xor_assoc]using this
theorem qA9{w:Nat}(h:chkW w=0){i:Nat}(hi:i<64):chkW (w^^^2^i)=1/\syn (w^^^2^i) 64=i:=by
 unfold chkW at h
 have h1:ons w 64%2=0:=by
  by_cases e:ons w 64%2=1
  ·rw[if_pos e]at h;omega
  ·omega
 rw[if_neg (by omega)]at h
 have h2:syn w 64=0:=by
  by_cases e:syn w 64=0
  ·exact e
  ·rw[if_pos e]at h;omega
 constructor
 ·unfold chkW;rw[qzA,qzC,if_pos hi,if_pos (by omega)]
 ·rw[qzz,qzB,if_pos hi,h2];simp
theorem qAb(w v:Nat):w^^^v^^^v=w:=by rw[Nat.xor_assoc];simp
theorem fix1{w:Nat}(h:chkW w=1):syn w 64<64/\chkW (w^^^2^syn w 64)=0:=by
 have hs:=qzD w 64 (Nat.le_refl _)
 refine⟨hs,?_⟩
 have h1:ons w 64%2=1:=by
  unfold chkW at h
  by_cases e:ons w 64%2=1
  ·exact e
  ·rw[if_neg e]at h;split at h<;>omega
 unfold chkW
 rw[qzA,qzC,if_pos hs,if_neg (by omega),qzz,qzB,if_pos hs]
 simp
theorem qAd(w:Nat):chkW w=0\/chkW w=1\/chkW w=2:=by
 unfold chkW
 split
 ·exact .inr (.inl rfl)
 ·split
  ·exact .inr (.inr rfl)
  ·exact .inl rfl
theorem qAe(k m:Nat):(2^k*(2*m+1))&&&(2^k*(2*m+1)-1)=2^k*(2*m+1)^^^2^k/\2^k*(2*m+1)^^^2^k<2^k*(2*m+1)/\(2^k*(2*m+1)).testBit k=true:=by
 have hp:=Nat.two_pow_pos k
 have e1:2^k*(2*m+1)=2^(k+1)*m+2^k:=by rw[Nat.pow_succ,Nat.mul_add,Nat.mul_one,Nat.mul_assoc]
 have hlt:2^k<2^(k+1):=Nat.pow_lt_pow_right (by decide) (by omega)
 have e2:2^k*(2*m+1)-1=2^(k+1)*m+(2^k-1):=by omega
 have hx:2^k*(2*m+1)^^^2^k=2^(k+1)*m:=by
  apply Nat.eq_of_testBit_eq
  intro i
  rw[e1,Nat.testBit_xor,Nat.testBit_two_pow_mul_add _ hlt,Nat.testBit_two_pow_mul,Nat.testBit_two_pow]
  split
  ·rename_i h
   have: ¬k+1<=i:=by omega
   simp[this]
  ·rename_i h
   have h1:k+1<=i:=by omega
   have h2:k≠i:=by omega
   simp[h1,h2]
 refine⟨?_,by rw[hx];omega,?_⟩
 ·rw[hx,e2]
  apply Nat.eq_of_testBit_eq
  intro i
  rw[e1,Nat.testBit_and,Nat.testBit_two_pow_mul_add _ hlt,Nat.testBit_two_pow_mul_add _ (by omega),Nat.testBit_two_pow_mul,Nat.testBit_two_pow,Nat.testBit_two_pow_sub_one]
  split
  ·rename_i h
   have: ¬k+1<=i:=by omega
   have h3:(decide (k=i)&&decide (i<k))=false:=by
    by_cases e:k=i
    ·subst e;simp
    ·simp[e]
   rw[h3]
   simp[this]
  ·rename_i h
   have h1:k+1<=i:=by omega
   simp[h1]
 ·rw[e1,Nat.testBit_two_pow_mul_add _ hlt,if_pos (by omega),Nat.testBit_two_pow_self]
theorem qAf{b c:Nat}(y z:Nat)(hb:b<256)(hc:c<256):(256*y+b)&&&(256*z+c)=256*(y&&&z)+(b&&&c):=by
 have hbc:b&&&c<2^8:=Nat.and_lt_two_pow _ hc
 apply Nat.eq_of_testBit_eq
 intro i
 rw[show(256:Nat)=2^8 from rfl,Nat.testBit_and,Nat.testBit_two_pow_mul_add _ hb,Nat.testBit_two_pow_mul_add _ hc,Nat.testBit_two_pow_mul_add _ hbc]
 split<;>rw[Nat.testBit_and]
theorem qAg{b:Nat}(y:Nat)(hb:b<256): ∀n,ons (256*y+b) (n+8)=ons y n+ons b 8
 |0=>by simp[ons,show(256:Nat)=2^8 from rfl,Nat.testBit_two_pow_mul_add y (show b<2^8 from hb)]
 | n + 1 => by
   show ons _ (n+8)+_=_
   rw[qAg y hb n,show(256:Nat)=2^8 from rfl,Nat.testBit_two_pow_mul_add y (show b<2^8 from hb),if_neg (by omega)]
   simp only[ons,show n+8-8=n from by omega]
   omega
def sa(m x:Nat):Nat:=(x/2&&&m)+(x&&&m)
def sb(m x:Nat):Nat:=(x/4&&&m)+(x&&&m)
def sc(m x:Nat):Nat:=(x/16+x)&&&m
theorem qAh{b:Nat}(y m:Nat)(hb:b<256):sa (256*m+85) (256*y+b)=256*sa m y+sa 85 b:=by
 have key: ∀b,b<256-> ∀c,c<2->((b/2+128*c)&&&85)=(b/2&&&85):=by decide+kernel
 unfold sa
 rw[show(256*y+b)/2=256*(y/2)+(b/2+128*(y%2))from by omega,qAf _ _ (by omega) (by omega),qAf _ _ hb (by omega),key b hb _ (by omega)]
 omega
theorem qAi{b:Nat}(y m:Nat)(hb:b<256):sb (256*m+51) (256*y+b)=256*sb m y+sb 51 b:=by
 have key: ∀b,b<256-> ∀c,c<4->((b/4+64*c)&&&51)=(b/4&&&51):=by decide+kernel
 unfold sb
 rw[show(256*y+b)/4=256*(y/4)+(b/4+64*(y%4))from by omega,qAf _ _ (by omega) (by omega),qAf _ _ hb (by omega),key b hb _ (by omega)]
 omega
theorem qAj{b:Nat}(y m:Nat)(hb:b<69)(hy:y%16<5):sc (256*m+15) (256*y+b)=256*sc m y+sc 15 b:=by
 have key: ∀b,b<69-> ∀c,c<5->((b/16+16*c+b)&&&15)=(b/16+b&&&15):=by decide+kernel
 unfold sc
 rw[show(256*y+b)/16+(256*y+b)=256*(y/16+y)+(b/16+16*(y%16)+b)from by omega,qAf _ _ (by omega) (by omega),key b hb _ hy]
theorem qAk: ∀b,b<256->sa 85 b<256/\sb 51 (sa 85 b)<69/\sb 51 (sa 85 b)%16<5/\sc 15 (sb 51 (sa 85 b))=ons b 8/\ons b 8<=8:=by decide+kernel
def m0:Nat:=6148914691236517205
def m1:Nat:=3689348814741910323
def m2:Nat:=1085102592571150095
def sum8(x:Nat):Nat:=let a:=x+x/256;let b:=a+a/65536;let c:=b+b/4294967296;c%128
theorem qkf (x : Nat) (hx : x < 2 ^ 64) : ∃ b0 b1 b2 b3 b4 b5 b6 b7 : Nat, (b0 < 256 /\ b1 < 256 /\ b2 < 256 /\ b3 < 256 /\ b4 < 256 /\ b5 < 256 /\ b6 < 256 /\ b7 < 256) /\
  x=256*(256*(256*(256*(256*(256*(256*b7+b6)+b5)+b4)+b3)+b2)+b1)+b0:=
 ⟨x%256,x/256%256,x/65536%256,x/16777216%256,x/4294967296%256,x/1099511627776%256,x/281474976710656%256,x/72057594037927936,by omega,by omega⟩
def num:List Nat->Nat
 |[]=>0
 |b::r=>256*num r+b
def zad:List Nat->List Nat->List Nat
 |[],l=>l
 |l,[]=>l
 |a::r,b::s=>(a+b)::zad r s
theorem qAl: ∀a b,num a+num b=num (zad a b)
 |[],l=>by simp[num,zad]
 |a::r,[]=>by simp[num,zad]
 |a::r,b::s=>by simp only[num,zad,<- qAl r s];omega
theorem dv(b:Nat)(r:List Nat)(h:b<256):num (b::r)/256=num r:=by simp only[num];omega
theorem qAm(b:Nat)(r:List Nat)(h:b<128):num (b::r)%128=b:=by simp only[num];omega
theorem qAn (o0 o1 o2 o3 o4 o5 o6 o7 : Nat) (h0 : o0 <= 8) (h1 : o1 <= 8) (h2 : o2 <= 8) (h3 : o3 <= 8) (h4 : o4 <= 8) (h5 : o5 <= 8) (h6 : o6 <= 8) (h7 : o7 <= 8) :
  sum8 (256*(256*(256*(256*(256*(256*(256*o7+o6)+o5)+o4)+o3)+o2)+o1)+o0)=o7+o6+o5+o4+o3+o2+o1+o0:=by
 have e2: ∀x:Nat,x/65536=x/256/256:=fun x=>by rw[Nat.div_div_eq_div_mul]
 have e4: ∀x:Nat,x/4294967296=x/256/256/256/256:=fun x=>by rw[Nat.div_div_eq_div_mul,Nat.div_div_eq_div_mul,Nat.div_div_eq_div_mul]
 have hx:256*(256*(256*(256*(256*(256*(256*o7+o6)+o5)+o4)+o3)+o2)+o1)+o0=num [o0,o1,o2,o3,o4,o5,o6,o7]:=by simp[num]
 have a1:=dv o0 [o1,o2,o3,o4,o5,o6,o7] (by omega)
 have a2:num [o0,o1,o2,o3,o4,o5,o6,o7]+num [o1,o2,o3,o4,o5,o6,o7]=num [o0+o1,o1+o2,o2+o3,o3+o4,o4+o5,o5+o6,o6+o7,o7]:=qAl _ _
 have b1:num [o0+o1,o1+o2,o2+o3,o3+o4,o4+o5,o5+o6,o6+o7,o7]/65536=num [o2+o3,o3+o4,o4+o5,o5+o6,o6+o7,o7]:=by rw[e2,dv _ _ (by omega),dv _ _ (by omega)]
 have b2 : num [o0 + o1, o1 + o2, o2 + o3, o3 + o4, o4 + o5, o5 + o6, o6 + o7, o7] + num [o2 + o3, o3 + o4, o4 + o5, o5 + o6, o6 + o7, o7] =
   num [o0+o1+(o2+o3),o1+o2+(o3+o4),o2+o3+(o4+o5),o3+o4+(o5+o6),o4+o5+(o6+o7),o5+o6+o7,o6+o7,o7]:=qAl _ _
 have c1:num [o0+o1+(o2+o3),o1+o2+(o3+o4),o2+o3+(o4+o5),o3+o4+(o5+o6),o4+o5+(o6+o7),o5+o6+o7,o6+o7,o7]/4294967296=num [o4+o5+(o6+o7),o5+o6+o7,o6+o7,o7]:=by
  rw[e4,dv _ _ (by omega),dv _ _ (by omega),dv _ _ (by omega),dv _ _ (by omega)]
 have c2:num [o0+o1+(o2+o3),o1+o2+(o3+o4),o2+o3+(o4+o5),o3+o4+(o5+o6),o4+o5+(o6+o7),o5+o6+o7,o6+o7,o7]+num [o4+o5+(o6+o7),o5+o6+o7,o6+o7,o7]=num _:=qAl _ _
 simp only[sum8]
 rw[hx,a1,a2,b1,b2,c1,c2]
 simp only[zad]
 rw[qAm _ _ (by omega)]
 omega
theorem qAo(x:Nat)(hx:x<2^64):sa m0 x<2^64/\sb m1 (sa m0 x)<2^63/\sc m2 (sb m1 (sa m0 x))<2^60/\sum8 (sc m2 (sb m1 (sa m0 x)))=ons x 64:=by
 obtain⟨b0,b1,b2,b3,b4,b5,b6,b7,⟨h0,h1,h2,h3,h4,h5,h6,h7⟩,rfl⟩:=qkf x hx
 obtain⟨p0,q0,r0,s0,t0⟩:=qAk b0 h0
 obtain⟨p1,q1,r1,s1,t1⟩:=qAk b1 h1
 obtain⟨p2,q2,r2,s2,t2⟩:=qAk b2 h2
 obtain⟨p3,q3,r3,s3,t3⟩:=qAk b3 h3
 obtain⟨p4,q4,r4,s4,t4⟩:=qAk b4 h4
 obtain⟨p5,q5,r5,s5,t5⟩:=qAk b5 h5
 obtain⟨p6,q6,r6,s6,t6⟩:=qAk b6 h6
 obtain⟨p7,q7,r7,s7,t7⟩:=qAk b7 h7
 have em0:m0=256*(256*(256*(256*(256*(256*(256*85+85)+85)+85)+85)+85)+85)+85:=rfl
 have em1:m1=256*(256*(256*(256*(256*(256*(256*51+51)+51)+51)+51)+51)+51)+51:=rfl
 have em2:m2=256*(256*(256*(256*(256*(256*(256*15+15)+15)+15)+15)+15)+15)+15:=rfl
 have ea:=qAh (256*(256*(256*(256*(256*(256*b7+b6)+b5)+b4)+b3)+b2)+b1) (256*(256*(256*(256*(256*(256*85+85)+85)+85)+85)+85)+85) h0
 rw[qAh _ _ h1,qAh _ _ h2,qAh _ _ h3,qAh _ _ h4,qAh _ _ h5,qAh _ _ h6]at ea
 rw[em0,ea]
 have eb:=qAi (256*(256*(256*(256*(256*(256*sa 85 b7+sa 85 b6)+sa 85 b5)+sa 85 b4)+sa 85 b3)+sa 85 b2)+sa 85 b1) (256*(256*(256*(256*(256*(256*51+51)+51)+51)+51)+51)+51) p0
 rw[qAi _ _ p1,qAi _ _ p2,qAi _ _ p3,qAi _ _ p4,qAi _ _ p5,qAi _ _ p6]at eb
 rw[em1,eb]
 generalize sb 51 (sa 85 b0)=c0 at *
 generalize sb 51 (sa 85 b1)=c1 at *
 generalize sb 51 (sa 85 b2)=c2 at *
 generalize sb 51 (sa 85 b3)=c3 at *
 generalize sb 51 (sa 85 b4)=c4 at *
 generalize sb 51 (sa 85 b5)=c5 at *
 generalize sb 51 (sa 85 b6)=c6 at *
 generalize sb 51 (sa 85 b7)=c7 at *
 rw[em2,qAj _ _ q0 (by omega),qAj _ _ q1 (by omega),qAj _ _ q2 (by omega),qAj _ _ q3 (by omega),qAj _ _ q4 (by omega),qAj _ _ q5 (by omega),qAj _ _ q6 (by omega),s0,s1,s2,s3,s4,s5,s6,s7]
 have eo:=qAg (256*(256*(256*(256*(256*(256*b7+b6)+b5)+b4)+b3)+b2)+b1) h0 56
 rw[qAg _ h1 48,qAg _ h2 40,qAg _ h3 32,qAg _ h4 24,qAg _ h5 16,qAg _ h6 8]at eo
 rw[eo]
 clear eo ea eb em0 em1 em2
 generalize ons b0 8=o0 at *
 generalize ons b1 8=o1 at *
 generalize ons b2 8=o2 at *
 generalize ons b3 8=o3 at *
 generalize ons b4 8=o4 at *
 generalize ons b5 8=o5 at *
 generalize ons b6 8=o6 at *
 generalize ons b7 8=o7 at *
 refine⟨by omega,by omega,by omega,?_⟩
 rw[qAn _ _ _ _ _ _ _ _ t0 t1 t2 t3 t4 t5 t6 t7]
def datW(w:Nat):Nat:=gat (if chkW w=1 then w^^^2^syn w 64 else w)
def fixW(w:Nat):Nat:=if chkW w=2 then w else encW (datW w)
theorem qAp(w:Nat):datW w<2^57:=qzP _
end Go.Ham
namespace Go.Vc
open Go Go.RowKit
def stT(s ps:List (Nat×PV))(i0:Nat):List (Nat×PV)->Prop
 |[]=>True
 |(i,v)::r=>(lk s i=some v/\(i=0\/i=i0\/frV ps v))/\stT s ps i0 r
@[push_cast] theorem qAq(s ps:List (Nat×PV))(i0:Nat):stT s ps i0 []=True:=rfl
@[push_cast] theorem qAr(s ps r:List (Nat×PV))(i0 i:Nat)(v:PV):stT s ps i0 ((i,v)::r)=((lk s i=some v/\(i=0\/i=i0\/frV ps v))/\stT s ps i0 r):=rfl
end Go.Vc
