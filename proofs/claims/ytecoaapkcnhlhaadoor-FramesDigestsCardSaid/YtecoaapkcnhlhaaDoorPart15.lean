/- IJa IK IL IW IX IN IO IP IQ IR IS: lemmas -/
import Derived.Test.YtecoaapkcnhlhaaDoorPart13
import Derived.Test.YtecoaapkcnhlhaaDoorPart14
set_option linter.unusedSimpArgs false
set_option linter.unusedVariables false
open Nat (reduceEqDiff reduceAdd reduceSub reduceMul reduceLT reduceLeDiff)
open Int (reduceToNat reduceNeg)
namespace Go.Proofs.YtecoaapkcnhlhaaDoor
open Go Go.Vc Txt
def qHs(v:Int)(n xi len:Nat)(cell cell' :PV)(dn:List Nat):Nat->PV
 |0=> .bv 31 1 n
 |1=> .int xi
 |2=> .bv 31 1 n
 |3=> .int xi
 |4=> .ptr 31 xi
 |5=>if dn.contains 8=true then cell' else cell
 |6=> .sc (.int .u64 v)
 |7=> .view 65 0 1
 |8=> .view 66 0 (len+1)
 |9=> .ptr 31 xi
 |_=> .bot
def qHt(b b7 b9:List (Nat×List PV))(a a6 a7:List (Nat×Arr))(dn:List Nat):List (Nat×List PV)×List (Nat×Arr)×List (Nat×Mp):=
 (if dn.contains 10=true then b9 else if dn.contains 8=true then b7 else b,if dn.contains 8=true then a7 else if dn.contains 7=true then a6 else a,[])
def qHu(a:List (Nat×Arr))(W:List (List PV))(cell cell' :PV):Prop:=(cell= .nil/\W=[]/\cell' = .nil)\/(cell= .view 66 0 W.length/\lk a 66=some ⟨1,54,W⟩/\cell' = .bot)
set_option maxHeartbeats 4000000 in
theorem qHv {P : Env} {s0 : List (Nat × PV)} {b b7 : List (Nat × List PV)} {a : List (Nat × Arr)} (n xi : Nat) (W : List (List PV)) (cell cell' : PV) (C C7 : List PV) (v : Int) (K : St -> Prop)
  (hP:getL s0 8= .ptr 8 0) (hX:getL s0 9= .int xi) (hx:xi<n) (hW:W.length<100000000) (hv:getL s0 13= .sc (.int .u64 v))
  (hb1:lk b 8=some [.bv 31 1 n]) (hb2:lk b7 8=some [.bv 31 1 n]) (hc:lk b 31=some C) (hc7:lk b7 31=some C7) (hC:C.length=n) (hC7:C7.length=n) (hcell:C.getD xi .bot=cell)
  (k6:qiC nul (isId 65) b=b) (k7:qiC nul (isId 66) b=b7) (f6:qiB nul (isId 65) s0=s0) (f7:qiB nul (isId 66) s0=s0)
  (h:qHu a W cell cell')
  (hK:K ⟨slA (qHs v n xi W.length cell cell' [8]) xs34_15 s0,up b7 31 (C7.set xi (.view 66 0 (W.length+1))),up (up a 65 ⟨1,54,[[.sc (.int .u64 v)]]⟩) 66 ⟨1,54,W++[[.sc (.int .u64 v)]]⟩,[]⟩):
  allK P xs34_15 xs34_15.length [] ⟨s0,b,a,[]⟩ K:=by
 have hlk: ∀(l:List (Nat×Arr)) (A:Arr),lk (up l 65 A) 66=lk l 66:=fun l A=>by rw[qa2,if_neg (by decide)]
 have hlk6: ∀(l:List (Nat×Arr)) (A:Arr),lk (up l 65 A) 65=some A:=fun l A=>by rw[qa2,if_pos rfl]
 have hub: ∀(c:List PV),lk (up b7 31 c) 8=some [.bv 31 1 n]:=fun c=>by rw[qa2,if_neg (by decide)];exact hb2
 refine qFe (ops:=xs34_15) (qHs v n xi W.length cell cell') (qHt b b7 (up b7 31 (C7.set xi (.view 66 0 (W.length+1)))) a (up a 65 ⟨1,54,[[.sc (.int .u64 v)]]⟩) (up (up a 65 ⟨1,54,[[.sc (.int .u64 v)]]⟩) 66 ⟨1,54,W++[[.sc (.int .u64 v)]]⟩)) rfl rfl ?_ ?_ rfl
 ·rw[xs34_15_all]
  refine⟨?_,?_,?_,?_,?_,?_,?_,?_,?_,?_,?_⟩
  ·intro dn S hr hc' hS L K hK
   have h9:dn.contains 10=false:=qAK hc' hr (List.mem_of_getElem? (i:=10) rfl) (by decide)
   have g0:getL S 8= .ptr 8 0:=(L 8 trivial).trans hP
   have e:qHs v n xi W.length cell cell' (0::dn)=qHs v n xi W.length cell cell' dn:=rfl
   have em:qHt b b7 (up b7 31 (C7.set xi (.view 66 0 (W.length+1)))) a (up a 65 ⟨1,54,[[.sc (.int .u64 v)]]⟩) (up (up a 65 ⟨1,54,[[.sc (.int .u64 v)]]⟩) 66 ⟨1,54,W++[[.sc (.int .u64 v)]]⟩) (0::dn)=qHt b b7 (up b7 31 (C7.set xi (.view 66 0 (W.length+1)))) a (up a 65 ⟨1,54,[[.sc (.int .u64 v)]]⟩) (up (up a 65 ⟨1,54,[[.sc (.int .u64 v)]]⟩) 66 ⟨1,54,W++[[.sc (.int .u64 v)]]⟩) dn:=rfl
   rw[em,e,<- hS]at hK
   revert hK
   unfold qHt
   rw[h9]
   intro hK
   cases h7:dn.contains 8<;>rw[h7]at hK<;>simp only[g0,hb1,hb2,push_cast,reduceIte,reduceEqDiff,reduceAdd,reduceSub,reduceMul,Nat.reduceBEq,reduceLT,reduceLeDiff,reduceCtorEq,reduceToNat,reduceNeg,cNI]at hK ⊢ <;>exact hK
  ·intro dn S hr hc' hS L K hK
   have g0:getL S 9= .int xi:=(L 9 trivial).trans hX
   have e:qHs v n xi W.length cell cell' (1::dn)=qHs v n xi W.length cell cell' dn:=rfl
   rw[e,<- hS]at hK
   simp only[g0,push_cast,reduceIte,reduceEqDiff,reduceAdd,reduceSub,reduceMul,Nat.reduceBEq,reduceLT,reduceLeDiff,reduceCtorEq,reduceToNat,reduceNeg,cNI]
   exact hK
  ·intro dn S hr hc' hS L K hK
   have h9:dn.contains 10=false:=qAK hc' hr (List.mem_of_getElem? (i:=10) rfl) (by decide)
   have g0:getL S 8= .ptr 8 0:=(L 8 trivial).trans hP
   have e:qHs v n xi W.length cell cell' (2::dn)=qHs v n xi W.length cell cell' dn:=rfl
   have em:qHt b b7 (up b7 31 (C7.set xi (.view 66 0 (W.length+1)))) a (up a 65 ⟨1,54,[[.sc (.int .u64 v)]]⟩) (up (up a 65 ⟨1,54,[[.sc (.int .u64 v)]]⟩) 66 ⟨1,54,W++[[.sc (.int .u64 v)]]⟩) (2::dn)=qHt b b7 (up b7 31 (C7.set xi (.view 66 0 (W.length+1)))) a (up a 65 ⟨1,54,[[.sc (.int .u64 v)]]⟩) (up (up a 65 ⟨1,54,[[.sc (.int .u64 v)]]⟩) 66 ⟨1,54,W++[[.sc (.int .u64 v)]]⟩) dn:=rfl
   rw[em,e,<- hS]at hK
   revert hK
   unfold qHt
   rw[h9]
   intro hK
   cases h7:dn.contains 8<;>rw[h7]at hK<;>simp only[g0,hb1,hb2,push_cast,reduceIte,reduceEqDiff,reduceAdd,reduceSub,reduceMul,Nat.reduceBEq,reduceLT,reduceLeDiff,reduceCtorEq,reduceToNat,reduceNeg,cNI]at hK ⊢ <;>exact hK
  ·intro dn S hr hc' hS L K hK
   have g0:getL S 9= .int xi:=(L 9 trivial).trans hX
   have e:qHs v n xi W.length cell cell' (3::dn)=qHs v n xi W.length cell cell' dn:=rfl
   rw[e,<- hS]at hK
   simp only[g0,push_cast,reduceIte,reduceEqDiff,reduceAdd,reduceSub,reduceMul,Nat.reduceBEq,reduceLT,reduceLeDiff,reduceCtorEq,reduceToNat,reduceNeg,cNI]
   exact hK
  ·intro dn S hr hc' hS L K hK
   have g1:getL S 60= .bv 31 1 n:=L 60 (qAI hr (j:=2) (by decide))
   have g2:getL S 61= .int xi:=L 61 (qAI hr (j:=3) (by decide))
   have e:qHs v n xi W.length cell cell' (4::dn)=qHs v n xi W.length cell cell' dn:=rfl
   rw[e,<- hS]at hK
   simp only[g1,g2,Nat.mul_one,push_cast,reduceIte,reduceEqDiff,reduceAdd,reduceSub,reduceMul,Nat.reduceBEq,reduceLT,reduceLeDiff,reduceCtorEq,reduceToNat,reduceNeg,cNI]
   exact⟨⟨by omega,by omega⟩,hK⟩
  ·intro dn S hr hc' hS L K hK
   have g1:getL S 62= .ptr 31 xi:=L 62 (qAI hr (j:=4) (by decide))
   have h7:dn.contains 8=false:=qAK hc' hr (List.mem_of_getElem? (i:=8) rfl) (by decide)
   have h9:dn.contains 10=false:=qAK hc' hr (List.mem_of_getElem? (i:=10) rfl) (by decide)
   have e:qHs v n xi W.length cell cell' (5::dn)=qHs v n xi W.length cell cell' dn:=rfl
   have em: ∀q1 q2 q3 q4 q5 q6,qHt q1 q2 q3 q4 q5 q6 (5::dn)=qHt q1 q2 q3 q4 q5 q6 dn:=fun _ _ _ _ _ _=>rfl
   rw[em,e,<- hS]at hK
   have e5:qHs v n xi W.length cell cell' dn 5=cell:=by
    show(if dn.contains 8=true then cell' else cell)=cell
    rw[h7];rfl
   have hK:K ⟨up S 63 (qHs v n xi W.length cell cell' dn 5),_,_,_⟩:=hK
   rw[e5]at hK
   revert hK
   unfold qHt
   rw[h9,h7]
   intro hK
   simp only[g1,hc,qF8 C,hcell,hC,push_cast,reduceIte,reduceEqDiff,reduceAdd,reduceSub,reduceMul,Nat.reduceBEq,reduceLT,reduceLeDiff,reduceCtorEq,reduceToNat,reduceNeg,cNI]at hK ⊢
   exact⟨by omega,hK⟩
  ·intro dn S hr hc' hS L K hK
   have g0:getL S 13= .sc (.int .u64 v):=(L 13 trivial).trans hv
   have e:qHs v n xi W.length cell cell' (6::dn)=qHs v n xi W.length cell cell' dn:=rfl
   rw[e,<- hS]at hK
   simp only[g0,push_cast,reduceIte,reduceEqDiff,reduceAdd,reduceSub,reduceMul,Nat.reduceBEq,reduceLT,reduceLeDiff,reduceCtorEq,reduceToNat,reduceNeg,cNI]
   exact hK
  ·intro dn S hr hc' hS L K hK
   have h7:dn.contains 8=false:=qAK hc' hr (List.mem_of_getElem? (i:=8) rfl) (by decide)
   have h9:dn.contains 10=false:=qAK hc' hr (List.mem_of_getElem? (i:=10) rfl) (by decide)
   have h6:dn.contains 7=false:=qAJ hr
   have e:qHs v n xi W.length cell cell' (7::dn)=qHs v n xi W.length cell cell' dn:=rfl
   have em: ∀q1 q2 q3 q4 q5 q6,qHt q1 q2 q3 q4 q5 q6 (7::dn)=(q1,q5,[]):=fun q1 q2 q3 q4 q5 q6=>by
    show(if dn.contains 10=true then _ else if dn.contains 8=true then _ else _,if dn.contains 8=true then _ else if true=true then _ else _,_)=_
    rw[h9,h7];rfl
   have em0: ∀q1 q2 q3 q4 q5 q6,qHt q1 q2 q3 q4 q5 q6 dn=(q1,q4,[]):=fun q1 q2 q3 q4 q5 q6=>by
    unfold qHt
    rw[h9,h7,h6];rfl
   rw[em,e,<- hS]at hK
   rw[em0]
   have hkS:qiB nul (isId 65) S=S:=by
    rw[hS,qFb,f6]
    apply qFc
    intro i hi
    rcases i with _|_|_|_|_|_|_|_|_|_|_|i<;>try rfl
    ·show PV.killV nul (isId 65) (if dn.contains 8=true then cell' else cell)=(if dn.contains 8=true then cell' else cell)
     rw[h7]
     rcases h with⟨h1,-,-⟩|⟨h1,-,-⟩<;>rw[h1]<;>rfl
    ·rw[h6]at hi;cases hi
   have g1:getL S 64= .sc (.int .u64 v):=L 64 (qAI hr (j:=6) (by decide))
   simp only[g1,hkS,k6,rep1,List.set_cons_zero,List.length_cons,List.length_nil,push_cast,reduceIte,reduceEqDiff,reduceAdd,reduceSub,reduceMul,Nat.reduceBEq,reduceLT,reduceLeDiff,reduceCtorEq,reduceToNat,reduceNeg,cNI]at hK ⊢
   first|exact hK|exact⟨by decide,hK⟩
  ·intro dn S hr hc' hS L K hK
   have h9:dn.contains 10=false:=qAK hc' hr (List.mem_of_getElem? (i:=10) rfl) (by decide)
   have h7:dn.contains 8=false:=qAJ hr
   have h6:dn.contains 7=true:=qAI hr (j:=7) (by decide)
   have g5:getL S 63=cell:=by
    rw[L 63 (qAI hr (j:=5) (by decide))]
    show(if dn.contains 8=true then cell' else cell)=cell
    rw[h7];rfl
   have g6:getL S 65= .view 65 0 1:=L 65 (qAI hr (j:=7) (by decide))
   have em: ∀q1 q2 q3 q4 q5 q6,qHt q1 q2 q3 q4 q5 q6 (8::dn)=(q2,q6,[]):=fun q1 q2 q3 q4 q5 q6=>by
    show(if dn.contains 10=true then _ else if true=true then _ else _,if true=true then _ else if dn.contains 7=true then _ else _,_)=_
    rw[h9];rfl
   have em0: ∀q1 q2 q3 q4 q5 q6,qHt q1 q2 q3 q4 q5 q6 dn=(q1,q5,[]):=fun q1 q2 q3 q4 q5 q6=>by
    unfold qHt
    rw[h9,h7,h6];rfl
   rw[em]at hK
   rw[em0]
   have hkS:qiB nul (isId 66) S=slD (qHs v n xi W.length cell cell' (8::dn)) dn xs34_15 s0:=by
    rw[hS,qFb,f7]
    apply qFc
    intro i hi
    rcases i with _|_|_|_|_|_|_|_|_|_|_|i<;>try rfl
    ·show PV.killV nul (isId 66) (if dn.contains 8=true then cell' else cell)=cell'
     rw[h7]
     rcases h with⟨h1,-,h3⟩|⟨h1,-,h3⟩<;>rw[h1,h3]<;>rfl
    ·rw[h7]at hi;cases hi
   have hK:K ⟨up (slD (qHs v n xi W.length cell cell' (8::dn)) dn xs34_15 s0) 66 (.view 66 0 (W.length+1)),_,_,_⟩:=hK
   rw[<- hkS]at hK
   rcases h with⟨h1,h2,h3⟩|⟨h1,h2,h3⟩
   ·subst h2
    rw[h1]at g5
    simp only[g5,g6,hlk6,k7,List.take_succ_cons,List.take_zero,List.length_cons,List.length_nil,List.nil_append,push_cast,reduceIte,reduceEqDiff,reduceAdd,reduceSub,reduceMul,Nat.reduceBEq,reduceLT,reduceLeDiff,reduceCtorEq,reduceToNat,reduceNeg,cNI]at hK ⊢
    first|exact hK|exact⟨by decide,hK⟩
   ·rw[h1]at g5
    simp only[g5,g6,hlk,hlk6,h2,k7,List.take_succ_cons,List.take_zero,List.length_cons,List.length_nil,push_cast,reduceIte,reduceEqDiff,reduceAdd,reduceSub,reduceMul,Nat.reduceBEq,reduceLT,reduceLeDiff,reduceCtorEq,reduceToNat,reduceNeg,cNI]at hK ⊢
    exact⟨⟨by omega,by omega⟩,hK⟩
  ·intro dn S hr hc' hS L K hK
   have h9:dn.contains 10=false:=qAK hc' hr (List.mem_of_getElem? (i:=10) rfl) (by decide)
   have g1:getL S 58= .bv 31 1 n:=L 58 (qAI hr (j:=0) (by decide))
   have g2:getL S 59= .int xi:=L 59 (qAI hr (j:=1) (by decide))
   have e:qHs v n xi W.length cell cell' (9::dn)=qHs v n xi W.length cell cell' dn:=rfl
   rw[e,<- hS]at hK
   simp only[g1,g2,Nat.mul_one,push_cast,reduceIte,reduceEqDiff,reduceAdd,reduceSub,reduceMul,Nat.reduceBEq,reduceLT,reduceLeDiff,reduceCtorEq,reduceToNat,reduceNeg,cNI]
   exact⟨⟨by omega,by omega⟩,hK⟩
  ·intro dn S hr hc' hS L K hK
   have h9:dn.contains 10=false:=qAJ hr
   have h7:dn.contains 8=true:=qAI hr (j:=8) (by decide)
   have g1:getL S 67= .ptr 31 xi:=L 67 (qAI hr (j:=9) (by decide))
   have g2:getL S 66= .view 66 0 (W.length+1):=L 66 (qAI hr (j:=8) (by decide))
   have e:qHs v n xi W.length cell cell' (10::dn)=qHs v n xi W.length cell cell' dn:=rfl
   have em: ∀q1 q2 q3 q4 q5 q6,qHt q1 q2 q3 q4 q5 q6 (10::dn)=(q3,q6,[]):=fun q1 q2 q3 q4 q5 q6=>by
    show(if true=true then _ else if dn.contains 8=true then _ else _,if dn.contains 8=true then _ else if dn.contains 7=true then _ else _,_)=_
    rw[h7];rfl
   have em0: ∀q1 q2 q3 q4 q5 q6,qHt q1 q2 q3 q4 q5 q6 dn=(q2,q6,[]):=fun q1 q2 q3 q4 q5 q6=>by
    unfold qHt
    rw[h9,h7];rfl
   rw[em,e,<- hS]at hK
   rw[em0]
   have hK:K ⟨S,_,_,_⟩:=hK
   simp only[g1,g2,hc7,hC7,qF9 C7 xi _ (by omega),push_cast,reduceIte,reduceEqDiff,reduceAdd,reduceSub,reduceMul,Nat.reduceBEq,reduceLT,reduceLeDiff,reduceCtorEq,reduceToNat,reduceNeg,cNI]at hK ⊢
   exact⟨by omega,hK⟩
 ·intro dn h
  rw[xs34_15_all]at h
  obtain⟨h0,h1,h2,h3,h4,h5,h6,h7,h8,h9,h10⟩:=h
  have em: ∀q1 q2 q3 q4 q5 q6,qHt q1 q2 q3 q4 q5 q6 dn=(q3,q6,[]):=fun q1 q2 q3 q4 q5 q6=>by
   unfold qHt
   rw[if_pos h10,if_pos h8]
  have ev:qHs v n xi W.length cell cell' dn=qHs v n xi W.length cell cell' [8]:=by
   funext i
   rcases i with _|_|_|_|_|_|_|_|_|_|_|i<;>try rfl
   show(if dn.contains 8=true then cell' else cell)=cell'
   rw[if_pos h8]
  rw[em,ev]
  exact hK
end Go.Proofs.YtecoaapkcnhlhaaDoor
namespace Go.Proofs.YtecoaapkcnhlhaaDoor
open Go Go.Vc Go.Ham Txt
def decB(g:Grid)(n:Nat)(C:List PV):List (Nat×List PV):=[(2,quQ false g),(4,[.nil,.nil,.nil,.nil]),(8,[.bv 31 1 n]),(31,C)]
def rw66(W:List Nat):List (Nat×Arr):=match W with|[]=>[]|_::_=>[(66,⟨1,54,rows u64C (nats W)⟩)]
def rc66(W:List Nat):PV:=match W with|[]=> .nil|_::_=> .view 66 0 W.length
set_option maxHeartbeats 2000000 in
theorem qHw (g : Grid) (l : List (List Nat)) (n x : Nat) (hx : x < n) (C : List PV) (hC : C.length = n) (hCf : ∀ j, anyT nul (isId j) C = false) (hC0 : C.set x .nil = C) (f : Int) (w : Nat) (hf : 0 <= f /\ f <= 1000000000) (hw : w <= 1) (d : Nat) (W : List Nat) (hW : W.length < 100000000)
  (ws:List Nat) (i len:Int) (Q:Exit->St->Prop)
  (hQ: ∀z,Q .normal ⟨[(1,.sl false 1 (rows (frmC false) l)),(2,.ptr 2 0),(4,.ptr 4 0),(7,.int (f+w)),(8,.ptr 8 0),(9,.int x),(13,.sc (.int .u64 d)),(32,.sl false 1 (rows (frmC false) l)),(33,.int n),(34,.int x),(40,.sl false 1 (rows u64C (nats ws))),(41,.int len),(42,.int i),(58,.bv 31 1 n),(59,.int x),(60,.bv 31 1 n),(61,.int x),(62,.ptr 31 x),(63,z),(64,.sc (.int .u64 d)),(65,.view 65 0 1),(66,.view 66 0 (W.length+1)),(67,.ptr 31 x)],decB g n (C.set x (.view 66 0 (W.length+1))),[(65,⟨1,54,rows u64C (nats [d])⟩),(66,⟨1,54,rows u64C (nats (W++[d]))⟩)],[]⟩):
  awp (Env.of Tryd.prog) ac34_r14 Q ⟨[(1,.sl false 1 (rows (frmC false) l)),(2,.ptr 2 0),(4,.ptr 4 0),(7,.int f),(8,.ptr 8 0),(9,.int x),(13,.sc (.int .u64 d)),(14,.int w),(15,.int 0),(32,.sl false 1 (rows (frmC false) l)),(33,.int n),(34,.int x),(40,.sl false 1 (rows u64C (nats ws))),(41,.int len),(42,.int i),(52,.int 0),(53,.bool (decide ((0:Int)≠0)))],decB g n (C.set x (rc66 W)),rw66 W,[]⟩:=by
 have hcx: ∀v,(C.set x v).getD x .bot=v:=fun v=>by rw[List.getD_eq_getElem?_getD,List.getElem?_set_self (by omega)];rfl
 have hcl: ∀v,(C.set x v).length=n:=fun v=>by rw[List.length_set,hC]
 have hset2: ∀v w,(C.set x v).set x w=C.set x w:=fun v w=>List.set_set ..
 have e5: ∀j,anyT nul (isId j) (C.set x .nil)=false:=fun j=>qF7 _ _ _ _ _ (hCf j) rfl
 have b65: ∀m,anyT nul (isId 65) (C.set x (.view 66 0 m))=false:=fun m=>qF7 _ _ _ _ _ (hCf 65) rfl
 have b5:=fun m=>qFG (j:=66) C x m (by omega)
 have b6:=fun m=>qFF (j:=66) C x m (by omega) (e5 66)
 cases W with
 |nil=>
   simp only[ac34_r14,rc66,rw66,decB,hC0,push_cast,reduceIte,reduceEqDiff,reduceAdd,reduceSub,reduceMul,Nat.reduceBEq,reduceLT,reduceLeDiff,reduceCtorEq,reduceToNat,reduceNeg,cNI]
   refine⟨⟨by omega,by omega⟩,?_⟩
   refine qHv (b:=decB g n C) (b7:=decB g n C) (n:=n) (xi:=x) (W:=[]) (cell:= .nil) (cell' := .nil) (C:=C) (C7:=C) (v:=d) _ rfl rfl hx (by decide) rfl rfl rfl rfl rfl hC hC ?_ ?_ ?_ rfl rfl (.inl ⟨rfl,rfl,rfl⟩) ?_
   ·rw[<- hC0];exact hcx _
   ·simp only[decB,hCf,push_cast,reduceIte,reduceEqDiff,reduceAdd,reduceSub,reduceMul,Nat.reduceBEq,reduceLT,reduceLeDiff,reduceCtorEq,reduceToNat,reduceNeg,cNI]
   ·simp only[decB,hCf,push_cast,reduceIte,reduceEqDiff,reduceAdd,reduceSub,reduceMul,Nat.reduceBEq,reduceLT,reduceLeDiff,reduceCtorEq,reduceToNat,reduceNeg,cNI]
   ·simp only[slA,xs34_15,putD,qHs,decB,push_cast,reduceIte,reduceEqDiff,reduceAdd,reduceSub,reduceMul,Nat.reduceBEq,reduceLT,reduceLeDiff,reduceCtorEq,reduceToNat,reduceNeg,cNI]
    exact hQ _
 |cons y r=>
   simp only[ac34_r14,rc66,rw66,decB,push_cast,reduceIte,reduceEqDiff,reduceAdd,reduceSub,reduceMul,Nat.reduceBEq,reduceLT,reduceLeDiff,reduceCtorEq,reduceToNat,reduceNeg,cNI]
   refine⟨⟨by omega,by omega⟩,?_⟩
   refine qHv (b:=decB g n (C.set x (.view 66 0 (y::r).length))) (b7:=decB g n (C.set x .bot)) (n:=n) (xi:=x) (W:=rows u64C (nats (y::r))) (cell:= .view 66 0 (y::r).length) (cell' := .bot) (C:=C.set x (.view 66 0 (y::r).length)) (C7:=C.set x .bot) (v:=d) _ rfl rfl hx ?_ rfl rfl rfl rfl rfl (hcl _) (hcl _) (hcx _) ?_ ?_ rfl rfl (.inr ⟨?_,rfl,rfl⟩) ?_
   ·rw[qkg,qER];exact hW
   ·simp only[decB,b65,hCf,push_cast,reduceIte,reduceEqDiff,reduceAdd,reduceSub,reduceMul,Nat.reduceBEq,reduceLT,reduceLeDiff,reduceCtorEq,reduceToNat,reduceNeg,cNI]
   ·simp only[decB,b5,b6,hCf,push_cast,reduceIte,reduceEqDiff,reduceAdd,reduceSub,reduceMul,Nat.reduceBEq,reduceLT,reduceLeDiff,reduceCtorEq,reduceToNat,reduceNeg,cNI]
   ·rw[qkg,qER]
   ·simp only[slA,xs34_15,putD,qHs,decB,hset2,qkg,qER,push_cast,reduceIte,reduceEqDiff,reduceAdd,reduceSub,reduceMul,Nat.reduceBEq,reduceLT,reduceLeDiff,reduceCtorEq,reduceToNat,reduceNeg,cNI]
    have hq:=hQ .bot
    rw[<- qFL]at hq
    exact hq
theorem qHx(l:List Nat)(w:Nat):qDm (l++[w])=(qDm l&&decide (chkW w≠2)):=by simp[qDm]
theorem qHy(l:List Nat)(w:Nat)(h:chkW w≠2):qDn (l++[w])=qDn l+chkW w:=by
 unfold qDn
 rw[List.countP_append]
 have:=qA6 w
 by_cases e:chkW w=1
 ·simp[e]
 ·have:chkW w=0:=by omega
  simp[this]
theorem qHz(l:List Nat):qDn l<=l.length:=List.countP_le_length
theorem qHB(W:List Nat)(d:Nat):rc66 (W++[d])= .view 66 0 (W.length+1):=by
 cases W<;>simp[rc66]
theorem qHC(W:List Nat)(d:Nat):rw66 (W++[d])=[(66,⟨1,54,rows u64C (nats (W++[d]))⟩)]:=by
 cases W<;>rfl
def frV(l:List (List Nat)):PV:= .sl false 1 (rows (frmC false) l)
set_option maxHeartbeats 2000000 in
theorem qHD (g : Grid) (l : List (List Nat)) (n x : Nat) (hx : x < n) (C : List PV) (hC : C.length = n) (hCf : ∀ j, anyT nul (isId j) C = false) (hC0 : C.set x .nil = C) (f : Nat) (hf : f <= 900000000) (ws : List Nat) (hws : ∀ w ∈ ws, w < 2 ^ 64) (hl : ws.length <= 1000) (Q : Exit -> St -> Prop)
  (hE:qDm ws=false-> ∀C' A,Q .ret ⟨[(4,.ptr 4 0),(5,.int 0),(6,.int 380),(54,.agg [.nil,.nil,.nil,.nil])],decB g n C',A,[]⟩)
  (hQ:qDm ws=true-> ∀T,qhk [0,126,1,2,4,7,8,32,33,34] T=[]->Q .normal ⟨[(1,.sl false 1 (rows (frmC false) l)),(2,.ptr 2 0),(4,.ptr 4 0),(7,.int (f+qDn ws:Nat)),(8,.ptr 8 0),(9,.int x),(32,.sl false 1 (rows (frmC false) l)),(33,.int n),(34,.int x)]++T,decB g n (C.set x (rc66 (ws.map datW))),rw66 (ws.map datW),[]⟩):
  awp (Env.of Tryd.prog) ac34_r8 Q ⟨[(1,.sl false 1 (rows (frmC false) l)),(2,.ptr 2 0),(4,.ptr 4 0),(7,.int f),(8,.ptr 8 0),(9,.int x),(10,.ptr 10 0),(32,.sl false 1 (rows (frmC false) l)),(33,.int n),(34,.int x),(36,.int x),(37,.iptr false ((rows (frmC false) l).getD x []) 0),(38,.agg [.sl false 1 (rows u64C (nats ws))])],[(2,quQ false g),(4,[.nil,.nil,.nil,.nil]),(8,[.bv 31 1 n]),(10,[.sl false 1 (rows u64C (nats ws))]),(31,C)],[],[]⟩:=by
 have hset2: ∀v w,(C.set x v).set x w=C.set x w:=fun v w=>List.set_set ..
 simp only[ac34_r8,push_cast,reduceIte,reduceEqDiff,reduceAdd,reduceSub,reduceMul,Nat.reduceBEq,reduceLT,reduceLeDiff,reduceCtorEq,reduceToNat,reduceNeg,cNI]
 refine qoK (fun m st=> ∃j:Nat,j<=ws.length/\m=ws.length-j/\qDm (ws.take j)=true/\st=⟨[(1,.sl false 1 (rows (frmC false) l)),(2,.ptr 2 0),(4,.ptr 4 0),(7,.int (f+qDn (ws.take j):Nat)),(8,.ptr 8 0),(9,.int x),(32,.sl false 1 (rows (frmC false) l)),(33,.int n),(34,.int x),(40,.sl false 1 (rows u64C (nats ws))),(41,.int ws.length),(42,.int j)],
  decB g n (C.set x (rc66 ((ws.take j).map datW))),rw66 ((ws.take j).map datW),[]⟩) ws.length ⟨_,SWk.drop (fun i=>i !=10) (fun _=>true),0,by omega,by omega,rfl,?_⟩ ?_
 ·rw[List.take_zero,List.map_nil,show rc66 []= .nil from rfl,hC0,qER]
  rfl
 rintro m st ⟨j,hj,rfl,hok,rfl⟩
 have hc:=qHz (ws.take j)
 rw[List.length_take]at hc
 refine sB ?_
 refine qnU (fun h=> ?_) fun h=> ?_
 ·have hj' :j<ws.length:=by omega
  obtain⟨w,hw⟩: ∃w,w=ws.getD j 0:=⟨_,rfl⟩
  have hwb:w<2^64:=hws _ (by rw[hw,List.getD_eq_getElem?_getD,List.getElem?_eq_getElem hj'];exact List.getElem_mem hj')
  have htk:ws.take (j+1)=ws.take j++[w]:=by
   rw[List.take_succ_eq_append_getElem hj',hw,List.getD_eq_getElem?_getD,List.getElem?_eq_getElem hj']
   rfl
  have hde:=qEm w hwb
  have hcw:=qA6 w
  simp only[qER,qFx,<- hw,push_cast,reduceIte,reduceEqDiff,reduceAdd,reduceSub,reduceMul,Nat.reduceBEq,reduceLT,reduceLeDiff,reduceCtorEq,reduceToNat,reduceNeg,cNI]
  refine⟨⟨by omega,by omega⟩,by omega,?_⟩
  unfold decV at hde
  by_cases h2:chkW w=2
  ·rw[if_pos h2]at hde
   refine qrr hde sC ?_
   refine sB ?_
   refine qnU (fun _=> ?_) fun h=>absurd (by decide) h
   simp only[decB,push_cast,reduceIte,reduceEqDiff,reduceAdd,reduceSub,reduceMul,Nat.reduceBEq,reduceLT,reduceLeDiff,reduceCtorEq,reduceToNat,reduceNeg,cNI]
   refine hE ?_ _ _
   have hm:w∈ws:=by rw[hw,List.getD_eq_getElem?_getD,List.getElem?_eq_getElem hj'];exact List.getElem_mem hj'
   refine List.all_eq_false.2 ⟨w,hm,by simp[h2]⟩
  ·rw[if_neg h2]at hde
   refine qrr hde sC ?_
   refine sB ?_
   refine qnU (fun h=>absurd rfl h) fun _=> ?_
   have hcs:=qHy (ws.take j) w h2
   have hok2:qDm (ws.take (j+1))=true:=by rw[htk,qHx,hok];simp[h2]
   have hWl:((ws.take j).map datW).length=j:=by rw[List.length_map,List.length_take];omega
   refine qHw g l n x hx C hC hCf hC0 ((f:Int)+(qDn (ws.take j):Nat)) (chkW w) ⟨by omega,by omega⟩ (by omega) (datW w) ((ws.take j).map datW) (by omega) ws j ws.length _ fun z=> ?_
   refine sB ?_
   refine⟨⟨by omega,by omega⟩,_,SWk.drop (fun _=>true) (fun i=>i !=65),ws.length-(j+1),by omega,j+1,by omega,rfl,hok2,?_⟩
   rw[htk,hcs,List.map_append,show[w].map datW=[datW w]from rfl,qHB,qHC,show(f:Int)+(qDn (ws.take j):Nat)+(chkW w:Nat)=((f+(qDn (ws.take j)+chkW w):Nat):Int)from by omega]
   rfl
 ·obtain rfl:j=ws.length:=by omega
  rw[List.take_length]at hok ⊢
  exact hQ hok _ rfl
end Go.Proofs.YtecoaapkcnhlhaaDoor
namespace Go.Proofs.YtecoaapkcnhlhaaDoor
open Go Go.Vc Go.Ham Txt
def cntF(l:List (List Nat)):Nat:=(l.map qDn).sum
def okF(l:List (List Nat)):Bool:=l.all qDm
def datD(l:List (List Nat))(x:Nat):List Nat:=l.getD x []
theorem qHE(l:List (List Nat))(ws:List Nat):cntF (l++[ws])=cntF l+qDn ws:=by simp[cntF]
theorem qHF{l:List (List Nat)}(h: ∀ws∈l,ws.length<=1000):cntF l<=1000*l.length:=by
 induction l with
 |nil=>exact Nat.le_refl _
 |cons a l ih=>
   have h1:=ih fun ws hw=>h ws (List.mem_cons_of_mem _ hw)
   have h2:=qHz a
   have h3:=h a List.mem_cons_self
   simp only[cntF,List.map_cons,List.sum_cons,List.length_cons]at h1 ⊢
   omega
theorem qHG{C:List PV}{x:Nat}(v:PV)(h:C.getD x .bot=v)(hx:x<C.length):C.set x v=C:=by
 apply List.ext_getElem (by simp)
 intro i h1 h2
 rw[List.getElem_set]
 split
 ·next q=>subst q;rw[List.getD_eq_getElem?_getD,List.getElem?_eq_getElem h2]at h;exact h.symm
 ·rfl
theorem fz66 {h : Nat -> Nat} {g : Grid} {n k : Nat} (hk : k < n) (D : Nat -> List Nat) (s : List (Nat × PV)) (hs : farL 66 s) :
  SWk ⟨s,decB g n ((outC h n D k).set k (rc66 ((D k).map h))),rw66 ((D k).map h),[]⟩ ⟨s,decB g n (outC h n D (k+1)),[],[]⟩:=by
 by_cases hE:D k=[]
 ·rw[hE,List.map_nil,show rc66 []= .nil from rfl,show rw66 []=[]from rfl,qHG _ (qG4 hk D) (by rw[qG2];exact hk),qG7 D hE]
  exact SWk.refl _
 ·have hrw : rw66 ((D k).map h) = [(66, ⟨1, 54, rows u64C (nats ((D k).map h))⟩)] := by
   revert hE
   cases D k with
   |nil=>intro h;exact absurd rfl h
   |cons a r=>intro _;rfl
  have hrc:rc66 ((D k).map h)= .view 66 0 (D k).length:=by
   revert hE
   cases D k with
   |nil=>intro h;exact absurd rfl h
   |cons a r=>intro _;simp[rc66]
  rw[hrw,hrc]
  have hf:=SWk.frz ⟨s,decB g n ((outC h n D k).set k (.view 66 0 (D k).length)),[(66,⟨1,54,rows u64C (nats ((D k).map h))⟩)],[]⟩ 66
  have e2:fzS 66 ⟨1,54,rows u64C (nats ((D k).map h))⟩ s=s:=by
   clear hf
   induction s with
   |nil=>rfl
   |cons x s ih=>
     obtain⟨i,v⟩:=x
     rw[qCN]at hs
     rw[qjL,hs.1.2,ih hs.2];rfl
  have b5:=qFG (j:=66) (outC h n D k) k (D k).length (by rw[qG2];exact hk)
  have hfz:(outC h n D k).map (PV.fz 66 ⟨1,54,rows u64C (nats ((D k).map h))⟩)=outC h n D k:=by rw[qjY,qk1 _ _ (qG8 D k _ _)]
  have e:PV.fz 66 ⟨1,54,rows u64C (nats ((D k).map h))⟩ (.view 66 0 (D k).length)=outP h D k:=by
   rw[outP,if_neg hE,qjO,if_pos rfl]
   simp only[List.drop_zero]
   rw[List.take_of_length_le (by simp[rows,nats])]
  simp only[decB,e2,b5,<- qjY,List.map_set,hfz,e,qG6,push_cast,reduceIte,reduceEqDiff,reduceAdd,reduceSub,reduceMul,Nat.reduceBEq,reduceLT,reduceLeDiff,reduceCtorEq,reduceToNat,reduceNeg,cNI]at hf
  exact hf
set_option maxHeartbeats 2000000 in
theorem qHH (g : Grid) (l : List (List Nat)) (hl : FrmSm l) (Q : Exit -> St -> Prop)
  (hE:okF l=false-> ∀C' A,Q .ret ⟨[(4,.ptr 4 0),(5,.int 0),(6,.int 380),(54,.agg [.nil,.nil,.nil,.nil])],decB g l.length C',A,[]⟩)
  (h18:okF l=true-> ∀T,qhk [0,126,1,2,4,7,8] T=[]->awp (Env.of Tryd.prog) ac34_r18 Q ⟨[(1,.sl false 1 (rows (frmC false) l)),(2,.ptr 2 0),(4,.ptr 4 0),(7,.int (cntF l:Nat)),(8,.ptr 8 0)]++T,decB g l.length (outC datW l.length (datD l) l.length),[],[]⟩) (T:List (Nat×PV)) (hT:qhk [0,126,1,2,4] T=[]):
  awp (Env.of Tryd.prog) ac34_r3 Q ⟨[(1,.sl false 1 (rows (frmC false) l)),(2,.ptr 2 0),(4,.ptr 4 0)]++T,[(2,quQ false g),(4,[.nil,.nil,.nil,.nil])],[],[]⟩:=by
 have h1:=hl.n
 have hre:List.replicate l.length PV.nil=outC datW l.length (datD l) 0:=by
  symm
  rw[List.eq_replicate_iff]
  refine⟨qG2 _ _ _,fun b hb=> ?_⟩
  obtain⟨x,_,rfl⟩:=List.mem_map.1 hb
  rfl
 simp only[ac34_r3,hT,qFr,hre,qG8,push_cast,reduceIte,reduceEqDiff,reduceAdd,reduceSub,reduceMul,Nat.reduceBEq,reduceLT,reduceLeDiff,reduceCtorEq,reduceToNat,reduceNeg,cNI]
 refine⟨⟨by omega,by omega,by omega⟩,?_⟩
 refine qoK (fun j st=> ∃k:Nat,k<=l.length/\j=l.length-k/\okF (l.take k)=true/\st=⟨[(1,.sl false 1 (rows (frmC false) l)),(2,.ptr 2 0),(4,.ptr 4 0),(7,.int (cntF (l.take k):Nat)),(8,.ptr 8 0),(32,.sl false 1 (rows (frmC false) l)),(33,.int l.length),(34,.int k)],decB g l.length (outC datW l.length (datD l) k),[],[]⟩) l.length ⟨_,SWk.refl _,0,by omega,by omega,rfl,by simp only[push_cast,reduceIte,reduceEqDiff,reduceAdd,reduceSub,reduceMul,Nat.reduceBEq,reduceLT,reduceLeDiff,reduceCtorEq,reduceToNat,reduceNeg,cNI];rfl⟩ ?_
 rintro j st ⟨k,hk,rfl,hok,rfl⟩
 refine sB ?_
 refine qnU (fun h=> ?_) fun h=> ?_
 ·have hk' :k<l.length:=by omega
  obtain⟨ws,hws⟩: ∃ws,ws=l.getD k default:=⟨_,rfl⟩
  have hmem:ws∈l:=by rw[hws,List.getD_eq_getElem?_getD,List.getElem?_eq_getElem hk'];exact List.getElem_mem hk'
  have htk:l.take (k+1)=l.take k++[ws]:=by rw[qEP l k hk',hws]
  have hcb:=qHF (l:=l.take k) fun ws hw=>hl.len ws (List.mem_of_mem_take hw)
  rw[List.length_take]at hcb
  have hdk:datD l k=ws:=hws.symm
  simp only[decB,qG8,<- hws,rep1,List.set_cons_zero,push_cast,reduceIte,reduceEqDiff,reduceAdd,reduceSub,reduceMul,Nat.reduceBEq,reduceLT,reduceLeDiff,reduceCtorEq,reduceToNat,reduceNeg,cNI]
  refine⟨⟨by omega,by omega⟩,by omega,?_⟩
  have hset0:(outC datW l.length (datD l) k).set k .nil=outC datW l.length (datD l) k:=qHG _ (qG4 hk' _) (by rw[qG2];exact hk')
  refine qHD g l l.length k hk' _ (qG2 _ _ _) (fun j=>qG8 _ _ _ _) hset0 (cntF (l.take k)) (by omega) ws (hl.ok ws hmem) (hl.len ws hmem) _ (fun hb C' A=>hE (List.all_eq_false.2 ⟨ws,hmem,by rw[hb];decide⟩) C' A) fun hrow T hT=> ?_
  simp only[List.cons_append,List.nil_append,qho,hT,decB,push_cast,reduceIte,reduceEqDiff,reduceAdd,reduceSub,reduceMul,Nat.reduceBEq,reduceLT,reduceLeDiff,reduceCtorEq,reduceToNat,reduceNeg,cNI]
  have hz:=fz66 (h:=datW) (g:=g) hk' (datD l) [(1,.sl false 1 (rows (frmC false) l)),(2,.ptr 2 0),(4,.ptr 4 0),(7,.int (cntF (l.take k)+qDn ws:Nat)),(8,.ptr 8 0),(32,.sl false 1 (rows (frmC false) l)),(33,.int l.length),(34,.int ((k:Int)+1))] sC
  rw[hdk]at hz
  simp only[decB,push_cast,reduceIte,reduceEqDiff,reduceAdd,reduceSub,reduceMul,Nat.reduceBEq,reduceLT,reduceLeDiff,reduceCtorEq,reduceToNat,reduceNeg,cNI]at hz
  refine⟨⟨by omega,by omega⟩,_,hz,l.length-(k+1),by omega,k+1,by omega,rfl,?_,?_⟩
  ·rw[htk,okF,List.all_append,Bool.and_eq_true]
   exact⟨hok,by simp[hrow]⟩
  ·rw[htk,qHE]
   rfl
 ·obtain rfl:k=l.length:=by omega
  rw[List.take_length]at hok ⊢
  exact h18 hok _ rfl
end Go.Proofs.YtecoaapkcnhlhaaDoor
namespace Go.Proofs.YtecoaapkcnhlhaaDoor
open Go Go.Vc Go.Ham Txt
set_option maxHeartbeats 400000 in
theorem qHI {s : List (Nat × PV)} (hs : qtT 1000 s = true) (id i r : Nat) (ws : List Nat) (hi : i < ws.length) (hw : ws.getD i 0 < 2 ^ 64) (hr : r <= 1000000000) (B : List (Nat × List PV)) (A : List (Nat × Arr)) (h6 : lk B 6 = some [.int r]) (hA : lk A id = some ⟨1, 54, rows u64C (nats ws)⟩) :
  FnM (Env.of Tryd.prog) 69 [.eptr id i 0,.ptr 6 0] ⟨s,B,A,[]⟩ (fun v st' =>(chkW (ws.getD i 0)=2/\v= .bool false/\st' =⟨s,B,A,[]⟩)\/
   (chkW (ws.getD i 0)≠2/\v= .bool true/\st' =⟨s,up B 6 [.int (r+chkW (ws.getD i 0):Nat)],up A id ⟨1,54,rows u64C (nats (ws.set i (encW (datW (ws.getD i 0)))))⟩,[]⟩)):=by
 refine qub 1000 Tryd.func69 ok69_1000 (by show 2<=_;decide) hs (by decide) ?_
 have hde:=qEm (ws.getD i 0) hw
 have hen:=qEg (datW (ws.getD i 0)) (qAi _)
 have hck:=qA6 (ws.getD i 0)
 simp only[ac69_1000,rv69_1000,h6,hA,qFx,qCo hs,qCn hs,qCp hs,qCq hs,qCr hs,push_cast,reduceIte,reduceEqDiff,reduceAdd,reduceSub,reduceMul,Nat.reduceBEq,reduceLT,reduceLeDiff,reduceCtorEq,reduceToNat,reduceNeg,cNI]
 refine⟨by rw[qER];exact hi,?_⟩
 unfold decV at hde
 by_cases h2:chkW (ws.getD i 0)=2
 ·rw[if_pos h2]at hde
  refine qrr hde sC ?_
  simp only[h2,qCo hs,qCn hs,qCp hs,qCq hs,qCr hs,push_cast,reduceIte,reduceEqDiff,reduceAdd,reduceSub,reduceMul,Nat.reduceBEq,reduceLT,reduceLeDiff,reduceCtorEq,reduceToNat,reduceNeg,cNI]
  exact qnU (fun _=> .inl trivial) fun h=>absurd (by decide) h
 ·rw[if_neg h2]at hde
  refine qrr hde sC ?_
  simp only[h6,hA,qCo hs,qCn hs,qCp hs,qCq hs,qCr hs,push_cast,reduceIte,reduceEqDiff,reduceAdd,reduceSub,reduceMul,Nat.reduceBEq,reduceLT,reduceLeDiff,reduceCtorEq,reduceToNat,reduceNeg,cNI]
  refine qnU (fun h=>absurd rfl h) fun _=>⟨⟨by omega,by omega⟩,?_⟩
  refine qrr hen sC ?_
  simp only[hA,qER,qFy,qCo hs,qCn hs,qCp hs,qCq hs,qCr hs,push_cast,reduceIte,reduceEqDiff,reduceAdd,reduceSub,reduceMul,Nat.reduceBEq,reduceLT,reduceLeDiff,reduceCtorEq,reduceToNat,reduceNeg,cNI]
  exact⟨hi,.inr h2⟩
def mix{α:Type}(f:α->α)(l:List α)(k:Nat):List α:=(l.take k).map f++l.drop k
theorem qHJ{α:Type}(f:α->α)(l:List α):mix f l 0=l:=by simp[mix]
theorem qHK{α:Type}(f:α->α)(l:List α):mix f l l.length=l.map f:=by simp[mix]
theorem qHL{α:Type}(f:α->α)(l:List α)(k:Nat):(mix f l k).length=l.length:=by simp[mix];omega
theorem qHM{α:Type}(f:α->α)(l:List α)(k i:Nat)(h:i<l.length):(mix f l k)[i]? =some (if i<k then f l[i]else l[i]):=by
 unfold mix
 by_cases hi:i<k
 ·rw[List.getElem?_append_left (by simp;omega),if_pos hi,List.getElem?_map,List.getElem?_take,if_pos hi,List.getElem?_eq_getElem h];rfl
 ·have h2:((l.take k).map f).length=k:=by simp;omega
  rw[List.getElem?_append_right (by omega),h2,if_neg hi,List.getElem?_drop,show k+(i-k)=i by omega,List.getElem?_eq_getElem h]
theorem qHN{α:Type}(f:α->α)(d:α){l:List α}{k:Nat}(h:k<l.length):(mix f l k).getD k d=l.getD k d:=by
 rw[List.getD_eq_getElem?_getD,qHM f l k k h,if_neg (Nat.lt_irrefl k),List.getD_eq_getElem?_getD,List.getElem?_eq_getElem h]
theorem qHO{α:Type}(f:α->α)(d:α){l:List α}{k:Nat}(h:k<l.length):(mix f l k).set k (f (l.getD k d))=mix f l (k+1):=by
 apply List.ext_getElem?
 intro i
 rw[List.getElem?_set]
 by_cases hi:i<l.length
 ·rw[qHM f l (k+1) i hi,qHM f l k i hi]
  split
  ·next e=>
   subst e
   rw[qHL,if_pos h,if_pos (by omega),List.getD_eq_getElem?_getD,List.getElem?_eq_getElem h];rfl
  ·next e=>
   by_cases h3:i<k
   ·rw[if_pos h3,if_pos (by omega)]
   ·rw[if_neg h3,if_neg (by omega)]
 ·rw[if_neg (by omega),List.getElem?_eq_none (by rw[qHL];omega),List.getElem?_eq_none (by rw[qHL];omega)]
theorem qHP{w:Nat}(h:chkW w=2):fixW w=w:=if_pos h
theorem qHQ{w:Nat}(h:chkW w≠2):fixW w=encW (datW w):=if_neg h
theorem qHR{α:Type}(l:List α)(k:Nat)(d:α)(h:k<l.length):l.set k (l.getD k d)=l:=by
 apply List.ext_getElem (by simp)
 intro i h1 h2
 rw[List.getElem_set]
 split
 ·next q=>subst q;rw[List.getD_eq_getElem?_getD,List.getElem?_eq_getElem h];rfl
 ·rfl
theorem qHS(l:List Nat)(w:Nat)(h:chkW w=2):qDn (l++[w])=qDn l:=by
 unfold qDn;rw[List.countP_append];simp[h]
theorem qHT(l:List Nat)(w:Nat):qDm (l++[w])=(qDm l&&decide (chkW w≠2)):=qHx l w
def badN(l:List (List Nat))(k:Nat):List Int:=((List.range k).filter fun x=> !qDm (l.getD x [])).map fun x:Nat=>(x:Int)
theorem qHU(l:List (List Nat))(k:Nat):badN l (k+1)=if qDm (l.getD k [])then badN l k else badN l k++[(k:Int)]:=by
 unfold badN
 rw[List.range_succ,List.filter_append,List.map_append]
 cases h:qDm (l.getD k [])
 ·rw[List.filter_cons_of_pos (by rw[h];rfl)];rfl
 ·rw[List.filter_cons_of_neg (by rw[h];decide)];simp
theorem qHV(l:List (List Nat))(k:Nat):(badN l k).length<=k:=by
 unfold badN;rw[List.length_map];have:=List.length_filter_le (fun x=> !qDm (l.getD x [])) (List.range k);simpa using this
def scrB(r:Int)(l:List (List Nat)):List (Nat×List PV):=[(6,[.int r]),(2507,qAR 3000 (rsW l))]
set_option maxHeartbeats 1000000 in
theorem qHW (n x : Nat) (M : List (List Nat)) (hM : M.length = n) (hx : x < n) (ws : List Nat) (hws : M.getD x [] = ws) (hwb : ∀ w ∈ ws, w < 2 ^ 64) (hwl : ws.length <= 1000) (r : Nat) (hr : r <= 900000000) (hn : n <= 1000) (bad : List Int) (hbad : bad.length <= 1000) (Q : Exit -> St -> Prop) (T : List (Nat × PV)) (hT : qhk [0, 52, 5, 6, 7, 8, 9, 10, 16, 17] T = [])
  (hQ1:qDm ws=true->Q .normal ⟨[(5,.bv 2507 1 n),(6,.ptr 6 0),(7,nlS 47 bad),(8,.clo 69 [6]),(9,.int x),(10,.bool true),(16,.int n),(17,.int x),(42,.bool true),(43,.bool false)],scrB (r+qDn ws:Nat) (M.set x (ws.map fixW)),nlA 47 3 bad++qAS 1 54 3000 (rsW (M.set x (ws.map fixW))),[]⟩)
  (hQ2:qDm ws=false-> ∀z A,Q .normal ⟨[(5,.bv 2507 1 n),(6,.ptr 6 0),(7,nlS 47 (bad++[(x:Int)])),(8,.clo 69 [6]),(9,.int x),(16,.int n),(17,.int x),(44,z),(45,.int x),(46,.view 46 0 1),(47,nlS 47 (bad++[(x:Int)]))],scrB (r+qDn ws:Nat) (M.set x (ws.map fixW)),(46,A)::(nlA 47 3 (bad++[(x:Int)])++qAS 1 54 3000 (rsW (M.set x (ws.map fixW)))),[]⟩):
  awp (Env.of Tryd.prog) ac44_r9 Q ⟨[(5,.bv 2507 1 n),(6,.ptr 6 0),(7,nlS 47 bad),(8,.clo 69 [6]),(9,.int x),(10,.bool true),(16,.int n),(17,.int x)]++T,scrB r M,nlA 47 3 bad++qAS 1 54 3000 (rsW M),[]⟩:=by
 have hxM:x<M.length:=by omega
 have hcl:(qAR 3000 (rsW M)).length=n:=by rw[qAT,qGT,hM]
 have hcell:=qGX hxM
 rw[hws]at hcell
 have hset: ∀j,qAR 3000 (rsW M)=qAR 3000 (rsW (M.set x (mix fixW ws j))):=fun j=>qH2 hxM (by rw[qHL,hws])
 have hMx: ∀v,(M.set x v).getD x []=v:=fun v=>by rw[List.getD_eq_getElem?_getD,List.getElem?_set_self hxM];rfl
 have hlk: ∀R id,3000<=id->lk (nlA 47 3 bad++R) id=lk R id:=fun R id hid=>by
  cases bad with
  |nil=>rfl
  |cons y b=>show lk ((47,_)::R) id=_;rw[lk,if_neg (by omega)]
 have hup: ∀R id A,3000<=id->up (nlA 47 3 bad++R) id A=nlA 47 3 bad++up R id A:=fun R id A hid=>by
  cases bad with
  |nil=>rfl
  |cons y b=>show up ((47,_)::R) id A=(47,_)::up R id A;rw[up,if_neg (by omega),if_neg (by omega)]
 have hM0:M.set x (mix fixW ws 0)=M:=by
  rw[qHJ,<- hws]
  exact qHR M x [] hxM
 have h7: ∀pb pa,(nlS 47 bad).toV pb pa=(nlS 47 bad).toV pb pa:=fun _ _=>rfl
 simp only[ac44_r9,hT,scrB,Nat.mul_one,qF8 (qAR 3000 (rsW M)),hcl,hcell,push_cast,reduceIte,reduceEqDiff,reduceAdd,reduceSub,reduceMul,Nat.reduceBEq,reduceLT,reduceLeDiff,reduceCtorEq,reduceToNat,reduceNeg,cNI]
 refine⟨⟨by omega,by omega⟩,by omega,?_⟩
 refine qoK (fun m st=> ∃j:Nat,j<=ws.length/\m=ws.length-j/\st=⟨[(5,.bv 2507 1 n),(6,.ptr 6 0),(7,nlS 47 bad),(8,.clo 69 [6]),(9,.int x),(10,.bool (qDm (ws.take j))),(16,.int n),(17,.int x),(25,.int ws.length),(26,.int j)],[(6,[.int (r+qDn (ws.take j):Nat)]),(2507,qAR 3000 (rsW M))],nlA 47 3 bad++qAS 1 54 3000 (rsW (M.set x (mix fixW ws j))),[]⟩) ws.length ⟨_,SWk.refl _,0,by omega,by omega,?_⟩ ?_
 ·rw[hM0]
  refine sB ?_
  rfl
 rintro m st ⟨j,hj,rfl,rfl⟩
 have hcr:=qHz (ws.take j)
 rw[List.length_take]at hcr
 refine sB ?_
 refine qnU (fun h=> ?_) fun h=> ?_
 ·have hj' :j<ws.length:=by omega
  obtain⟨w,hw⟩: ∃w,w=ws.getD j 0:=⟨_,rfl⟩
  have hwb2:w<2^64:=hwb _ (by rw[hw,List.getD_eq_getElem?_getD,List.getElem?_eq_getElem hj'];exact List.getElem_mem hj')
  have htk:ws.take (j+1)=ws.take j++[w]:=by
   rw[List.take_succ_eq_append_getElem hj',hw,List.getD_eq_getElem?_getD,List.getElem?_eq_getElem hj'];rfl
  have hmg:(mix fixW ws j).getD j 0=w:=by rw[qHN fixW 0 hj',hw]
  have hms:=qHO fixW 0 hj'
  rw[<- hw]at hms
  have hlj:x<(M.set x (mix fixW ws j)).length:=by rw[List.length_set];exact hxM
  have hlkj:=qGY hlj
  rw[hMx]at hlkj
  simp only[Nat.mul_one,qF8 (qAR 3000 (rsW M)),hcl,hcell,hlk _ (3000+x) (by omega),hlkj,qkg,qER,qHL,push_cast,reduceIte,reduceEqDiff,reduceAdd,reduceSub,reduceMul,Nat.reduceBEq,reduceLT,reduceLeDiff,reduceCtorEq,reduceToNat,reduceNeg,cNI]
  refine⟨⟨by omega,by omega⟩,by omega,⟨by omega,by omega⟩,?_⟩
  have hfx:=qHI (s:=[(5,.bv 2507 1 n),(6,.ptr 6 0),(7,nlS 47 bad),(8,.clo 69 [6]),(9,.int x),(10,.bool (qDm (ws.take j))),(11,.int j),(16,.int n),(17,.int x),(25,.int ws.length),(26,.int j),(29,.clo 69 [6]),(30,.bv 2507 1 n),(31,.int x),(32,.ptr 2507 x),(33,.ptr 2507 x),(34,.view (3000+x) 0 ws.length),(35,.int j),(36,.eptr (3000+x) j 0)]) rfl (3000+x) j (r+qDn (ws.take j)) (mix fixW ws j) (by rw[qHL];exact hj') (by rw[hmg];exact hwb2) (by omega) [(6,[.int (r+qDn (ws.take j):Nat)]),(2507,qAR 3000 (rsW M))] (nlA 47 3 bad++qAS 1 54 3000 (rsW (M.set x (mix fixW ws j)))) rfl ((hlk _ _ (by omega)).trans hlkj)
  rw[hmg]at hfx
  refine qsK hfx ?_
  rintro _ _ (⟨h2,rfl,rfl⟩|⟨h2,rfl,rfl⟩)
  ·refine sB ?_
   refine⟨⟨by omega,by omega⟩,_,SWk.refl _,ws.length-(j+1),by omega,j+1,by omega,rfl,?_⟩
   rw[qHP h2]at hms
   have hsame:mix fixW ws (j+1)=mix fixW ws j:=by
    rw[<- hms,<- hmg];exact qHR _ _ _ (by rw[qHL];exact hj')
   rw[hsame,htk,qHT,qHS _ _ h2,h2]
   rw[show(qDm (ws.take j)&&decide ((2:Nat)≠2))=false from by simp]
   rfl
  ·rw[qHQ h2]at hms
   rw[hms,hup _ _ _ (by omega),qGZ hlj,List.set_set]
   refine sB ?_
   refine⟨⟨by omega,by omega⟩,_,SWk.refl _,ws.length-(j+1),by omega,j+1,by omega,rfl,?_⟩
   rw[htk,qHT,qHy _ _ h2,decide_eq_true h2,Bool.and_true,show(r:Int)+(qDn (ws.take j):Nat)+(chkW w:Nat)=((r+(qDn (ws.take j)+chkW w):Nat):Int)from by omega]
   rfl
 ·obtain rfl:j=ws.length:=by omega
  rw[List.take_length,qHK]
  have hset2:=hset ws.length
  rw[qHK]at hset2
  have f46:anyT nul (isId 46) (qAR 3000 (rsW M))=false:=qF6 _ _ _ fun y r _=>beq_false_of_ne (by omega)
  have f47:anyT nul (isId 47) (qAR 3000 (rsW M))=false:=qF6 _ _ _ fun y r _=>beq_false_of_ne (by omega)
  have hu: ∀id A,id<3000->up (qAS 1 54 3000 (rsW (M.set x (ws.map fixW)))) id A=(id,A)::qAS 1 54 3000 (rsW (M.set x (ws.map fixW))):=fun id A hid=>qB2 _ _ _ fun y hy=>by have:=qB3 1 54 3000 _ y hy;omega
  rw[hset2]at f46 f47 ⊢
  refine qnT (fun h=> ?_) fun h=> ?_
  ·have hk:qDm ws=false:=by simpa using h
   have hr1:(List.replicate 1 (0:Int)).length=1:=rfl
   cases bad with
   |nil=>
     simp only[qGu,qGw,f46,f47,List.nil_append,hu 46 _ (by decide),push_cast,reduceIte,reduceEqDiff,reduceAdd,reduceSub,reduceMul,Nat.reduceBEq,reduceLT,reduceLeDiff,reduceCtorEq,reduceToNat,reduceNeg,cNI]
     simp only[rep1,rows,List.map_cons,List.map_nil,List.length_cons,List.length_nil,f47,push_cast,reduceIte,reduceEqDiff,reduceAdd,reduceSub,reduceMul,Nat.reduceBEq,reduceLT,reduceLeDiff,reduceCtorEq,reduceToNat,reduceNeg,cNI]
     rw[hu 47 _ (by decide)]
     exact hQ2 hk .nil ⟨1,3,ints [(x:Int)]⟩
   |cons y b=>
     simp only[qGv,qGx,f46,f47,List.cons_append,List.nil_append,hu 46 _ (by decide),push_cast,reduceIte,reduceEqDiff,reduceAdd,reduceSub,reduceMul,Nat.reduceBEq,reduceLT,reduceLeDiff,reduceCtorEq,reduceToNat,reduceNeg,cNI]
     refine⟨by decide,⟨by simp at hbad;omega,by simp at hbad;omega⟩,?_⟩
     have hq:=hQ2 hk .bot ⟨1,3,ints [(x:Int)]⟩
     simp only[List.cons_append,nlS,nlA,List.length_cons,List.length_append,List.length_nil,scrB]at hq
     exact hq
  ·have hk:qDm ws=true:=by simpa using h
   rw[hk]
   exact hQ1 hk
end Go.Proofs.YtecoaapkcnhlhaaDoor
namespace Go.Proofs.YtecoaapkcnhlhaaDoor
open Go Go.Vc Go.Ham Txt
def scrF(l:List (List Nat)):List (List Nat):=l.map fun ws=>ws.map fixW
def scrV(l:List (List Nat)):PV:= .tup [.sl true 1 (rows (frmC true) (scrF l)),.int (cntF l:Nat),.sl true 1 (ints (badN l l.length))]
theorem fz47(bad:List Int)(s s' :List (Nat×PV))(B:List (Nat×List PV))(rs:List (Option (List (List PV))))(hB:refB nul (isId 47) B=false)(hs:fzS 47 ⟨1,3,ints bad⟩ s=s')(hn:bad=[]->s=s'):SWk ⟨s,B,nlA 47 3 bad++qAS 1 54 3000 rs,[]⟩ ⟨s',B,qAS 1 54 3000 rs,[]⟩:=by
 by_cases hb:bad=[]
 ·rw[<- hn hb,hb]
  exact SWk.refl _
 ·obtain⟨y,b,rfl⟩:=List.exists_cons_of_ne_nil hb
  have hf:=SWk.frz ⟨s,B,nlA 47 3 (y::b)++qAS 1 54 3000 rs,[]⟩ 47
  have e1: ∀b' :List (Nat×List PV),refB nul (isId 47) b' =false->fzB 47 ⟨1,3,ints (y::b)⟩ b' =b' :=by
   intro b'
   induction b' with
   |nil=>exact fun _=>rfl
   |cons x b' ih=>
     obtain⟨i,v⟩:=x
     intro h
     rw[qin,Bool.or_eq_false_iff]at h
     rw[qjN,h.1,ih h.2];rfl
  rw[qk8]at hf
  simp only[nlA,List.cons_append,List.nil_append]at hf ⊢
  rw[show lk ((47,(⟨1,3,ints (y::b)⟩:Arr))::qAS 1 54 3000 rs) 47=some ⟨1,3,ints (y::b)⟩from rfl,qk6,qF2,hs,e1 B hB,qF3 _ _ _ _ _ (by decide)]at hf
  exact hf
theorem qHX(r:Int)(s s' :List (Nat×PV))(l:List (List Nat))(hs: ∀j,3000<=j->farL j s)(h:(s.map fun x=>(x.1,x.2.fbV 2507 ((rsW l).map rowP)))=s'):SWk ⟨s,[(6,[.int r]),(2507,qAR 3000 (rsW l))],qAS 1 54 3000 (rsW l),[]⟩ ⟨s',[(6,[.int r])],[],[]⟩:=by
 refine SWk.trans (SWk.frzRows (b1:=[(6,[.int r])]) (b2:=[]) (id:=2507) (k:=3000) [] (rsW l) hs (fun _ _=>rfl) (fun _ _=>rfl)) ?_
 exact SWk.frzB 2507 rfl (qH1 l) h rfl
def bdV(bad:List Int):PV:=match bad with|[]=> .nil|_::_=> .sl true 1 (ints bad)
theorem qHY(bad:List Int)(A:Arr)(rs:List (Option (List (List PV)))):((46,A)::(nlA 47 3 bad++qAS 1 54 3000 rs)).filter (fun x=>x.1 !=46)=nlA 47 3 bad++qAS 1 54 3000 rs:=by
 have h:=qB5 1 54 (fun x=>x.1 !=46) 3000 rs fun y r _=>bne_iff_ne.2 (show 3000+y≠46 by omega)
 rw[List.filter_cons_of_neg Bool.false_ne_true,List.filter_append,h]
 congr 1
 cases bad<;>rfl
set_option maxHeartbeats 1000000 in
theorem qHZ(l:List (List Nat))(hl:FrmSm l):FnEq Tryd.prog 44 [.sl false 1 (rows (frmC false) l)] (scrV l):=by
 have hn:=hl.n
 refine FnEq.of_awp Tryd.func44 ok44 (by show 1<=_;decide) (by unfold scrV;simp only[push_cast,reduceIte,reduceEqDiff,reduceAdd,reduceSub,reduceMul,Nat.reduceBEq,reduceLT,reduceLeDiff,reduceCtorEq,reduceToNat,reduceNeg,cNI];simp) ?_
 simp only[ac44,rv44,push_cast,reduceIte,reduceEqDiff,reduceAdd,reduceSub,reduceMul,Nat.reduceBEq,reduceLT,reduceLeDiff,reduceCtorEq,reduceToNat,reduceNeg,cNI]
 refine qDG [2507] (naK l.length) (qGP l hl) rfl rfl (qGS l) ?_
 rw[qGW]
 have f6: ∀M,anyT (isId 6) nul (qAR 3000 (rsW M))=false:=fun M=>by rw[<- qhH];exact qAW _ _ _ _ fun _ _=>rfl
 simp only[ac44_r5,f6,List.nil_append,push_cast,reduceIte,reduceEqDiff,reduceAdd,reduceSub,reduceMul,Nat.reduceBEq,reduceLT,reduceLeDiff,reduceCtorEq,reduceToNat,reduceNeg,cNI]
 refine qoK (fun m st=> ∃k:Nat,k<=l.length/\m=l.length-k/\st=⟨[(5,.bv 2507 1 l.length),(6,.ptr 6 0),(7,nlS 47 (badN l k)),(8,.clo 69 [6]),(16,.int l.length),(17,.int k)],scrB (cntF (l.take k):Nat) (mix (fun ws=>ws.map fixW) l k),nlA 47 3 (badN l k)++qAS 1 54 3000 (rsW (mix (fun ws=>ws.map fixW) l k)),[]⟩) l.length ⟨_,SWk.refl _,0,by omega,by omega,?_⟩ ?_
 ·rw[qHJ]
  refine sB ?_
  rfl
 rintro m st ⟨k,hk,rfl,rfl⟩
 refine sB ?_
 have hbl:=qHV l k
 have hcb:=qHF (l:=l.take k) fun ws hw=>hl.len ws (List.mem_of_mem_take hw)
 rw[List.length_take]at hcb
 refine qnU (fun h=> ?_) fun h=> ?_
 ·have hk' :k<l.length:=by omega
  obtain⟨ws,hws⟩: ∃ws,ws=l.getD k []:=⟨_,rfl⟩
  have hmem:ws∈l:=by rw[hws,List.getD_eq_getElem?_getD,List.getElem?_eq_getElem hk'];exact List.getElem_mem hk'
  have htk:l.take (k+1)=l.take k++[ws]:=by
   rw[List.take_succ_eq_append_getElem hk',hws,List.getD_eq_getElem?_getD,List.getElem?_eq_getElem hk'];rfl
  have hms:=qHO (fun ws:List Nat=>ws.map fixW) [] hk'
  rw[<- hws]at hms
  have hbs:=qHU l k
  rw[<- hws]at hbs
  refine qHW l.length k (mix (fun ws=>ws.map fixW) l k) (qHL _ _ _) hk' ws ((qHN _ [] hk').trans hws.symm) (hl.ok ws hmem) (hl.len ws hmem) (cntF (l.take k)) (by omega) (by omega) (badN l k) (by omega) _ [(18,.bool (decide ((k:Int)<l.length))),(19,.int k)] sC ?_ ?_
  ·intro hk2
   simp only[scrB,push_cast,reduceIte,reduceEqDiff,reduceAdd,reduceSub,reduceMul,Nat.reduceBEq,reduceLT,reduceLeDiff,reduceCtorEq,reduceToNat,reduceNeg,cNI]
   refine⟨⟨by omega,by omega⟩,_,SWk.refl _,l.length-(k+1),by omega,k+1,by omega,rfl,?_⟩
   rw[hms,htk,qHE,hbs,if_pos hk2]
   rfl
  ·intro hk2 z A
   simp only[scrB,push_cast,reduceIte,reduceEqDiff,reduceAdd,reduceSub,reduceMul,Nat.reduceBEq,reduceLT,reduceLeDiff,reduceCtorEq,reduceToNat,reduceNeg,cNI]
   refine⟨⟨by omega,by omega⟩,_,SWk.drop (fun _=>true) (fun i=>i !=46),l.length-(k+1),by omega,k+1,by omega,rfl,?_⟩
   rw[qHY,hms,htk,qHE,hbs,if_neg (by rw[hk2];decide)]
   rfl
 ·obtain rfl:k=l.length:=by omega
  rw[List.take_length,qHK,show(l.map fun ws=>ws.map fixW)=scrF l from rfl]
  have hf47:anyT nul (isId 47) (qAR 3000 (rsW (scrF l)))=false:=qF6 _ _ _ fun y r _=>beq_false_of_ne (by omega)
  have hml:(scrF l).length=l.length:=by simp[scrF]
  refine qr5 ⟨[(5,.sl true 1 (rows (frmC true) (scrF l))),(6,.ptr 6 0),(7,bdV (badN l l.length))],[(6,[.int (cntF l:Nat)])],[],[]⟩ ?_ ?_
  ·refine SWk.trans (SWk.dropS (fun i=>i==5||i==6||i==7) (fun _=>true) (fun _=>true)) ?_
   have hfa: ∀A:List (Nat×Arr),A.filter (fun _=>true)=A:=fun A=>List.filter_eq_self.2 fun _ _=>rfl
   rw[hfa]
   refine SWk.trans (fz47 (badN l l.length) [(5,.bv 2507 1 l.length),(6,.ptr 6 0),(7,nlS 47 (badN l l.length))] [(5,.bv 2507 1 l.length),(6,.ptr 6 0),(7,bdV (badN l l.length))] [(6,[.int (cntF l:Nat)]),(2507,qAR 3000 (rsW (scrF l)))] (rsW (scrF l)) ?_ ?_ ?_) ?_
   ·rw[qin,qin,hf47];rfl
   ·cases badN l l.length with
    |nil=>rfl
    |cons y b=>
      simp only[nlS,bdV,qjL,qjK,push_cast,reduceIte,reduceEqDiff,reduceAdd,reduceSub,reduceMul,Nat.reduceBEq,reduceLT,reduceLeDiff,reduceCtorEq,reduceToNat,reduceNeg,cNI]
      rw[List.take_of_length_le (by simp[rows])]
   ·intro hb;rw[hb];rfl
   ·refine qHX (cntF l:Nat) _ _ (scrF l) (fun j hj=> ?_) ?_
    ·have h7 : (bdV (badN l l.length)).toV (isId j) nul = false /\ (bdV (badN l l.length)).toV nul (isId j) = false := by
      unfold bdV;split<;>exact⟨rfl,rfl⟩
     exact⟨⟨beq_false_of_ne (show 2507≠j by omega),rfl⟩,⟨beq_false_of_ne (show 6≠j by omega),rfl⟩,h7,trivial⟩
    ·have h7 : (bdV (badN l l.length)).fbV 2507 ((rsW (scrF l)).map rowP) = bdV (badN l l.length) := by
      unfold bdV;split<;>rfl
     have h5:PV.fbV 2507 ((rsW (scrF l)).map rowP) (.bv 2507 1 l.length)= .sl true 1 (rows (frmC true) (scrF l)):=by
      rw[<- qH0]
      simp only[PV.fbV,PV.fbA,PV.fb,if_true,List.length_map,qGT,hml,and_self]
     simp only[List.map_cons,List.map_nil,h7,h5]
     rfl
  ·unfold scrV bdV
   cases badN l l.length with
   |nil=>
     refine sB ?_
     exact fun _ _ _ _=>trivial
   |cons y b=>
     refine sB ?_
     exact⟨fun _ _ _ _=>trivial,fun _ _=>trivial⟩
end Go.Proofs.YtecoaapkcnhlhaaDoor
namespace Go.Proofs.YtecoaapkcnhlhaaDoor
open Go Go.Vc Go.Ham Txt
theorem qI0(v k:Nat)(hv:v<2^64)(hk:k<=64):bitF .and .u64 (shfF .shr .u64 (v:Int) (k:Int)) 1=((v.testBit k).toNat:Int):=by
 rw[qBi v k hk,show(1:Int)=((1:Nat):Int)from rfl,qBc (Nat.lt_of_le_of_lt (Nat.div_le_self _ _) hv) (by decide)]
 have:v/2^k&&&1=(v.testBit k).toNat:=by
  rw[Nat.testBit_eq_decide_div_mod_eq,Nat.and_one_is_mod]
  rcases Nat.mod_two_eq_zero_or_one (v/2^k)with e|e<;>rw[e]<;>rfl
 rw[this]
set_option maxHeartbeats 2000000 in
theorem qI1 {E : Env} (hE : E.p = Tryd.prog) (hkk : E.kk <= 2000) (hpn : ∀ ch st, ¬ E.pan ch st) {s : List (Nat × PV)} (hs : qtT 2000 s = true) (n x : Nat) (hx : x < n) (hn : n <= 1000) (D : Nat -> List Nat) (B : List (Nat × List PV)) (A : List (Nat × Arr)) (L : List Int) (m : List (Nat × Mp))
  (h8:lk B 8=some [.bv 31 1 n]) (h31:lk B 31=some (outC datW n D n)) (h17:lk B 17=some [.view 74 0 n]) (hA:lk A 74=some ⟨1,3,ints L⟩) (hL:L.length=n) (c:Nat) (hc:L.getD x default=c) (hcl:c/57<(D x).length) (hcb:c<2000000000):
  FnM E 57 [.int x,.ptr 8 0,.ptr 17 0] ⟨s,B,A,m⟩ (fun r st' =>r= .int ((datW ((D x).getD (c/57) 0)).testBit (c%57)).toNat/\st' =⟨s,B,up A 74 ⟨1,3,ints (L.set x ((c:Int)+1))⟩,m⟩):=by
 refine qub 2000 (by rw[hE];exact Tryd.func57) (by rw[hE];exact ok57_2000) (by show 3<=_;decide) hs hkk ?_ hpn
 have hlen:(outC datW n D n).length=n:=qG2 _ _ _
 have hcell:(outC datW n D n).getD x .bot= .sl true 1 (rows u64C (nats ((D x).map datW))):=by
  have hne: ¬D x=[]:=fun e=>by rw[e]at hcl;exact absurd hcl (Nat.not_lt_zero _)
  simp only[outC,List.getD_eq_getElem?_getD,List.getElem?_map,List.getElem?_range hx,Option.map_some,Option.getD_some,if_pos hx,outP,if_neg hne]
 generalize outC datW n D n=C at *
 obtain⟨q,hq⟩: ∃q,q=c/57:=⟨_,rfl⟩
 obtain⟨r,hr⟩: ∃r,r=c%57:=⟨_,rfl⟩
 have hd:(c:Int)/57=(q:Int):=by omega
 have hm:(c:Int)%57=(r:Int):=by omega
 rw[<- hq]at hcl
 have hget:(nats ((D x).map datW)).getD q default=((datW ((D x).getD q 0):Nat):Int):=by
  rw[qFx,List.getD_eq_getElem?_getD,List.getD_eq_getElem?_getD,List.getElem?_map,List.getElem?_eq_getElem hcl]
  rfl
 have hw:=qAi ((D x).getD q 0)
 have hb:=qI0 (datW ((D x).getD q 0)) r (by omega) (by omega)
 have hbn:=Bool.toNat_le ((datW ((D x).getD q 0)).testBit r)
 simp only[ac57_2000,rv57_2000,h8,h31,h17,hA,hL,hc,Nat.mul_one,qF8 C,hlen,hcell,qCo hs,qCn hs,qCp hs,qCq hs,qCr hs,hd,hm,hget,hb,push_cast,reduceIte,reduceEqDiff,reduceAdd,reduceSub,reduceMul,Nat.reduceBEq,reduceLT,reduceLeDiff,reduceCtorEq,reduceToNat,reduceNeg,cNI]
 rw[<- hq,<- hr,qER,List.length_map]
 exact⟨⟨by omega,by omega⟩,by omega,⟨by omega,by omega⟩,hx,⟨by omega,by omega,by decide⟩,⟨by omega,by omega⟩,hcl,⟨by omega,by omega⟩,hx,⟨by omega,by omega,by decide⟩,by omega,⟨by omega,by omega⟩,hx,⟨by omega,by omega⟩,⟨by omega,by omega⟩,hx,⟨by omega,by omega⟩,rfl⟩
end Go.Proofs.YtecoaapkcnhlhaaDoor
namespace Go.Proofs.YtecoaapkcnhlhaaDoor
open Go Go.Vc Go.Ham Txt
def qI2(aK i:Nat)(v:Int)(x:Nat)(bt:Int)(k:Nat)(w1 w2:Int):Nat->PV
 |0=> .ptr 1020 0
 |1=> .eptr aK i 0
 |2=> .eptr aK i 0
 |3=> .int v
 |4=> .clo 57 [8,17]
 |5=> .int x
 |6=> .int bt
 |7=> .int k
 |8=> .int w1
 |9=> .int w2
 |10=> .eptr aK i 0
 |_=> .bot
def qI3(B:List (Nat×List PV))(A A6 A11:List (Nat×Arr))(dn:List Nat):List (Nat×List PV)×List (Nat×Arr)×List (Nat×Mp):=(B,if dn.contains 11=true then A11 else if dn.contains 6=true then A6 else A,[])
set_option maxHeartbeats 4000000 in
theorem qI4 {s0 : List (Nat × PV)} (hs : qtT 2000 s0 = true) (aK i v x k n : Nat) (l L : List Int) (D : Nat -> List Nat) (c : Nat) (B : List (Nat × List PV)) (A : List (Nat × Arr)) (nb : Int) (K : St -> Prop)
  (g18:getL s0 1018= .ptr 18 0) (g19:getL s0 1019= .int x) (g20:getL s0 1020= .ptr 1020 0) (g21:getL s0 1021= .int k)
  (h18:lk B 18=some [.clo 57 [8,17]]) (h20:lk B 1020=some [.eptr aK i 0,.int nb])
  (h8:lk B 8=some [.bv 31 1 n]) (h31:lk B 31=some (outC datW n D n)) (h17:lk B 17=some [.view 74 0 n]) (hA:lk A 74=some ⟨1,3,ints L⟩) (hL:L.length=n) (hc:L.getD x default=c) (hx:x<n) (hn:n<=1000) (hcl:c/57<(D x).length) (hcb:c<2000000000)
  (haK:lk A aK=some ⟨1,3,ints l⟩) (hne:aK≠74) (hi:i<l.length) (hv:l.getD i default=v) (hvb:v<2^k) (hk:k<62)
  (hK:K ⟨slA (qI2 aK i v x ((datW ((D x).getD (c/57) 0)).testBit (c%57)).toNat k (((datW ((D x).getD (c/57) 0)).testBit (c%57)).toNat<<<k:Nat) (v|||(((datW ((D x).getD (c/57) 0)).testBit (c%57)).toNat<<<k):Nat)) xs34_27 s0,B,up (up A 74 ⟨1,3,ints (L.set x ((c:Int)+1))⟩) aK ⟨1,3,ints (l.set i (v|||(((datW ((D x).getD (c/57) 0)).testBit (c%57)).toNat<<<k):Nat))⟩,[]⟩):
  allK (Env.of Tryd.prog) xs34_27 xs34_27.length [] ⟨s0,B,A,[]⟩ K:=by
 have hbn:=Bool.toNat_le ((datW ((D x).getD (c/57) 0)).testBit (c%57))
 have hnx:=fun(s:List (Nat×PV)) hs=>qI1 (E:=Env.of Tryd.prog) rfl (Nat.zero_le _) (fun _ _ h=>h) (s:=s) hs n x hx hn D B A L [] h8 h31 h17 hA hL c hc hcl hcb
 generalize ((datW ((D x).getD (c/57) 0)).testBit (c%57)).toNat=bt at *
 have hsh:bt<<<k<2^62:=by
  rw[Nat.shiftLeft_eq]
  have:2^k<=2^61:=Nat.pow_le_pow_right (by decide) (by omega)
  rcases Nat.le_one_iff_eq_zero_or_eq_one.1 hbn with e|e<;>rw[e]<;>omega
 have hv62:v<2^62:=Nat.lt_of_lt_of_le hvb (Nat.pow_le_pow_right (by decide) (by omega))
 have e1:shfF .shl .i64 (bt:Int) (k:Int)=((bt<<<k:Nat):Int):=by
  show IntKind.i64.wrap ((bt:Int)*2^(min (k:Int).toNat 64))=_
  rw[Int.toNat_natCast,Nat.min_eq_left (by omega),show(bt:Int)*2^k=((bt<<<k:Nat):Int)from by rw[Nat.shiftLeft_eq];norm_cast]
  have hw: ∀z:Nat,z<2^62->IntKind.i64.wrap (z:Int)=(z:Int):=fun z hz=>qap (by simp only[ikLo];omega) (by simp only[ikHi];omega)
  exact hw _ hsh
 have e2:bitF .or .i64 (v:Int) ((bt<<<k:Nat):Int)=((v|||bt<<<k:Nat):Int):=qBg (Nat.lt_trans hv62 (by decide)) (Nat.lt_trans hsh (by decide))
 generalize bt<<<k=w1 at *
 generalize v|||w1=w2 at *
 have hlkA: ∀Z,lk (up A 74 Z) aK=some ⟨1,3,ints l⟩:=fun Z=>by rw[qa2,if_neg (Ne.symm hne)];exact haK
 refine qFe (ops:=xs34_27) (fun _=>qI2 aK i v x bt k w1 w2) (qI3 B A (up A 74 ⟨1,3,ints (L.set x ((c:Int)+1))⟩) (up (up A 74 ⟨1,3,ints (L.set x ((c:Int)+1))⟩) aK ⟨1,3,ints (l.set i w2)⟩)) rfl rfl ?_ ?_ rfl
 ·rw[xs34_27_all]
  refine⟨?_,?_,?_,?_,?_,?_,?_,?_,?_,?_,?_,?_⟩
  ·intro dn S hr hc2 hS L2 K hK
   have q1020:getL S 1020= .ptr 1020 0:=(L2 1020 trivial).trans g20
   have em: ∀q1 q2 q3 q4,qI3 q1 q2 q3 q4 (0::dn)=qI3 q1 q2 q3 q4 dn:=fun _ _ _ _=>rfl
   rw[em,<- hS]at hK
   have hb:(qI3 B A (up A 74 ⟨1,3,ints (L.set x ((c:Int)+1))⟩) (up (up A 74 ⟨1,3,ints (L.set x ((c:Int)+1))⟩) aK ⟨1,3,ints (l.set i w2)⟩) dn).1=B:=rfl
   rw[hb]at hK ⊢
   simp only[q1020,push_cast,reduceIte,reduceEqDiff,reduceAdd,reduceSub,reduceMul,Nat.reduceBEq,reduceLT,reduceLeDiff,reduceCtorEq,reduceToNat,reduceNeg,cNI]
   first|exact hK|exact⟨by omega,hK⟩
  ·intro dn S hr hc2 hS L2 K hK
   have q1085:getL S 1085= .ptr 1020 0:=L2 1085 (qAI hr (j:=0) (by decide))
   have em: ∀q1 q2 q3 q4,qI3 q1 q2 q3 q4 (1::dn)=qI3 q1 q2 q3 q4 dn:=fun _ _ _ _=>rfl
   rw[em,<- hS]at hK
   have hb:(qI3 B A (up A 74 ⟨1,3,ints (L.set x ((c:Int)+1))⟩) (up (up A 74 ⟨1,3,ints (L.set x ((c:Int)+1))⟩) aK ⟨1,3,ints (l.set i w2)⟩) dn).1=B:=rfl
   rw[hb]at hK ⊢
   simp only[q1085,h20,push_cast,reduceIte,reduceEqDiff,reduceAdd,reduceSub,reduceMul,Nat.reduceBEq,reduceLT,reduceLeDiff,reduceCtorEq,reduceToNat,reduceNeg,cNI]
   first|exact hK|exact⟨by omega,hK⟩
  ·intro dn S hr hc2 hS L2 K hK
   have q1086:getL S 1086= .eptr aK i 0:=L2 1086 (qAI hr (j:=1) (by decide))
   have em: ∀q1 q2 q3 q4,qI3 q1 q2 q3 q4 (2::dn)=qI3 q1 q2 q3 q4 dn:=fun _ _ _ _=>rfl
   rw[em,<- hS]at hK
   have hb:(qI3 B A (up A 74 ⟨1,3,ints (L.set x ((c:Int)+1))⟩) (up (up A 74 ⟨1,3,ints (L.set x ((c:Int)+1))⟩) aK ⟨1,3,ints (l.set i w2)⟩) dn).1=B:=rfl
   rw[hb]at hK ⊢
   simp only[q1086,push_cast,reduceIte,reduceEqDiff,reduceAdd,reduceSub,reduceMul,Nat.reduceBEq,reduceLT,reduceLeDiff,reduceCtorEq,reduceToNat,reduceNeg,cNI]
   first|exact hK|exact⟨by omega,hK⟩
  ·intro dn S hr hc2 hS L2 K hK
   have q1087:getL S 1087= .eptr aK i 0:=L2 1087 (qAI hr (j:=2) (by decide))
   have h11:dn.contains 11=false:=qAK hc2 hr (List.mem_of_getElem? (i:=11) rfl) (by decide)
   have em: ∀q1 q2 q3 q4,qI3 q1 q2 q3 q4 (3::dn)=qI3 q1 q2 q3 q4 dn:=fun _ _ _ _=>rfl
   rw[em,<- hS]at hK
   revert hK
   unfold qI3
   rw[h11]
   intro hK
   cases h6:dn.contains 6<;>rw[h6]at hK<;>simp only[q1087,haK,hlkA,hv,push_cast,reduceIte,reduceEqDiff,reduceAdd,reduceSub,reduceMul,Nat.reduceBEq,reduceLT,reduceLeDiff,reduceCtorEq,reduceToNat,reduceNeg,cNI]at hK ⊢ <;>exact⟨hi,hK⟩
  ·intro dn S hr hc2 hS L2 K hK
   have q1018:getL S 1018= .ptr 18 0:=(L2 1018 trivial).trans g18
   have em: ∀q1 q2 q3 q4,qI3 q1 q2 q3 q4 (4::dn)=qI3 q1 q2 q3 q4 dn:=fun _ _ _ _=>rfl
   rw[em,<- hS]at hK
   have hb:(qI3 B A (up A 74 ⟨1,3,ints (L.set x ((c:Int)+1))⟩) (up (up A 74 ⟨1,3,ints (L.set x ((c:Int)+1))⟩) aK ⟨1,3,ints (l.set i w2)⟩) dn).1=B:=rfl
   rw[hb]at hK ⊢
   simp only[q1018,h18,push_cast,reduceIte,reduceEqDiff,reduceAdd,reduceSub,reduceMul,Nat.reduceBEq,reduceLT,reduceLeDiff,reduceCtorEq,reduceToNat,reduceNeg,cNI]
   first|exact hK|exact⟨by omega,hK⟩
  ·intro dn S hr hc2 hS L2 K hK
   have q1019:getL S 1019= .int x:=(L2 1019 trivial).trans g19
   have em: ∀q1 q2 q3 q4,qI3 q1 q2 q3 q4 (5::dn)=qI3 q1 q2 q3 q4 dn:=fun _ _ _ _=>rfl
   rw[em,<- hS]at hK
   have hb:(qI3 B A (up A 74 ⟨1,3,ints (L.set x ((c:Int)+1))⟩) (up (up A 74 ⟨1,3,ints (L.set x ((c:Int)+1))⟩) aK ⟨1,3,ints (l.set i w2)⟩) dn).1=B:=rfl
   rw[hb]at hK ⊢
   simp only[q1019,push_cast,reduceIte,reduceEqDiff,reduceAdd,reduceSub,reduceMul,Nat.reduceBEq,reduceLT,reduceLeDiff,reduceCtorEq,reduceToNat,reduceNeg,cNI]
   first|exact hK|exact⟨by omega,hK⟩
  ·intro dn S hr hc2 hS L2 K hK
   have q1089:getL S 1089= .clo 57 [8,17]:=L2 1089 (qAI hr (j:=4) (by decide))
   have q1090:getL S 1090= .int x:=L2 1090 (qAI hr (j:=5) (by decide))
   have h6:dn.contains 6=false:=qAJ hr
   have h11:dn.contains 11=false:=qAK hc2 hr (List.mem_of_getElem? (i:=11) rfl) (by decide)
   have em: ∀q1 q2 q3 q4,qI3 q1 q2 q3 q4 (6::dn)=(q1,q3,[]):=fun q1 q2 q3 q4=>by
    show(q1,if dn.contains 11=true then _ else if true=true then _ else _,_)=_
    rw[h11];rfl
   have em0: ∀q1 q2 q3 q4,qI3 q1 q2 q3 q4 dn=(q1,q2,[]):=fun q1 q2 q3 q4=>by
    unfold qI3
    rw[h11,h6];rfl
   rw[em,<- hS]at hK
   rw[em0]
   have hSl:qtT 2000 S=true:=by rw[hS];exact qFg hs rfl
   simp only[q1089,q1090,push_cast,reduceIte,reduceEqDiff,reduceAdd,reduceSub,reduceMul,Nat.reduceBEq,reduceLT,reduceLeDiff,reduceCtorEq,reduceToNat,reduceNeg,cNI]
   refine FnM.mono (hnx S hSl) ?_
   rintro _ _ ⟨rfl,rfl⟩
   exact hK
  ·intro dn S hr hc2 hS L2 K hK
   have q1021:getL S 1021= .int k:=(L2 1021 trivial).trans g21
   have em: ∀q1 q2 q3 q4,qI3 q1 q2 q3 q4 (7::dn)=qI3 q1 q2 q3 q4 dn:=fun _ _ _ _=>rfl
   rw[em,<- hS]at hK
   have hb:(qI3 B A (up A 74 ⟨1,3,ints (L.set x ((c:Int)+1))⟩) (up (up A 74 ⟨1,3,ints (L.set x ((c:Int)+1))⟩) aK ⟨1,3,ints (l.set i w2)⟩) dn).1=B:=rfl
   rw[hb]at hK ⊢
   simp only[q1021,push_cast,reduceIte,reduceEqDiff,reduceAdd,reduceSub,reduceMul,Nat.reduceBEq,reduceLT,reduceLeDiff,reduceCtorEq,reduceToNat,reduceNeg,cNI]
   first|exact hK|exact⟨by omega,hK⟩
  ·intro dn S hr hc2 hS L2 K hK
   have q1091:getL S 1091= .int bt:=L2 1091 (qAI hr (j:=6) (by decide))
   have q1092:getL S 1092= .int k:=L2 1092 (qAI hr (j:=7) (by decide))
   have em: ∀q1 q2 q3 q4,qI3 q1 q2 q3 q4 (8::dn)=qI3 q1 q2 q3 q4 dn:=fun _ _ _ _=>rfl
   rw[em,<- hS]at hK
   have hb:(qI3 B A (up A 74 ⟨1,3,ints (L.set x ((c:Int)+1))⟩) (up (up A 74 ⟨1,3,ints (L.set x ((c:Int)+1))⟩) aK ⟨1,3,ints (l.set i w2)⟩) dn).1=B:=rfl
   rw[hb]at hK ⊢
   simp only[q1091,q1092,e1,push_cast,reduceIte,reduceEqDiff,reduceAdd,reduceSub,reduceMul,Nat.reduceBEq,reduceLT,reduceLeDiff,reduceCtorEq,reduceToNat,reduceNeg,cNI]
   first|exact hK|exact⟨by omega,hK⟩
  ·intro dn S hr hc2 hS L2 K hK
   have q1088:getL S 1088= .int v:=L2 1088 (qAI hr (j:=3) (by decide))
   have q1093:getL S 1093= .int w1:=L2 1093 (qAI hr (j:=8) (by decide))
   have em: ∀q1 q2 q3 q4,qI3 q1 q2 q3 q4 (9::dn)=qI3 q1 q2 q3 q4 dn:=fun _ _ _ _=>rfl
   rw[em,<- hS]at hK
   have hb:(qI3 B A (up A 74 ⟨1,3,ints (L.set x ((c:Int)+1))⟩) (up (up A 74 ⟨1,3,ints (L.set x ((c:Int)+1))⟩) aK ⟨1,3,ints (l.set i w2)⟩) dn).1=B:=rfl
   rw[hb]at hK ⊢
   simp only[q1088,q1093,e2,push_cast,reduceIte,reduceEqDiff,reduceAdd,reduceSub,reduceMul,Nat.reduceBEq,reduceLT,reduceLeDiff,reduceCtorEq,reduceToNat,reduceNeg,cNI]
   first|exact hK|exact⟨by omega,hK⟩
  ·intro dn S hr hc2 hS L2 K hK
   have q1086:getL S 1086= .eptr aK i 0:=L2 1086 (qAI hr (j:=1) (by decide))
   have em: ∀q1 q2 q3 q4,qI3 q1 q2 q3 q4 (10::dn)=qI3 q1 q2 q3 q4 dn:=fun _ _ _ _=>rfl
   rw[em,<- hS]at hK
   have hb:(qI3 B A (up A 74 ⟨1,3,ints (L.set x ((c:Int)+1))⟩) (up (up A 74 ⟨1,3,ints (L.set x ((c:Int)+1))⟩) aK ⟨1,3,ints (l.set i w2)⟩) dn).1=B:=rfl
   rw[hb]at hK ⊢
   simp only[q1086,push_cast,reduceIte,reduceEqDiff,reduceAdd,reduceSub,reduceMul,Nat.reduceBEq,reduceLT,reduceLeDiff,reduceCtorEq,reduceToNat,reduceNeg,cNI]
   first|exact hK|exact⟨by omega,hK⟩
  ·intro dn S hr hc2 hS L2 K hK
   have q1095:getL S 1095= .eptr aK i 0:=L2 1095 (qAI hr (j:=10) (by decide))
   have q1094:getL S 1094= .int w2:=L2 1094 (qAI hr (j:=9) (by decide))
   have h6:dn.contains 6=true:=qAI hr (j:=6) (by decide)
   have h11:dn.contains 11=false:=qAJ hr
   have em: ∀q1 q2 q3 q4,qI3 q1 q2 q3 q4 (11::dn)=(q1,q4,[]):=fun q1 q2 q3 q4=>rfl
   have em0: ∀q1 q2 q3 q4,qI3 q1 q2 q3 q4 dn=(q1,q3,[]):=fun q1 q2 q3 q4=>by
    unfold qI3
    rw[h11,h6];rfl
   rw[em,<- hS]at hK
   rw[em0]
   have hK:K ⟨S,_,_,_⟩:=hK
   simp only[q1095,q1094,hlkA,push_cast,reduceIte,reduceEqDiff,reduceAdd,reduceSub,reduceMul,Nat.reduceBEq,reduceLT,reduceLeDiff,reduceCtorEq,reduceToNat,reduceNeg,cNI]at hK ⊢
   exact⟨hi,hK⟩
 ·intro dn h
  rw[xs34_27_all]at h
  obtain⟨h0_,h1_,h2_,h3_,h4_,h5_,h6_,h7_,h8_,h9_,h10_,h11_⟩:=h
  have em: ∀q1 q2 q3 q4,qI3 q1 q2 q3 q4 dn=(q1,q4,[]):=fun q1 q2 q3 q4=>by
   unfold qI3
   rw[if_pos h11_]
  rw[em]
  exact hK
end Go.Proofs.YtecoaapkcnhlhaaDoor
namespace Go.Proofs.YtecoaapkcnhlhaaDoor
open Go Go.Vc Go.Ham Txt
theorem qI5: ∀(k j n:Nat),n<2^j->Go.Lib.bitLenAux k n<=j
 |0,_,_,_=>Nat.zero_le _
 | k + 1, j, n, h => by
   unfold Go.Lib.bitLenAux
   split
   ·exact Nat.zero_le _
   ·cases j with
    |zero=>omega
    |succ j=>
      have:=qI5 k j (n/2) (by rw[Nat.pow_succ]at h;omega)
      omega
theorem qI6{g:Grid}(hg:GOk g){f:Fld}(hf:FIn g f):f.n<=61:=by
 rcases hf.key with⟨a,b,d⟩|⟨a,b,d⟩|⟨a,b,d⟩|⟨a,b,d⟩<;>rw[d]
 ·have:=qxn g hg f.i
  exact qI5 64 61 _ (by omega)
 all_goals decide
def datA(L:List Int)(c:Cfg):List (Nat×Arr):=[(74,⟨1,3,ints L⟩),(109,⟨1,3,ints c.sel⟩),(111,⟨1,3,ints c.mode⟩),(113,⟨1,3,ints c.tab⟩),(115,⟨1,3,ints c.ram⟩)]
def kA(k:Nat):Nat:=if k=0 then 109 else if k=1 then 111 else if k=2 then 113 else 115
def cfgL(c:Cfg)(k:Nat):List Int:=if k=0 then c.sel else if k=1 then c.mode else if k=2 then c.tab else c.ram
theorem qI7(k:Nat):kA k≠74:=by
 unfold kA
 repeat' split
 all_goals decide
theorem qI8{k:Nat}(L:List Int)(c:Cfg):lk (datA L c) (kA k)=some ⟨1,3,ints (cfgL c k)⟩:=by
 unfold kA cfgL
 repeat' split
 all_goals rfl
theorem qI9{k:Nat}(L L' :List Int)(c:Cfg)(i:Nat)(v:Int):up (up (datA L c) 74 ⟨1,3,ints L'⟩) (kA k) ⟨1,3,ints ((cfgL c k).set i v)⟩=datA L' (qD5 c k i v):=by
 unfold kA cfgL qD5
 repeat' split
 all_goals rfl
theorem qIa(c:Cfg)(k i:Nat):(cfgL c k).getD i default=cfgI c k i:=by
 unfold cfgL cfgI
 repeat' split
 all_goals rfl
theorem qIb{g:Grid}{c:Cfg}(h:CfgLn g c){k i:Nat}(hk:keyIn g k i):i<(cfgL c k).length:=by
 obtain⟨l1,l2,l3,l4⟩:=h.lens
 rcases hk with⟨rfl,h⟩|⟨rfl|rfl|rfl,h⟩<;>simp[cfgL]<;>omega
theorem qIc(c:Cfg)(k i:Nat)(v w:Int):qD5 (qD5 c k i v) k i w=qD5 c k i w:=by
 unfold qD5
 by_cases h0:k=0
 ·simp[h0,List.set_set]
 ·by_cases h1:k=1
  ·simp[h1,List.set_set]
  ·by_cases h2:k=2
   ·simp[h2,List.set_set]
   ·simp[h0,h1,h2,List.set_set]
theorem qId{g:Grid}{c:Cfg}(hc:CfgLn g c){k i:Nat}(hk:keyIn g k i):qD5 c k i (cfgI c k i)=c:=by
 refine qDa (qD6 hc _ _ _) hc fun k' i' h' => ?_
 rw[qD8 hc hk h']
 split
 ·next h=>obtain⟨rfl,rfl⟩:=h;rfl
 ·rfl
def strB(l:List (List Nat))(x:Nat):List Bool:=unW (datF l x)
theorem qIe(l:List (List Nat))(x c:Nat):(datW ((datD l x).getD (c/57) 0)).testBit (c%57)=(strB l x).getD c false\/(datD l x).length<=c/57:=by
 by_cases h:c/57<(datD l x).length
 ·left
  unfold strB datF
  rw[qBI,List.getD_eq_getElem?_getD,List.getD_eq_getElem?_getD,List.getElem?_map]
  show _=(((datD l x)[c/57]?.map datW).getD 0).testBit _
  rw[List.getElem?_eq_getElem h]
  rfl
 ·exact .inr (by omega)
theorem qIf(S:List Bool)(c k:Nat)(h:c+k<S.length):(S.drop c).take (k+1)=(S.drop c).take k++[S.getD (c+k) false]:=by
 rw[List.take_succ_eq_append_getElem (by simp;omega),List.getElem_drop,List.getD_eq_getElem?_getD,List.getElem?_eq_getElem h]
 rfl
set_option maxHeartbeats 2000000 in
theorem qIg (g : Grid) {S : List (Nat × PV)} (hS : qtT 1000 S = true) (κ i x nb n : Nat) (l : List (List Nat)) (L : List Int) (c : Nat) (B : List (Nat × List PV)) (cf : Cfg)
  (h18:lk B 18=some [.clo 57 [8,17]]) (h20:lk B 1020=some [.eptr (kA κ) i 0,.int nb])
  (h8:lk B 8=some [.bv 31 1 n]) (h31:lk B 31=some (outC datW n (datD l) n)) (h17:lk B 17=some [.view 74 0 n]) (hL:L.length=n) (hc:L.getD x default=c) (hx:x<n) (hn:n<=1000) (hcl:c+nb<=57*(datD l x).length) (hcb:c+nb<2000000000)
  (hcf:CfgLn g cf) (hk:keyIn g κ i) (h0:cfgI cf κ i=0) (hnb:nb<=61) (T:List (Nat×PV)) (hT:qhk [1000,126,1018,1019,1020] T=[]) (Q:Exit->St->Prop)
  (hQ:Q .normal ⟨S++[(1018,.ptr 18 0),(1019,.int x),(1020,.ptr 1020 0),(1081,.int nb),(1082,.int nb),(1083,.bool false)],B,datA (L.set x ((c+nb:Nat):Int)) (qD5 cf κ i (valB (((strB l x).drop c).take nb):Nat)),[]⟩):
  awp (Env.of Tryd.prog) ac34_r24 Q ⟨S++([(1018,.ptr 18 0),(1019,.int x),(1020,.ptr 1020 0)]++T),B,datA L cf,[]⟩:=by
 have hslen:(strB l x).length=57*(datD l x).length:=by unfold strB datF;rw[qBF,List.length_map];rfl
 have hLs: ∀y,(L.set x y).getD x default=y:=fun y=>by rw[List.getD_eq_getElem?_getD,List.getElem?_set_self (by omega)];rfl
 have hLset: ∀y z,(L.set x y).set x z=L.set x z:=fun y z=>List.set_set ..
 have hL0:L.set x ((c:Nat):Int)=L:=by
  rw[<- hc]
  apply List.ext_getElem (by simp)
  intro j h1 h2
  rw[List.getElem_set]
  split
  ·next e=>subst e;simp[List.getD_eq_getElem?_getD,h2]
  ·rfl
 simp only[ac34_r24,hT,h20,qCo hS,qCn hS,qCp hS,qCq hS,qCr hS,push_cast,reduceIte,reduceEqDiff,reduceAdd,reduceSub,reduceMul,Nat.reduceBEq,reduceLT,reduceLeDiff,reduceCtorEq,reduceToNat,reduceNeg,cNI]
 refine qoK (fun j st=> ∃k:Nat,k<=nb/\j=nb-k/\st=⟨S++[(1018,.ptr 18 0),(1019,.int x),(1020,.ptr 1020 0),(1081,.int nb),(1082,.int k)],B,datA (L.set x ((c+k:Nat):Int)) (qD5 cf κ i (valB (((strB l x).drop c).take k):Nat)),[]⟩) nb ⟨_,SWk.refl _,0,by omega,by omega,?_⟩ ?_
 ·simp only[qCo hS,qCn hS,qCp hS,qCq hS,qCr hS,push_cast,reduceIte,reduceEqDiff,reduceAdd,reduceSub,reduceMul,Nat.reduceBEq,reduceLT,reduceLeDiff,reduceCtorEq,reduceToNat,reduceNeg,cNI]
  rw[List.take_zero,show(valB []:Nat)=0 from rfl,show((0:Nat):Int)=cfgI cf κ i from h0.symm,qId hcf hk]
  rw[show L.set x (c:Int)=L from hL0]
 rintro j st ⟨k,hk',rfl,rfl⟩
 simp only[qCo hS,qCn hS,qCp hS,qCq hS,qCr hS,push_cast,reduceIte,reduceEqDiff,reduceAdd,reduceSub,reduceMul,Nat.reduceBEq,reduceLT,reduceLeDiff,reduceCtorEq,reduceToNat,reduceNeg,cNI]
 refine qnU (fun h=> ?_) fun h=> ?_
 ·have hkn:k<nb:=by omega
  have hln:=qD6 hcf κ i (valB (((strB l x).drop c).take k):Nat)
  have hvl:=qBp (((strB l x).drop c).take k)
  have htl:(((strB l x).drop c).take k).length=k:=by rw[List.length_take,List.length_drop];omega
  rw[htl]at hvl
  have hcl2:(c+k)/57<(datD l x).length:=by omega
  simp only[ac34_r26,qCo hS,qCn hS,qCp hS,qCq hS,qCr hS,push_cast,reduceIte,reduceEqDiff,reduceAdd,reduceSub,reduceMul,Nat.reduceBEq,reduceLT,reduceLeDiff,reduceCtorEq,reduceToNat,reduceNeg,cNI]
  refine qI4 (s0:=S++[(1018,.ptr 18 0),(1019,.int x),(1020,.ptr 1020 0),(1021,.int k),(1081,.int nb),(1082,.int k)]) ?_ (kA κ) i (valB (((strB l x).drop c).take k)) x k n (cfgL (qD5 cf κ i (valB (((strB l x).drop c).take k):Nat)) κ) (L.set x ((c+k:Nat):Int)) (datD l) (c+k) B _ nb _ ?_ ?_ ?_ ?_ h18 h20 h8 h31 h17 rfl (by rw[List.length_set,hL]) (hLs _) hx hn hcl2 (by omega) (qI8 _ _) (qI7 κ) (qIb hln hk) ?_ hvl (by omega) ?_
  ·rw[qCs hS _ _ (by omega)];rfl
  ·simp only[qCp hS,push_cast,reduceIte,reduceEqDiff,reduceAdd,reduceSub,reduceMul,Nat.reduceBEq,reduceLT,reduceLeDiff,reduceCtorEq,reduceToNat,reduceNeg,cNI]
  ·simp only[qCp hS,push_cast,reduceIte,reduceEqDiff,reduceAdd,reduceSub,reduceMul,Nat.reduceBEq,reduceLT,reduceLeDiff,reduceCtorEq,reduceToNat,reduceNeg,cNI]
  ·simp only[qCp hS,push_cast,reduceIte,reduceEqDiff,reduceAdd,reduceSub,reduceMul,Nat.reduceBEq,reduceLT,reduceLeDiff,reduceCtorEq,reduceToNat,reduceNeg,cNI]
  ·simp only[qCp hS,push_cast,reduceIte,reduceEqDiff,reduceAdd,reduceSub,reduceMul,Nat.reduceBEq,reduceLT,reduceLeDiff,reduceCtorEq,reduceToNat,reduceNeg,cNI]
  ·rw[qIa,qD8 hcf hk hk,if_pos ⟨rfl,rfl⟩]
  ·have hbit:(datW ((datD l x).getD ((c+k)/57) 0)).testBit ((c+k)%57)=(strB l x).getD (c+k) false:=(qIe l x (c+k)).resolve_right (by omega)
   rw[hbit,qI9,qIc,hLset]
   have hvs:valB (((strB l x).drop c).take k)|||(((strB l x).getD (c+k) false).toNat<<<k)=valB (((strB l x).drop c).take (k+1)):=by
    rw[qIf _ _ _ (by omega),qBv,htl]
   rw[hvs]
   simp only[slA,xs34_27,putD,qI2,qCo hS,qCn hS,qCp hS,qCq hS,qCr hS,push_cast,reduceIte,reduceEqDiff,reduceAdd,reduceSub,reduceMul,Nat.reduceBEq,reduceLT,reduceLeDiff,reduceCtorEq,reduceToNat,reduceNeg,cNI]
   refine⟨⟨by omega,by omega⟩,_,SWk.refl _,nb-(k+1),by omega,k+1,by omega,rfl,?_⟩
   rw[show(c:Int)+k+1=((c:Int)+((k+1:Nat):Int))from by omega]
   rfl
 ·obtain rfl:k=nb:=by omega
  rw[show decide ((k:Int)<k)=false from decide_eq_false (by omega)]
  exact hQ
end Go.Proofs.YtecoaapkcnhlhaaDoor
namespace Go.Proofs.YtecoaapkcnhlhaaDoor
open Go Go.Vc Go.Ham Txt
def cfA(c:Cfg):List (Nat×Arr):=[(109,⟨1,3,ints c.sel⟩),(111,⟨1,3,ints c.mode⟩),(113,⟨1,3,ints c.tab⟩),(115,⟨1,3,ints c.ram⟩)]
theorem qIh(g:Grid)(hg:GOk g):FnM (Env.of Tryd.prog) 56 [.agg (quQ false g)] ⟨[],[],[],[]⟩ (fun v st' =>
  v= .agg [.view 109 0 (quV g).toNat,.view 111 0 g.kind.length,.view 113 0 g.kind.length,.view 115 0 g.kind.length]/\st' =⟨[],[],cfA (qx5 g),[]⟩):=by
 have h1:=hg.count
 have h2:=hg.wh
 have h3:=hg.kind
 refine FnM.dropB 101 (FnM.dropB 102 ?_)
 refine qub 100 Tryd.func56 ok56_100 (by show 1<=_;decide) rfl (by decide) ?_
 simp only[ac56_100,rv56_100,push_cast,reduceIte,reduceEqDiff,reduceAdd,reduceSub,reduceMul,Nat.reduceBEq,reduceLT,reduceLeDiff,reduceCtorEq,reduceToNat,reduceNeg,cNI]
 refine qrt (quY g hg) sC rfl ?_
 refine sB ?_
 refine⟨by omega,by omega,by omega,by omega,?_,?_⟩
 ·simp
 ·simp only[cfA,qx5,List.length_replicate,push_cast,reduceIte,reduceEqDiff,reduceAdd,reduceSub,reduceMul,Nat.reduceBEq,reduceLT,reduceLeDiff,reduceCtorEq,reduceToNat,reduceNeg,cNI]
def cfP(g:Grid)(l:List (List Nat))(pre:List Fld):Cfg:=(qBR pre (strB l)).foldl (fun c p=>qD5 c p.1.kind p.1.i p.2) (qx5 g)
theorem qIi(g:Grid)(l:List (List Nat)):cfP g l (qCe g)=decC g fun x=>unW (datF l x):=rfl
theorem qIj(g:Grid)(l:List (List Nat))(pre:List Fld)(f:Fld):cfP g l (pre++[f])=qD5 (cfP g l pre) f.kind f.i (valB (((strB l f.x).drop (qBM pre f.x)).take f.n):Nat):=by
 unfold cfP
 rw[qBT,List.foldl_append]
 rfl
theorem qIk(g:Grid)(k i:Nat):cfgI (qx5 g) k i=0:=by
 have h: ∀n:Nat,(List.replicate n (0:Int)).getD i 0=0:=fun n=>by
  rw[List.getD_eq_getElem?_getD,List.getElem?_replicate];split<;>rfl
 unfold cfgI qx5
 repeat' split
 all_goals exact h _
theorem qIl(fs:List Fld)(S:Nat->List Bool):(qBR fs S).map (fun p=>fkey p.1)=fs.map fkey:=by
 rw[show(fun p:Fld×Nat=>fkey p.1)=fkey ∘ Prod.fst from rfl,<- List.map_map,qBS]
theorem qIm{g:Grid}(hg:GOk g)(l:List (List Nat)){pre:List Fld}{f:Fld}(h:pre++[f]<+:qCe g):CfgLn g (cfP g l pre)/\cfgI (cfP g l pre) f.kind f.i=0:=by
 have hnd:=qD1 hg
 obtain⟨r,hr⟩:=h
 have hin: ∀p∈qBR pre (strB l),p.1∈qCe g:=fun p hp=>by
  have:p.1∈(qBR pre (strB l)).map (·.1):=List.mem_map_of_mem hp
  rw[qBS]at this
  rw[<- hr]
  exact List.mem_append_left _ (List.mem_append_left _ this)
 rw[<- hr,List.append_assoc,List.map_append,List.nodup_append]at hnd
 obtain⟨a1,_,a3⟩:=qD9 (qBR pre (strB l)) (qx5 g) (qDb g) (fun p hp=>(qCW hg (hin p hp)).keyIn) (by rw[qIl];exact hnd.1)
 refine⟨a1,?_⟩
 have hf:f∈qCe g:=by rw[<- hr];simp
 refine(a3 f.kind f.i (qCW hg hf).keyIn ?_).trans (qIk g _ _)
 rw[qIl]
 intro hm
 exact hnd.2.2 _ hm (fkey f) (by simp) rfl
theorem qIn{g:Grid}{pre:List Fld}(h:pre<+:qCe g)(x:Nat):qBM pre x<=qDj g x:=by
 obtain⟨r,hr⟩:=h
 unfold qDj
 rw[<- hr,qBQ]
 omega
theorem qIo(n:Nat):n<=57*nW n:=by unfold nW;omega
def qIp(g:Grid)(n:Nat)(C:List PV):List (Nat×List PV):=[(2,quQ false g),(4,[.nil,.nil,.nil,.nil]),(8,[.bv 31 1 n]),(16,[.view 109 0 (cN g),.view 111 0 g.kind.length,.view 113 0 g.kind.length,.view 115 0 g.kind.length]),(17,[.view 74 0 n]),(18,[.clo 57 [8,17]]),(31,C)]
def qIq(g:Grid)(n:Nat)(C:List PV):List (Nat×List PV):=qIp g n C++[(102,quQ false g),(103,[.ptr 16 0]),(105,[.int (quU g)])]
def qIr(g:Grid)(n:Nat)(C:List PV):List (Nat×List PV):=qIq g n C++[(204,[.yl 999])]
def qIs(g:Grid)(n:Nat)(C:List PV):List (Nat×List PV):=qIq g n C++[(204,[.bot])]
def decS(l:List (List Nat))(f:Int):List (Nat×PV):=[(1,.sl false 1 (rows (frmC false) l)),(2,.ptr 2 0),(4,.ptr 4 0),(7,.int f),(8,.ptr 8 0),(16,.ptr 16 0),(17,.ptr 17 0),(18,.ptr 18 0),(77,.clo 75 [103,102,105])]
theorem qIt{id n:Nat}(h:id<1000):farV (.view id 0 n):=⟨fun j hj=>⟨rfl,beq_false_of_ne (by omega)⟩,fun _ j hj=>⟨rfl,beq_false_of_ne (by omega)⟩⟩
set_option maxHeartbeats 4000000 in
theorem qIu (g : Grid) (hg : GOk g) (l : List (List Nat)) (n : Nat) (hn : n = wN g + 1) (f : Int) (Q : Exit -> St -> Prop) (hs : ∀ x, x <= wN g -> (datD l x).length = nW (qDj g x)) (h75 : PV)
  (h29:awp (Env.of Tryd.prog) ac34_r29 Q ⟨decS l f,qIs g n (outC datW n (datD l) n),datA (qDH g (qCe g)) (cfP g l (qCe g)),[]⟩):
  awp (Env.of Tryd.prog) ac34_r21 Q ⟨[(1,.sl false 1 (rows (frmC false) l)),(2,.ptr 2 0),(4,.ptr 4 0),(7,.int f),(8,.ptr 8 0),(16,.ptr 16 0),(17,.ptr 17 0),(18,.ptr 18 0),(75,.clo 57 [8,17])],qIp g n (outC datW n (datD l) n),datA (List.replicate n 0) (qx5 g),[]⟩:=by
 have hn' :=hg.n
 have hw2:=hn'.w2
 simp only[ac34_r21,qIp,push_cast,reduceIte,reduceEqDiff,reduceAdd,reduceSub,reduceMul,Nat.reduceBEq,reduceLT,reduceLeDiff,reduceCtorEq,reduceToNat,reduceNeg,cNI]
 have hF : FnM (Env.of Tryd.prog) 53 [.agg (quQ false g), .ptr 16 0] ⟨[(1, .sl false 1 (rows (frmC false) l)), (2, .ptr 2 0), (4, .ptr 4 0), (7, .int f), (8, .ptr 8 0), (16, .ptr 16 0), (17, .ptr 17 0), (18, .ptr 18 0), (76, .agg (quQ false g))], qIp g n (outC datW n (datD l) n), datA (List.replicate n 0) (qx5 g), []⟩
   (fun v st' =>v= .clo 75 [103,102,105]/\st' =⟨[(1,.sl false 1 (rows (frmC false) l)),(2,.ptr 2 0),(4,.ptr 4 0),(7,.int f),(8,.ptr 8 0),(16,.ptr 16 0),(17,.ptr 17 0),(18,.ptr 18 0),(76,.agg (quQ false g))],qIq g n (outC datW n (datD l) n),datA (List.replicate n 0) (qx5 g),[]⟩):=by
  refine qub 100 Tryd.func53 ok53_100 (by show 2<=_;decide) rfl (by decide) ?_
  have ht:=hg.tracks
  simp only[ac53_100,rv53_100,qIp,qG8,push_cast,reduceIte,reduceEqDiff,reduceAdd,reduceSub,reduceMul,Nat.reduceBEq,reduceLT,reduceLeDiff,reduceCtorEq,reduceToNat,reduceNeg,cNI]
  exact⟨⟨by omega,by omega⟩,⟨by omega,by omega⟩,rfl⟩
 refine qsL hF ?_
 refine sB ?_
 have hv:=fun pre=>qI8 (k:=0) (qDH g pre) (cfP g l pre)
 refine qu9 (st1:=⟨decS l f,qIq g n (outC datW n (datD l) n),datA (qDH g []) (cfP g l []),[]⟩) (Env.of_noY _) rfl ?_
  (qD4 (s:=decS l f) rfl (by show 126<=200;decide) (fun _ _ h=>h) rfl g hg 103 102 105 16 (.view 109 0 (cN g)) (.view 111 0 g.kind.length) (.view 113 0 g.kind.length) (.view 115 0 g.kind.length) (qIq g n (outC datW n (datD l) n)) (fun _=>qIr g n (outC datW n (datD l) n)) (fun pre=>datA (qDH g pre) (cfP g l pre)) rfl rfl rfl (by simp only[decS,push_cast,reduceIte,reduceEqDiff,reduceAdd,reduceSub,reduceMul,Nat.reduceBEq,reduceLT,reduceLeDiff,reduceCtorEq,reduceToNat,reduceNeg,cNI]) ?_ (fun pre hp=>⟨rfl,rfl,rfl,rfl,rfl⟩) (fun pre hp=>⟨⟨_,_,rfl⟩,⟨_,_,rfl⟩,⟨_,_,rfl⟩,⟨_,_,rfl⟩⟩) ?_ ⟨by decide,by decide,by decide,by decide⟩ ⟨qIt (by decide),qIt (by decide),qIt (by decide),qIt (by decide)⟩ ?_) ?_
 ·simp only[qIq,qIp,qG8,decS,push_cast,reduceIte,reduceEqDiff,reduceAdd,reduceSub,reduceMul,Nat.reduceBEq,reduceLT,reduceLeDiff,reduceCtorEq,reduceToNat,reduceNeg,cNI]
  rw[qDT,<- hn]
  rfl
 ·simp only[qIq,qIp,qIr,qG8,List.cons_append,List.nil_append,push_cast,reduceIte,reduceEqDiff,reduceAdd,reduceSub,reduceMul,Nat.reduceBEq,reduceLT,reduceLeDiff,reduceCtorEq,reduceToNat,reduceNeg,cNI]
 ·have hc:=hn'.c
  have hk:=hn'.k
  exact⟨rfl,hk,hk,hk⟩
 ·intro pre fl hpf t ht h4 hft
  have hm:midL 0 126 (decS l f++t)=decS l f:=by
   simp only[decS,List.cons_append,List.nil_append,qtQ]
   rw[qCH fun x hx=>by have:=h4 x hx;omega]
   rfl
  have hsl:qtT 1000 (decS l f++t)=true:=by simpa[qtT,decS]using ht
  refine qCt rfl rfl hsl ?_
  rw[hm]
  have hS: ∀j,1000<=j->farL j (decS l f++t):=by
   intro j hj
   have n1: ∀i,i<1000->(i==j)=false:=fun i hi=>beq_false_of_ne (by omega)
   simp only[decS,qCO,n1 2 (by decide),n1 4 (by decide),n1 8 (by decide),n1 16 (by decide),n1 17 (by decide),n1 18 (by decide),n1 103 (by decide),n1 102 (by decide),n1 105 (by decide),hft j hj,push_cast,reduceIte,reduceEqDiff,reduceAdd,reduceSub,reduceMul,Nat.reduceBEq,reduceLT,reduceLeDiff,reduceCtorEq,reduceToNat,reduceNeg,cNI]
  have hg1:getL (decS l f++t) 1= .sl false 1 (rows (frmC false) l):=rfl
  have hg2:getL (decS l f++t) 2= .ptr 2 0:=rfl
  have hg4:getL (decS l f++t) 4= .ptr 4 0:=rfl
  have hg7:getL (decS l f++t) 7= .int f:=rfl
  have hg8:getL (decS l f++t) 8= .ptr 8 0:=rfl
  have hg16:getL (decS l f++t) 16= .ptr 16 0:=rfl
  have hg17:getL (decS l f++t) 17= .ptr 17 0:=rfl
  have hg18:getL (decS l f++t) 18= .ptr 18 0:=rfl
  have hg77:getL (decS l f++t) 77= .clo 75 [103,102,105]:=rfl
  have hdS:decS l f=[(1,.sl false 1 (rows (frmC false) l)),(2,.ptr 2 0),(4,.ptr 4 0),(7,.int f),(8,.ptr 8 0),(16,.ptr 16 0),(17,.ptr 17 0),(18,.ptr 18 0),(77,.clo 75 [103,102,105])]:=rfl
  clear hm ht h4
  generalize decS l f++t=S at *
  rw[hdS]
  unfold qu6
  have hfi:=qCW hg (hpf.subset (List.mem_append_right _ List.mem_cons_self))
  have hfx:=hfi.x
  have hfn:=qI6 hg hfi
  have hbd:=qDO hg hpf fl.x
  have hnp:=qIn hpf fl.x
  rw[qBQ]at hbd hnp
  simp only[qBM,if_true]at hbd hnp
  obtain⟨hcl,hc0⟩:=qIm hg l hpf
  have hD:=hs fl.x hfx
  have hnw:=qIo (qDj g fl.x)
  have hpt:qCI (cfK (.view 109 0 (cN g)) (.view 111 0 g.kind.length) (.view 113 0 g.kind.length) (.view 115 0 g.kind.length) fl.kind) fl.i= .eptr (kA fl.kind) fl.i 0:=by
   rcases hfi.key with h|h|h|h<;>rw[h.1]<;>simp[cfK,qCI,kA]
  have hkb:(kA fl.kind==1020)=false:=by
   rcases hfi.key with h|h|h|h<;>rw[h.1]<;>rfl
  rw[hpt]
  simp only[qIr,qIq,qIp,qG8,List.cons_append,List.nil_append,hg1,hg2,hg4,hg7,hg8,hg16,hg17,hg18,hg77,qCo hsl,qCn hsl,qCp hsl,qCq hsl,qCr hsl,qCS,qCP (hS 1020 (by decide)),push_cast,reduceIte,reduceEqDiff,reduceAdd,reduceSub,reduceMul,Nat.reduceBEq,reduceLT,reduceLeDiff,reduceCtorEq,reduceToNat,reduceNeg,cNI]
  refine qIg g hsl fl.kind fl.i fl.x fl.n n l (qDH g pre) (qBM pre fl.x) _ (cfP g l pre) rfl rfl rfl rfl rfl (by rw[qDP,hn]) (qDQ hfx pre) (by omega) (by omega) (by rw[hD];omega) (by omega) hcl hfi.keyIn hc0 hfn [(1079,.agg [.eptr (kA fl.kind) fl.i 0,.int fl.n])] sC _ ?_
  simp only[qCo hsl,qCn hsl,qCp hsl,qCq hsl,qCr hsl,push_cast,reduceIte,reduceEqDiff,reduceAdd,reduceSub,reduceMul,Nat.reduceBEq,reduceLT,reduceLeDiff,reduceCtorEq,reduceToNat,reduceNeg,cNI]
  refine⟨_,SWk.drop (fun i=>i !=1020) (fun _=>true),hsl,?_⟩
  rw[qIj,qDR]
  rfl
 ·rintro _ _ rfl
  simp only[decS,qIs,qIr,qIq,qIp,qG8,List.cons_append,List.nil_append,push_cast,reduceIte,reduceEqDiff,reduceAdd,reduceSub,reduceMul,Nat.reduceBEq,reduceLT,reduceLeDiff,reduceCtorEq,reduceToNat,reduceNeg,cNI]at h29 ⊢
  exact h29
set_option maxHeartbeats 4000000 in
theorem qIv (g : Grid) (hg : GOk g) (l : List (List Nat)) (n : Nat) (hn : n = wN g + 1) (hl : l.length = n) (f : Int) (T : List (Nat × PV)) (hT : qhk [0, 126, 1, 2, 4, 7, 8] T = []) (Q : Exit -> St -> Prop)
  (hs: ∀x,x<=wN g->(datD l x).length=nW (qDj g x))
  (h29:awp (Env.of Tryd.prog) ac34_r29 Q ⟨decS l f,qIs g n (outC datW n (datD l) n),datA (qDH g (qCe g)) (cfP g l (qCe g)),[]⟩):
  awp (Env.of Tryd.prog) ac34_r18 Q ⟨[(1,.sl false 1 (rows (frmC false) l)),(2,.ptr 2 0),(4,.ptr 4 0),(7,.int f),(8,.ptr 8 0)]++T,decB g n (outC datW n (datD l) n),[],[]⟩:=by
 have hn' :=hg.n
 have hw2:=hn'.w2
 have hgw:=hg.w
 simp only[ac34_r18,hT,decB,push_cast,reduceIte,reduceEqDiff,reduceAdd,reduceSub,reduceMul,Nat.reduceBEq,reduceLT,reduceLeDiff,reduceCtorEq,reduceToNat,reduceNeg,cNI]
 refine qDG [] [109,111,113,115] (qIh g hg) rfl (by simp only[qDD,St.noTo,List.all_cons,List.all_nil,qhH,qG8];rfl) rfl ?_
 simp only[cfA,qG8,hl,List.cons_append,List.nil_append,List.length_replicate,push_cast,reduceIte,reduceEqDiff,reduceAdd,reduceSub,reduceMul,Nat.reduceBEq,reduceLT,reduceLeDiff,reduceCtorEq,reduceToNat,reduceNeg,cNI]
 refine⟨⟨by omega,by omega,by omega⟩,?_⟩
 exact qIu g hg l n hn f Q hs .bot h29
end Go.Proofs.YtecoaapkcnhlhaaDoor
namespace Go.Proofs.YtecoaapkcnhlhaaDoor
open Go Go.Vc Go.Ham Txt
def qIw:PV:= .tup [.agg (cfgC true cfg0),.int 0,.int 380]
def cfV(g:Grid):List PV:=[.view 109 0 (cN g),.view 111 0 g.kind.length,.view 113 0 g.kind.length,.view 115 0 g.kind.length]
def qIx(g:Grid)(n:Nat)(C:List PV):List (Nat×List PV):=[(2,quQ false g),(4,cfV g),(8,[.bv 31 1 n]),(16,cfV g),(17,[.view 74 0 n]),(18,[.clo 57 [8,17]]),(31,C),(102,quQ false g),(103,[.ptr 16 0]),(105,[.int (quU g)]),(204,[.bot])]
theorem qIy{l:List Int}{n:Nat}(h:l.length=n):l.take n=l:=List.take_of_length_le (by omega)
set_option maxHeartbeats 4000000 in
theorem qIz (g : Grid) (hg : GOk g) (c : Cfg) (hc : CfgLn g c) (f : Int) (T : List (Nat × PV)) (hT : qhk [0, 126, 2, 4, 7, 16] T = []) (n : Nat) (C : List PV) (hC : ∀ pb pa, anyT pb pa C = false) (L : List Int) (Q : Exit -> St -> Prop)
  (hE:validE g c≠0-> ∀T B A,lk B 4=some [.nil,.nil,.nil,.nil]->Q .ret ⟨(4,.ptr 4 0)::(5,.int 0)::(6,.int 380)::T,B,A,[]⟩)
  (hQ:validE g c=0->Q .ret ⟨[(4,.ptr 4 0),(5,.int f),(6,.int 0),(7,.int f),(16,.ptr 16 0),(124,.agg (cfV g)),(125,.int f)],qIx g n C,datA L c,[]⟩):
  awp (Env.of Tryd.prog) ac34_r36 Q ⟨[(2,.ptr 2 0),(4,.ptr 4 0),(7,.int f),(8,.ptr 8 0),(16,.ptr 16 0)]++T,qIs g n C,datA L c,[]⟩:=by
 obtain⟨l1,l2,l3,l4⟩:=hc.lens
 have hv:=qyr g hg c (by have hw:=hg.wh;have hk:=hg.kind;have hc0:=hg.count;have hn:=hg.n;have hcc:=hn.c;exact⟨by omega,by omega,by omega,by omega⟩)
 simp only[ac34_r36,hT,qIs,qIq,qIp,datA,qIy l1,qIy l2,qIy l3,qIy l4,push_cast,reduceIte,reduceEqDiff,reduceAdd,reduceSub,reduceMul,Nat.reduceBEq,reduceLT,reduceLeDiff,reduceCtorEq,reduceToNat,reduceNeg,cNI]
 refine qrr hv (by exact⟨.refl _,.refl _,trivial⟩) ?_
 refine sB ?_
 refine qnU (fun h=> ?_) fun h=> ?_
 ·exact hE h _ _ _ rfl
 ·exact hQ (Classical.not_not.1 h)
set_option maxHeartbeats 4000000 in
theorem qIB (g : Grid) (hg : GOk g) (l : List (List Nat)) (n x : Nat) (hn : n = wN g + 1) (hx : x < n) (f : Int) (c : Cfg) (L : List Int) (hL : L.length = n) (hLx : L.getD x default = qDj g x) (hs : (datD l x).length = nW (qDj g x)) (Q : Exit -> St -> Prop)
  (hE: ¬qC1 (datF l x) (qDj g x)-> ∀T B A,lk B 4=some [.nil,.nil,.nil,.nil]->Q .ret ⟨(4,.ptr 4 0)::(5,.int 0)::(6,.int 380)::T,B,A,[]⟩)
  (hQ:qC1 (datF l x) (qDj g x)-> ∀T y,qhk [0,126,2,4,7,8,16,17,18,98,99] T=[]->Q .normal ⟨[(2,.ptr 2 0),(4,.ptr 4 0),(7,.int f),(8,.ptr 8 0),(16,.ptr 16 0),(17,.ptr 17 0),(18,.ptr 18 0),(22,.int x),(98,.int n),(99,.int x)]++T,qIs g n (outC datW n (datD l) n),datA (L.set x y) c,[]⟩) (T:List (Nat×PV)) (hT:qhk [0,126,2,4,7,8,16,17,18,98,99] T=[]):
  awp (Env.of Tryd.prog) ac34_r31 Q ⟨[(2,.ptr 2 0),(4,.ptr 4 0),(7,.int f),(8,.ptr 8 0),(16,.ptr 16 0),(17,.ptr 17 0),(18,.ptr 18 0),(98,.int n),(99,.int x)]++T,qIs g n (outC datW n (datD l) n),datA L c,[]⟩:=by
 have hw2:=hg.n.w2
 have hbd:qDj g x<=1000000000:=qDO hg List.prefix_rfl x
 have hnw:=qIo (qDj g x)
 have hnw2:nW (qDj g x)<=100000000:=by unfold nW;omega
 have hnw3:57*nW (qDj g x)<=1000000056:=by unfold nW;omega
 have hcl:(outC datW n (datD l) n).length=n:=qG2 _ _ _
 have hLs: ∀y,(L.set x y).getD x default=y:=fun y=>by rw[List.getD_eq_getElem?_getD,List.getElem?_set_self (by omega)];rfl
 have hLset: ∀y z,(L.set x y).set x z=L.set x z:=fun y z=>List.set_set ..
 have hL0:L.set x ((qDj g x:Nat):Int)=L:=by
  rw[<- hLx]
  apply List.ext_getElem (by simp)
  intro j h1 h2
  rw[List.getElem_set]
  split
  ·next e=>subst e;simp[List.getD_eq_getElem?_getD,h2]
  ·rfl
 simp only[ac34_r31,hT,push_cast,reduceIte,reduceEqDiff,reduceAdd,reduceSub,reduceMul,Nat.reduceBEq,reduceLT,reduceLeDiff,reduceCtorEq,reduceToNat,reduceNeg,cNI]
 refine qoK (fun j st=> ∃p:Nat,qDj g x<=p/\p<=57*nW (qDj g x)/\j=57*nW (qDj g x)-p/\(∀q,qDj g x<=q->q<p->(unW (datF l x)).getD q false=false)/\st=⟨[(2,.ptr 2 0),(4,.ptr 4 0),(7,.int f),(8,.ptr 8 0),(16,.ptr 16 0),(17,.ptr 17 0),(18,.ptr 18 0),(22,.int x),(98,.int n),(99,.int x)],qIs g n (outC datW n (datD l) n),datA (L.set x p) c,[]⟩) (57*nW (qDj g x)-qDj g x) ⟨_,SWk.refl _,qDj g x,by omega,by omega,rfl,fun q h1 h2=>by omega,by simp only[push_cast,reduceIte,reduceEqDiff,reduceAdd,reduceSub,reduceMul,Nat.reduceBEq,reduceLT,reduceLeDiff,reduceCtorEq,reduceToNat,reduceNeg,cNI];rw[hL0]⟩ ?_
 rintro j st ⟨p,hp1,hp2,rfl,hz,rfl⟩
 have hcell:(outC datW n (datD l) n).getD x .bot=outP datW (datD l) x:=by
  simp only[outC,List.getD_eq_getElem?_getD,List.getElem?_map,List.getElem?_range hx,Option.map_some,Option.getD_some,if_pos hx]
 have hlenV:lenV (outP datW (datD l) x)=(True,.int (nW (qDj g x):Nat)):=by
  unfold outP
  split
  ·next h=>rw[<- hs,h];rfl
  ·rw[<- hs];simp only[qER,List.length_map,push_cast,reduceIte,reduceEqDiff,reduceAdd,reduceSub,reduceMul,Nat.reduceBEq,reduceLT,reduceLeDiff,reduceCtorEq,reduceToNat,reduceNeg,cNI]
 simp only[qIs,qIq,qIp,datA,hcl,hcell,hlenV,hLs,hL,List.length_set,List.cons_append,List.nil_append,Nat.mul_one,qF8,push_cast,reduceIte,reduceEqDiff,reduceAdd,reduceSub,reduceMul,Nat.reduceBEq,reduceLT,reduceLeDiff,reduceCtorEq,reduceToNat,reduceNeg,cNI]
 refine⟨⟨by omega,by omega⟩,hx,⟨by omega,by omega⟩,by omega,⟨by omega,by omega⟩,qnU (fun h=> ?_) fun h=> ?_⟩
 ·have hp3:p<57*nW (qDj g x):=by omega
  have hq57:p/57<(datD l x).length:=by omega
  have hbit:(datW ((datD l x).getD (p/57) 0)).testBit (p%57)=(unW (datF l x)).getD p false:=(qIe l x p).resolve_right (by omega)
  have hnx:=qI1 (E:=Env.of Tryd.prog) rfl (Nat.zero_le _) (fun _ _ h=>h) (s:=[(2,.ptr 2 0),(4,.ptr 4 0),(7,.int f),(8,.ptr 8 0),(16,.ptr 16 0),(17,.ptr 17 0),(18,.ptr 18 0),(22,.int x),(98,.int n),(99,.int x),(113,.clo 57 [8,17]),(114,.int x)]) rfl n x hx (by omega) (datD l) (qIs g n (outC datW n (datD l) n)) (datA (L.set x p) c) (L.set x p) [] rfl rfl rfl rfl (by rw[List.length_set,hL]) p (hLs _) hq57 (by omega)
  rw[hbit,hLset]at hnx
  refine qsL hnx ?_
  cases hv:(unW (datF l x)).getD p false with
  |false=>
    simp only[Bool.toNat_false,push_cast,reduceIte,reduceEqDiff,reduceAdd,reduceSub,reduceMul,Nat.reduceBEq,reduceLT,reduceLeDiff,reduceCtorEq,reduceToNat,reduceNeg,cNI]
    refine qnU (fun h=>absurd rfl h) fun _=> ?_
    refine⟨_,SWk.refl _,57*nW (qDj g x)-(p+1),by omega,p+1,by omega,by omega,rfl,fun q h1 h2=> ?_,rfl⟩
    by_cases e:q=p
    ·rw[e];exact hv
    ·exact hz q h1 (by omega)
  |true=>
    simp only[Bool.toNat_true,qIs,qIq,qIp,List.cons_append,List.nil_append,push_cast,reduceIte,reduceEqDiff,reduceAdd,reduceSub,reduceMul,Nat.reduceBEq,reduceLT,reduceLeDiff,reduceCtorEq,reduceToNat,reduceNeg,cNI]
    refine qnU (fun _=> ?_) fun h=>absurd (by decide) h
    refine hE (fun hr=> ?_) _ _ _ rfl
    have:=hr p hp1
    rw[hv]at this
    cases this
 ·obtain rfl:p=57*nW (qDj g x):=by omega
  refine hQ (fun q hq=> ?_) [(102,.view 74 0 n),(103,.int x),(104,.eptr 74 x 0),(105,.int (57*nW (qDj g x):Nat)),(106,.bv 31 1 n),(107,.int x),(108,.ptr 31 x),(109,outP datW (datD l) x),(110,.int (nW (qDj g x):Nat)),(111,.int (57*(nW (qDj g x):Nat))),(112,.bool (decide (((57*nW (qDj g x):Nat):Int)<57*(nW (qDj g x):Nat))))] _ rfl
  by_cases h2:q<57*nW (qDj g x)
  ·exact hz q hq h2
  ·rw[List.getD_eq_getElem?_getD,List.getElem?_eq_none (by rw[qBF];unfold datF;rw[List.length_map];have:(l.getD x []).length=nW (qDj g x):=hs;omega)]
   rfl
end Go.Proofs.YtecoaapkcnhlhaaDoor
namespace Go.Proofs.YtecoaapkcnhlhaaDoor
open Go Go.Vc Go.Ham Txt
set_option maxHeartbeats 400000 in
theorem qIC (g : Grid) (hg : GOk g) (l : List (List Nat)) (n : Nat) (hn : n = wN g + 1) (hl : l.length = n) (f : Int) (c : Cfg) (hc : CfgLn g c) (L : List Int) (hL : L.length = n) (hLx : ∀ x, x < n -> L.getD x default = qDj g x) (hs : ∀ x, x <= wN g -> (datD l x).length = nW (qDj g x)) (Q : Exit -> St -> Prop)
  (hE: ¬((∀x,x<wN g+1->qC1 (datF l x) (qDj g x))/\validE g c=0)-> ∀T B A,lk B 4=some [.nil,.nil,.nil,.nil]->Q .ret ⟨(4,.ptr 4 0)::(5,.int 0)::(6,.int 380)::T,B,A,[]⟩)
  (hQ:(∀x,x<wN g+1->qC1 (datF l x) (qDj g x))->validE g c=0-> ∀L',Q .ret ⟨[(4,.ptr 4 0),(5,.int f),(6,.int 0),(7,.int f),(16,.ptr 16 0),(124,.agg (cfV g)),(125,.int f)],qIx g n (outC datW n (datD l) n),datA L' c,[]⟩):
  awp (Env.of Tryd.prog) ac34_r29 Q ⟨decS l f,qIs g n (outC datW n (datD l) n),datA L c,[]⟩:=by
 have hw2:=hg.n.w2
 simp only[ac34_r29,decS,hl,push_cast,reduceIte,reduceEqDiff,reduceAdd,reduceSub,reduceMul,Nat.reduceBEq,reduceLT,reduceLeDiff,reduceCtorEq,reduceToNat,reduceNeg,cNI]
 refine qoK (fun j st=> ∃(k:Nat) (L' :List Int),k<=n/\j=n-k/\L'.length=n/\(∀x,k<=x->x<n->L'.getD x default=qDj g x)/\(∀x,x<k->qC1 (datF l x) (qDj g x))/\st=⟨[(2,.ptr 2 0),(4,.ptr 4 0),(7,.int f),(8,.ptr 8 0),(16,.ptr 16 0),(17,.ptr 17 0),(18,.ptr 18 0),(98,.int n),(99,.int k)],qIs g n (outC datW n (datD l) n),datA L' c,[]⟩) n ⟨_,SWk.refl _,0,L,by omega,by omega,hL,fun x _ h=>hLx x h,fun x h=>absurd h (Nat.not_lt_zero _),by simp only[push_cast,reduceIte,reduceEqDiff,reduceAdd,reduceSub,reduceMul,Nat.reduceBEq,reduceLT,reduceLeDiff,reduceCtorEq,reduceToNat,reduceNeg,cNI]⟩ ?_
 rintro j st ⟨k,L',hk,rfl,hL',hLk,hz,rfl⟩
 refine sB ?_
 refine qnU (fun h=> ?_) fun h=> ?_
 ·have hk' :k<n:=by omega
  have e1:=hLk k (by omega) hk'
  have e2:=hs k (by omega)
  refine qIB g hg l n k hn hk' f c L' hL' e1 e2 _ ?_ ?_ [(100,.bool (decide ((k:Int)<n)))] ?_
  ·exact fun hr T B A h=>hE (fun hh=>hr (hh.1 k (by omega))) T B A h
  ·intro hr T y hT
   simp only[List.cons_append,List.nil_append,qho,hT,push_cast,reduceIte,reduceEqDiff,reduceAdd,reduceSub,reduceMul,Nat.reduceBEq,reduceLT,reduceLeDiff,reduceCtorEq,reduceToNat,reduceNeg,cNI]
   refine⟨⟨by omega,by omega⟩,_,SWk.refl _,n-(k+1),by omega,k+1,L'.set k y,by omega,rfl,by rw[List.length_set,hL'],fun x h1 h2=> ?_,fun x h1=> ?_,rfl⟩
   ·have:=hLk x (by omega) h2
    rw[List.getD_eq_getElem?_getD,List.getElem?_set_ne (by omega),<- List.getD_eq_getElem?_getD]
    exact this
   ·by_cases e:x=k
    ·rw[e];exact hr
    ·exact hz x (by omega)
  ·exact sC
 ·obtain rfl:k=n:=by omega
  refine qIz g hg c hc f [(17,.ptr 17 0),(18,.ptr 18 0),(98,.int k),(99,.int k),(100,.bool (decide ((k:Int)<k)))] sC k _ (fun _ _=>qG8 _ _ _ _) L' Q (fun hv T B A h=>hE (fun hh=>hv hh.2) T B A h) fun hv=> ?_
  exact hQ (fun x hx=>hz x (by omega)) hv L'
end Go.Proofs.YtecoaapkcnhlhaaDoor
