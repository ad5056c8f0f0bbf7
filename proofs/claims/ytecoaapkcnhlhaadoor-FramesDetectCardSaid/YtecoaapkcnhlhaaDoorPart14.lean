/- IGa IG IH VcZza II IA IB: lemmas -/
import Derived.Test.YtecoaapkcnhlhaaDoorPart13
import Derived.Test.YtecoaapkcnhlhaaDoorPart11
set_option linter.unusedSimpArgs false
set_option linter.unusedVariables false
open Nat (reduceEqDiff reduceAdd reduceSub reduceMul reduceLT reduceLeDiff)
open Int (reduceToNat reduceNeg)
namespace Go.Proofs.YtecoaapkcnhlhaaDoor
open Go Go.Vc Txt
def qFh(n xi len:Nat)(cell cell' :PV)(dn:List Nat):Nat->PV
 |0=> .bv 32 1 n
 |1=> .int xi
 |2=> .bv 32 1 n
 |3=> .int xi
 |4=> .ptr 32 xi
 |5=>if dn.contains 7=true then cell' else cell
 |6=> .view 1054 0 1
 |7=> .view 1055 0 (len+1)
 |8=> .ptr 32 xi
 |_=> .bot
def qFi(b b7 b9:List (Nat×List PV))(a a6 a7:List (Nat×Arr))(dn:List Nat):List (Nat×List PV)×List (Nat×Arr)×List (Nat×Mp):=
 (if dn.contains 9=true then b9 else if dn.contains 7=true then b7 else b,if dn.contains 7=true then a7 else if dn.contains 6=true then a6 else a,[])
def qFj(a:List (Nat×Arr))(W:List (List PV))(cell cell' :PV):Prop:=(cell= .nil/\W=[]/\cell' = .nil)\/(cell= .view 1055 0 W.length/\lk a 1055=some ⟨1,54,W⟩/\cell' = .bot)
set_option maxHeartbeats 4000000 in
theorem qFk {P : Env} {s0 : List (Nat × PV)} {b b7 : List (Nat × List PV)} {a : List (Nat × Arr)} (n xi : Nat) (W : List (List PV)) (cell cell' : PV) (C C7 : List PV) (K : St -> Prop)
  (hP:getL s0 1008= .ptr 8 0) (hX:getL s0 1009= .int xi) (hx:xi<n) (hW:W.length<100000000)
  (hb1:lk b 8=some [.bv 32 1 n]) (hb2:lk b7 8=some [.bv 32 1 n]) (hc:lk b 32=some C) (hc7:lk b7 32=some C7) (hC:C.length=n) (hC7:C7.length=n) (hcell:C.getD xi .bot=cell)
  (k6:qiC nul (isId 1054) b=b) (k7:qiC nul (isId 1055) b=b7) (f6:qiB nul (isId 1054) s0=s0) (f7:qiB nul (isId 1055) s0=s0)
  (h:qFj a W cell cell')
  (hK:K ⟨slA (qFh n xi W.length cell cell' [7]) xs33_13 s0,up b7 32 (C7.set xi (.view 1055 0 (W.length+1))),up (up a 1054 ⟨1,54,[[.sc (.int .u64 0)]]⟩) 1055 ⟨1,54,W++[[.sc (.int .u64 0)]]⟩,[]⟩):
  allK P xs33_13 xs33_13.length [] ⟨s0,b,a,[]⟩ K:=by
 have hlk: ∀(l:List (Nat×Arr)) (A:Arr),lk (up l 1054 A) 1055=lk l 1055:=fun l A=>by rw[qa2,if_neg (by decide)]
 have hlk6: ∀(l:List (Nat×Arr)) (A:Arr),lk (up l 1054 A) 1054=some A:=fun l A=>by rw[qa2,if_pos rfl]
 have hub: ∀(c:List PV),lk (up b7 32 c) 8=some [.bv 32 1 n]:=fun c=>by rw[qa2,if_neg (by decide)];exact hb2
 refine qFe (ops:=xs33_13) (qFh n xi W.length cell cell') (qFi b b7 (up b7 32 (C7.set xi (.view 1055 0 (W.length+1)))) a (up a 1054 ⟨1,54,[[.sc (.int .u64 0)]]⟩) (up (up a 1054 ⟨1,54,[[.sc (.int .u64 0)]]⟩) 1055 ⟨1,54,W++[[.sc (.int .u64 0)]]⟩)) rfl rfl ?_ ?_ rfl
 ·rw[xs33_13_all]
  refine⟨?_,?_,?_,?_,?_,?_,?_,?_,?_,?_⟩
  ·intro dn S hr hc' hS L K hK
   have h9:dn.contains 9=false:=qAK hc' hr (List.mem_of_getElem? (i:=9) rfl) (by decide)
   have g0:getL S 1008= .ptr 8 0:=(L 1008 trivial).trans hP
   have e:qFh n xi W.length cell cell' (0::dn)=qFh n xi W.length cell cell' dn:=rfl
   have em:qFi b b7 (up b7 32 (C7.set xi (.view 1055 0 (W.length+1)))) a (up a 1054 ⟨1,54,[[.sc (.int .u64 0)]]⟩) (up (up a 1054 ⟨1,54,[[.sc (.int .u64 0)]]⟩) 1055 ⟨1,54,W++[[.sc (.int .u64 0)]]⟩) (0::dn)=qFi b b7 (up b7 32 (C7.set xi (.view 1055 0 (W.length+1)))) a (up a 1054 ⟨1,54,[[.sc (.int .u64 0)]]⟩) (up (up a 1054 ⟨1,54,[[.sc (.int .u64 0)]]⟩) 1055 ⟨1,54,W++[[.sc (.int .u64 0)]]⟩) dn:=rfl
   rw[em,e,<- hS]at hK
   revert hK
   unfold qFi
   rw[h9]
   intro hK
   cases h7:dn.contains 7<;>rw[h7]at hK<;>simp only[g0,hb1,hb2,push_cast,reduceIte,reduceEqDiff,reduceAdd,reduceSub,reduceMul,Nat.reduceBEq,reduceLT,reduceLeDiff,reduceCtorEq,reduceToNat,reduceNeg,cNI]at hK ⊢ <;>exact hK
  ·intro dn S hr hc' hS L K hK
   have g0:getL S 1009= .int xi:=(L 1009 trivial).trans hX
   have e:qFh n xi W.length cell cell' (1::dn)=qFh n xi W.length cell cell' dn:=rfl
   rw[e,<- hS]at hK
   simp only[g0,push_cast,reduceIte,reduceEqDiff,reduceAdd,reduceSub,reduceMul,Nat.reduceBEq,reduceLT,reduceLeDiff,reduceCtorEq,reduceToNat,reduceNeg,cNI]
   exact hK
  ·intro dn S hr hc' hS L K hK
   have h9:dn.contains 9=false:=qAK hc' hr (List.mem_of_getElem? (i:=9) rfl) (by decide)
   have g0:getL S 1008= .ptr 8 0:=(L 1008 trivial).trans hP
   have e:qFh n xi W.length cell cell' (2::dn)=qFh n xi W.length cell cell' dn:=rfl
   have em:qFi b b7 (up b7 32 (C7.set xi (.view 1055 0 (W.length+1)))) a (up a 1054 ⟨1,54,[[.sc (.int .u64 0)]]⟩) (up (up a 1054 ⟨1,54,[[.sc (.int .u64 0)]]⟩) 1055 ⟨1,54,W++[[.sc (.int .u64 0)]]⟩) (2::dn)=qFi b b7 (up b7 32 (C7.set xi (.view 1055 0 (W.length+1)))) a (up a 1054 ⟨1,54,[[.sc (.int .u64 0)]]⟩) (up (up a 1054 ⟨1,54,[[.sc (.int .u64 0)]]⟩) 1055 ⟨1,54,W++[[.sc (.int .u64 0)]]⟩) dn:=rfl
   rw[em,e,<- hS]at hK
   revert hK
   unfold qFi
   rw[h9]
   intro hK
   cases h7:dn.contains 7<;>rw[h7]at hK<;>simp only[g0,hb1,hb2,push_cast,reduceIte,reduceEqDiff,reduceAdd,reduceSub,reduceMul,Nat.reduceBEq,reduceLT,reduceLeDiff,reduceCtorEq,reduceToNat,reduceNeg,cNI]at hK ⊢ <;>exact hK
  ·intro dn S hr hc' hS L K hK
   have g0:getL S 1009= .int xi:=(L 1009 trivial).trans hX
   have e:qFh n xi W.length cell cell' (3::dn)=qFh n xi W.length cell cell' dn:=rfl
   rw[e,<- hS]at hK
   simp only[g0,push_cast,reduceIte,reduceEqDiff,reduceAdd,reduceSub,reduceMul,Nat.reduceBEq,reduceLT,reduceLeDiff,reduceCtorEq,reduceToNat,reduceNeg,cNI]
   exact hK
  ·intro dn S hr hc' hS L K hK
   have g1:getL S 1050= .bv 32 1 n:=L 1050 (qAI hr (j:=2) (by decide))
   have g2:getL S 1051= .int xi:=L 1051 (qAI hr (j:=3) (by decide))
   have e:qFh n xi W.length cell cell' (4::dn)=qFh n xi W.length cell cell' dn:=rfl
   rw[e,<- hS]at hK
   simp only[g1,g2,Nat.mul_one,push_cast,reduceIte,reduceEqDiff,reduceAdd,reduceSub,reduceMul,Nat.reduceBEq,reduceLT,reduceLeDiff,reduceCtorEq,reduceToNat,reduceNeg,cNI]
   exact⟨⟨by omega,by omega⟩,hK⟩
  ·intro dn S hr hc' hS L K hK
   have g1:getL S 1052= .ptr 32 xi:=L 1052 (qAI hr (j:=4) (by decide))
   have h7:dn.contains 7=false:=qAK hc' hr (List.mem_of_getElem? (i:=7) rfl) (by decide)
   have h9:dn.contains 9=false:=qAK hc' hr (List.mem_of_getElem? (i:=9) rfl) (by decide)
   have e:qFh n xi W.length cell cell' (5::dn)=qFh n xi W.length cell cell' dn:=rfl
   have em: ∀q1 q2 q3 q4 q5 q6,qFi q1 q2 q3 q4 q5 q6 (5::dn)=qFi q1 q2 q3 q4 q5 q6 dn:=fun _ _ _ _ _ _=>rfl
   rw[em,e,<- hS]at hK
   have e5:qFh n xi W.length cell cell' dn 5=cell:=by
    show(if dn.contains 7=true then cell' else cell)=cell
    rw[h7];rfl
   have hK:K ⟨up S 1053 (qFh n xi W.length cell cell' dn 5),_,_,_⟩:=hK
   rw[e5]at hK
   revert hK
   unfold qFi
   rw[h9,h7]
   intro hK
   simp only[g1,hc,qF8 C,hcell,hC,push_cast,reduceIte,reduceEqDiff,reduceAdd,reduceSub,reduceMul,Nat.reduceBEq,reduceLT,reduceLeDiff,reduceCtorEq,reduceToNat,reduceNeg,cNI]at hK ⊢
   exact⟨by omega,hK⟩
  ·intro dn S hr hc' hS L K hK
   have h7:dn.contains 7=false:=qAK hc' hr (List.mem_of_getElem? (i:=7) rfl) (by decide)
   have h9:dn.contains 9=false:=qAK hc' hr (List.mem_of_getElem? (i:=9) rfl) (by decide)
   have h6:dn.contains 6=false:=qAJ hr
   have e:qFh n xi W.length cell cell' (6::dn)=qFh n xi W.length cell cell' dn:=rfl
   have em: ∀q1 q2 q3 q4 q5 q6,qFi q1 q2 q3 q4 q5 q6 (6::dn)=(q1,q5,[]):=fun q1 q2 q3 q4 q5 q6=>by
    show(if dn.contains 9=true then _ else if dn.contains 7=true then _ else _,if dn.contains 7=true then _ else if true=true then _ else _,_)=_
    rw[h9,h7];rfl
   have em0: ∀q1 q2 q3 q4 q5 q6,qFi q1 q2 q3 q4 q5 q6 dn=(q1,q4,[]):=fun q1 q2 q3 q4 q5 q6=>by
    unfold qFi
    rw[h9,h7,h6];rfl
   rw[em,e,<- hS]at hK
   rw[em0]
   have hkS:qiB nul (isId 1054) S=S:=by
    rw[hS,qFb,f6]
    apply qFc
    intro i hi
    rcases i with _|_|_|_|_|_|_|_|_|_|i<;>try rfl
    ·show PV.killV nul (isId 1054) (if dn.contains 7=true then cell' else cell)=(if dn.contains 7=true then cell' else cell)
     rw[h7]
     rcases h with⟨h1,-,-⟩|⟨h1,-,-⟩<;>rw[h1]<;>rfl
    ·rw[h6]at hi;cases hi
   simp only[hkS,k6,rep1,List.set_cons_zero,List.length_cons,List.length_nil,push_cast,reduceIte,reduceEqDiff,reduceAdd,reduceSub,reduceMul,Nat.reduceBEq,reduceLT,reduceLeDiff,reduceCtorEq,reduceToNat,reduceNeg,cNI]at hK ⊢
   first|exact hK|exact⟨by decide,hK⟩
  ·intro dn S hr hc' hS L K hK
   have h9:dn.contains 9=false:=qAK hc' hr (List.mem_of_getElem? (i:=9) rfl) (by decide)
   have h7:dn.contains 7=false:=qAJ hr
   have h6:dn.contains 6=true:=qAI hr (j:=6) (by decide)
   have g5:getL S 1053=cell:=by
    rw[L 1053 (qAI hr (j:=5) (by decide))]
    show(if dn.contains 7=true then cell' else cell)=cell
    rw[h7];rfl
   have g6:getL S 1054= .view 1054 0 1:=L 1054 (qAI hr (j:=6) (by decide))
   have em: ∀q1 q2 q3 q4 q5 q6,qFi q1 q2 q3 q4 q5 q6 (7::dn)=(q2,q6,[]):=fun q1 q2 q3 q4 q5 q6=>by
    show(if dn.contains 9=true then _ else if true=true then _ else _,if true=true then _ else if dn.contains 6=true then _ else _,_)=_
    rw[h9];rfl
   have em0: ∀q1 q2 q3 q4 q5 q6,qFi q1 q2 q3 q4 q5 q6 dn=(q1,q5,[]):=fun q1 q2 q3 q4 q5 q6=>by
    unfold qFi
    rw[h9,h7,h6];rfl
   rw[em]at hK
   rw[em0]
   have hkS:qiB nul (isId 1055) S=slD (qFh n xi W.length cell cell' (7::dn)) dn xs33_13 s0:=by
    rw[hS,qFb,f7]
    apply qFc
    intro i hi
    rcases i with _|_|_|_|_|_|_|_|_|_|i<;>try rfl
    ·show PV.killV nul (isId 1055) (if dn.contains 7=true then cell' else cell)=cell'
     rw[h7]
     rcases h with⟨h1,-,h3⟩|⟨h1,-,h3⟩<;>rw[h1,h3]<;>rfl
    ·rw[h7]at hi;cases hi
   have hK:K ⟨up (slD (qFh n xi W.length cell cell' (7::dn)) dn xs33_13 s0) 1055 (.view 1055 0 (W.length+1)),_,_,_⟩:=hK
   rw[<- hkS]at hK
   rcases h with⟨h1,h2,h3⟩|⟨h1,h2,h3⟩
   ·subst h2
    rw[h1]at g5
    simp only[g5,g6,hlk6,k7,List.take_succ_cons,List.take_zero,List.length_cons,List.length_nil,List.nil_append,push_cast,reduceIte,reduceEqDiff,reduceAdd,reduceSub,reduceMul,Nat.reduceBEq,reduceLT,reduceLeDiff,reduceCtorEq,reduceToNat,reduceNeg,cNI]at hK ⊢
    first|exact hK|exact⟨by decide,hK⟩
   ·rw[h1]at g5
    simp only[g5,g6,hlk,hlk6,h2,k7,List.take_succ_cons,List.take_zero,List.length_cons,List.length_nil,push_cast,reduceIte,reduceEqDiff,reduceAdd,reduceSub,reduceMul,Nat.reduceBEq,reduceLT,reduceLeDiff,reduceCtorEq,reduceToNat,reduceNeg,cNI]at hK ⊢
    exact⟨⟨by omega,by omega⟩,hK⟩
  ·intro dn S hr hc' hS L K hK
   have h9:dn.contains 9=false:=qAK hc' hr (List.mem_of_getElem? (i:=9) rfl) (by decide)
   have g1:getL S 1048= .bv 32 1 n:=L 1048 (qAI hr (j:=0) (by decide))
   have g2:getL S 1049= .int xi:=L 1049 (qAI hr (j:=1) (by decide))
   have e:qFh n xi W.length cell cell' (8::dn)=qFh n xi W.length cell cell' dn:=rfl
   rw[e,<- hS]at hK
   simp only[g1,g2,Nat.mul_one,push_cast,reduceIte,reduceEqDiff,reduceAdd,reduceSub,reduceMul,Nat.reduceBEq,reduceLT,reduceLeDiff,reduceCtorEq,reduceToNat,reduceNeg,cNI]
   exact⟨⟨by omega,by omega⟩,hK⟩
  ·intro dn S hr hc' hS L K hK
   have h9:dn.contains 9=false:=qAJ hr
   have h7:dn.contains 7=true:=qAI hr (j:=7) (by decide)
   have g1:getL S 1056= .ptr 32 xi:=L 1056 (qAI hr (j:=8) (by decide))
   have g2:getL S 1055= .view 1055 0 (W.length+1):=L 1055 (qAI hr (j:=7) (by decide))
   have e:qFh n xi W.length cell cell' (9::dn)=qFh n xi W.length cell cell' dn:=rfl
   have em: ∀q1 q2 q3 q4 q5 q6,qFi q1 q2 q3 q4 q5 q6 (9::dn)=(q3,q6,[]):=fun q1 q2 q3 q4 q5 q6=>by
    show(if true=true then _ else if dn.contains 7=true then _ else _,if dn.contains 7=true then _ else if dn.contains 6=true then _ else _,_)=_
    rw[h7];rfl
   have em0: ∀q1 q2 q3 q4 q5 q6,qFi q1 q2 q3 q4 q5 q6 dn=(q2,q6,[]):=fun q1 q2 q3 q4 q5 q6=>by
    unfold qFi
    rw[h9,h7];rfl
   rw[em,e,<- hS]at hK
   rw[em0]
   have hK:K ⟨S,_,_,_⟩:=hK
   simp only[g1,g2,hc7,hC7,qF9 C7 xi _ (by omega),push_cast,reduceIte,reduceEqDiff,reduceAdd,reduceSub,reduceMul,Nat.reduceBEq,reduceLT,reduceLeDiff,reduceCtorEq,reduceToNat,reduceNeg,cNI]at hK ⊢
   exact⟨by omega,hK⟩
 ·intro dn h
  rw[xs33_13_all]at h
  obtain⟨h0,h1,h2,h3,h4,h5,h6,h7,h8,h9⟩:=h
  have em: ∀q1 q2 q3 q4 q5 q6,qFi q1 q2 q3 q4 q5 q6 dn=(q3,q6,[]):=fun q1 q2 q3 q4 q5 q6=>by
   unfold qFi
   rw[if_pos h9,if_pos h7]
  have ev:qFh n xi W.length cell cell' dn=qFh n xi W.length cell cell' [7]:=by
   funext i
   rcases i with _|_|_|_|_|_|_|_|_|_|i<;>try rfl
   show(if dn.contains 7=true then cell' else cell)=cell'
   rw[if_pos h7]
  rw[em,ev]
  exact hK
end Go.Proofs.YtecoaapkcnhlhaaDoor
namespace Go.Proofs.YtecoaapkcnhlhaaDoor
open Go Go.Vc Go.Ham Txt
def rowO(l:List Bool):Option (List (List PV)):=if l=[]then none else some (rows u64C (nats (qBy l)))
def rsD(n:Nat)(D:Nat->List Bool):List (Option (List (List PV))):=(List.range n).map fun x=>rowO (D x)
def updD(D:Nat->List Bool)(x:Nat)(l:List Bool):Nat->List Bool:=fun y=>if y=x then l else D y
theorem qFl(n:Nat)(D:Nat->List Bool):(rsD n D).length=n:=by simp[rsD]
theorem qFm{n x:Nat}(h:x<n)(D:Nat->List Bool):(rsD n D)[x]? =some (rowO (D x)):=by
 rw[rsD,List.getElem?_map,List.getElem?_range h];rfl
theorem qFn(n:Nat)(D:Nat->List Bool)(x:Nat)(l:List Bool):(rsD n D).set x (rowO l)=rsD n (updD D x l):=by
 refine List.ext_getElem (by simp[rsD]) fun i h1 h2=> ?_
 rw[List.getElem_set]
 simp only[rsD,List.getElem_map,List.getElem_range,updD]
 split
 ·next h=>rw[if_pos h.symm]
 ·next h=>rw[if_neg fun e=>h e.symm]
def bitB(g:Grid)(c:Cfg)(D:Nat->List Bool):List (Nat×List PV):=[(2,quQ false g),(3,cfgC false c),(7,[.view 28 0 (wN g+1)]),(8,[.bv 32 1 (wN g+1)]),(24,List.replicate (wN g+1) .nil),(32,qAR 2000 (rsD (wN g+1) D)),(102,quQ false g),(103,[.ptr 3 0]),(105,[.int (quU g)]),(204,[.yl 999])]
def bitA(g:Grid)(L:List Int)(D:Nat->List Bool):List (Nat×Arr):=(28,⟨1,3,ints L⟩)::qAS 1 54 2000 (rsD (wN g+1) D)
theorem qFo(n:Nat):rsD n (fun _=>[])=List.replicate n none:=by
 rw[List.eq_replicate_iff]
 exact⟨by simp[rsD],fun b hb=>by obtain⟨x,_,rfl⟩:=List.mem_map.1 hb;rfl⟩
theorem qFp: ∀k n:Nat,qAR k (List.replicate n none)=List.replicate n .nil
 |_,0=>rfl
 |k,n+1=>by rw[List.replicate_succ,qAR,qFp (k+1) n];rfl
theorem qFq(es ty:Nat): ∀k n:Nat,qAS es ty k (List.replicate n none)=[]
 |_,0=>rfl
 |k,n+1=>by rw[List.replicate_succ,qAS,qFq es ty (k+1) n]
theorem qFr(pb pa:Nat->Bool): ∀n:Nat,anyT pb pa (List.replicate n PV.nil)=false
 |0=>rfl
 | n + 1 => by
   rw[List.replicate_succ]
   refine sB ?_
   exact qFr pb pa n
theorem qFs(l:List Int):farV (.sl false 1 (ints l)):=⟨fun _ _=>⟨rfl,rfl⟩,fun _ _ _=>⟨rfl,rfl⟩⟩
theorem qFt(g:Grid)(hg:GOk g)(c:Cfg)(hs:CfgSm c)(h0:validE g c≠0):FnEq Tryd.prog 33 [.agg (quQ false g),.agg (cfgC false c)] (.tup [.nil,.int 310]):=by
 have hv:=qyr g hg c hs
 refine FnEq.of_awp Tryd.func33 ok33 (by show 2<=_;decide) (by simp only[push_cast,reduceIte,reduceEqDiff,reduceAdd,reduceSub,reduceMul,Nat.reduceBEq,reduceLT,reduceLeDiff,reduceCtorEq,reduceToNat,reduceNeg,cNI]<;>first|exact fun _ _=>trivial|simp) ?_
 simp only[ac33,rv33,push_cast,reduceIte,reduceEqDiff,reduceAdd,reduceSub,reduceMul,Nat.reduceBEq,reduceLT,reduceLeDiff,reduceCtorEq,reduceToNat,reduceNeg,cNI]
 refine qrr hv (by exact⟨.refl _,.refl _,trivial⟩) ?_
 simp only[qFr,push_cast,reduceIte,reduceEqDiff,reduceAdd,reduceSub,reduceMul,Nat.reduceBEq,reduceLT,reduceLeDiff,reduceCtorEq,reduceToNat,reduceNeg,cNI]
 exact qnU (fun h=>trivial) fun h=>absurd h0 h
theorem qFu(a k:Nat)(hk:k<=64):shfF .shr .i64 a k=((a/2^k:Nat):Int):=by
 show(a:Int).fdiv (2^(min (k:Int).toNat 64))=_
 rw[Int.toNat_natCast,Nat.min_eq_left hk,Int.fdiv_eq_ediv_of_nonneg _ (Int.pow_nonneg (by decide)),Int.natCast_ediv]
 norm_cast
theorem qFv(v k:Nat)(hv:v<2^62)(hk:k<=64):bitF .and .i64 (shfF .shr .i64 v k) 1=((v.testBit k).toNat:Int):=by
 rw[qFu v k hk]
 have h1:v/2^k<2^63:=Nat.lt_of_le_of_lt (Nat.div_le_self _ _) (by omega)
 rw[show(1:Int)=((1:Nat):Int)from rfl,qBf h1 (by decide)]
 have:v/2^k&&&1=(v.testBit k).toNat:=by
  rw[Nat.testBit_eq_decide_div_mod_eq,Nat.and_one_is_mod]
  rcases Nat.mod_two_eq_zero_or_one (v/2^k)with e|e<;>rw[e]<;>rfl
 rw[this]
theorem qFw(w r:Nat)(b:Bool)(hw:w<2^57)(hr:r<57):bitF .or .u64 (w:Int) (shfF .shl .u64 (b.toNat:Int) (r:Int))=((w|||(b.toNat<<<r):Nat):Int):=by
 have h2:b.toNat*2^r<2^57:=by
  have:2^r<2^57:=Nat.pow_lt_pow_right (by decide) hr
  cases b<;>simp<;>omega
 rw[qBj (by omega) (by omega),qBd (by omega) (by omega),Nat.shiftLeft_eq]
theorem qFx(W:List Nat)(i:Nat):(nats W).getD i default=((W.getD i 0:Nat):Int):=by
 simp only[nats,List.getD_eq_getElem?_getD,List.getElem?_map]
 cases W[i]? <;>rfl
theorem qFy(W:List Nat)(i v:Nat):(nats W).set i (v:Int)=nats (W.set i v):=by
 simp[nats,List.map_set]
def bxE(g:Grid)(c:Cfg)(cells:List PV)(p:PV)(n:Int):List (Nat×List PV):=[(2,quQ false g),(3,cfgC false c),(7,[.view 28 0 (wN g+1)]),(8,[.bv 32 1 (wN g+1)]),(24,List.replicate (wN g+1) .nil),(32,cells),(102,quQ false g),(103,[.ptr 3 0]),(105,[.int (quU g)]),(204,[.yl 999]),(1010,[p,.int n])]
theorem qFz (g : Grid) (hg : GOk g) (c : Cfg) {S : List (Nat × PV)} (hS : qtT 1000 S = true) (cells : List PV) (x n k i : Nat) (l : List Int) (hi : i < l.length) (W : List Nat) (hx : x <= wN g) (hc : cells.length = wN g + 1) (hcx : cells.getD x .bot = .view 1055 0 W.length)
  (L:List Int) (hL:L.length=wN g+1) (ct:Nat) (hLx:L.getD x default=ct) (hct:ct/57<W.length) (hct2:ct<3000000000) (hk:k<64) (v:Nat) (hlv:l.getD i default=v) (hv2:v<2^62) (hW:W.getD (ct/57) 0<2^57) (R A:List (Nat×Arr)) (hA:A=[]\/ ∃z,A=[(1054,z)]) (T:List (Nat×PV)) (hT:qhk [1000,125,1007,1008,1009,1010,1011,1038,1039] T=[]) (Q:Exit->St->Prop)
  (hQ:Q .normal ⟨S++[(1007,.ptr 7 0),(1008,.ptr 8 0),(1009,.int x),(1010,.ptr 1010 0),(1038,.int n),(1039,.int k),(1084,.view 28 0 (wN g+1)),(1085,.int x),(1086,.eptr 28 x 0),(1087,.int ct),(1088,.int ((ct:Int)+1)),(1089,.eptr 28 x 0)],bxE g c cells (qCI (.sl false 1 (ints l)) i) n,(28,⟨1,3,ints (L.set x ((ct:Int)+1))⟩)::(A++(1055,⟨1,54,rows u64C (nats (W.set (ct/57) (W.getD (ct/57) 0|||((v.testBit k).toNat<<<(ct%57)))))⟩)::R),[]⟩):
  awp (Env.of Tryd.prog) ac33_r14 Q ⟨S++([(1007,.ptr 7 0),(1008,.ptr 8 0),(1009,.int x),(1010,.ptr 1010 0),(1011,.int k),(1038,.int n),(1039,.int k)]++T),bxE g c cells (qCI (.sl false 1 (ints l)) i) n,(28,⟨1,3,ints L⟩)::(A++(1055,⟨1,54,rows u64C (nats W)⟩)::R),[]⟩:=by
 unfold bxE at hQ ⊢
 have hb:=qFv v k hv2 (by omega)
 obtain⟨q,hq⟩: ∃q,q=ct/57:=⟨_,rfl⟩
 obtain⟨r,hr⟩: ∃r,r=ct%57:=⟨_,rfl⟩
 have hd:(ct:Int)/57=(q:Int):=by omega
 have hm:(ct:Int)%57=(r:Int):=by omega
 rw[<- hq]at hct hW hQ
 rw[<- hr]at hQ
 have hw2:=hg.n.w2
 have hbn:(v.testBit k).toNat<=1:=Bool.toNat_le _
 simp only[qCI]at hQ
 rcases hA with rfl|⟨z,rfl⟩
 all_goals
  simp only[ac33_r14,hT,qCo hS,qCn hS,qCp hS,qCq hS,qCr hS,qCI,Nat.mul_one,qF8 cells,hc,hcx,hL,hLx,hlv,hb,hd,hm,qFx,qFw _ r (v.testBit k) hW (by omega),qFy,qER,push_cast,reduceIte,reduceEqDiff,reduceAdd,reduceSub,reduceMul,Nat.reduceBEq,reduceLT,reduceLeDiff,reduceCtorEq,reduceToNat,reduceNeg,cNI]
  exact⟨⟨by omega,by omega⟩,hx,⟨by omega,by omega⟩,by omega,⟨by omega,by omega,by decide⟩,⟨by omega,by omega⟩,by omega,hi,by omega,⟨by omega,by omega⟩,⟨by omega,by omega⟩,by omega,⟨by omega,by omega,by decide⟩,by omega,⟨by omega,by omega⟩,by omega,⟨by omega,by omega⟩,by omega,⟨by omega,by omega⟩,⟨by omega,by omega⟩,by omega,hQ⟩
def wrdN(m:List Bool):List Nat:=if m.length%57=0 then qBy m++[0]else qBy m
theorem qFA(m:List Bool):m.length/57<(wrdN m).length:=by
 unfold wrdN
 split
 ·rw[List.length_append,qBA];simp only[nW,List.length_cons,List.length_nil];omega
 ·rw[qBA];simp only[nW];omega
theorem qFB(m:List Bool):(wrdN m).getD (m.length/57) 0<2^57:=by
 rw[List.getD_eq_getElem?_getD,List.getElem?_eq_getElem (qFA m)]
 have h:=List.getElem_mem (qFA m)
 simp only[Option.getD_some]
 generalize (wrdN m)[m.length/57]'(qFA m)=w at h
 unfold wrdN at h
 split at h
 ·rcases List.mem_append.1 h with h|h
  ·exact qBB h
  ·simp at h;subst h;decide
 ·exact qBB h
theorem qFC(m:List Bool)(b:Bool):(wrdN m).set (m.length/57) ((wrdN m).getD (m.length/57) 0|||(b.toNat<<<(m.length%57)))=qBy (m++[b]):=by
 unfold wrdN
 split
 ·next h=>
  have hl:(qBy m).length=m.length/57:=by rw[qBA];simp only[nW];omega
  rw[qBD m b h,<- hl,h]
  simp[List.getD_eq_getElem?_getD]
 ·next h=>rw[qBE m b h]
def opA(id:Nat):Option (List (List PV))->List (Nat×Arr)
 |none=>[]
 |some r=>[(id,⟨1,54,r⟩)]
def qFD(g:Grid)(D:Nat->List Bool)(x:Nat)(m:List Bool):List PV:=(qAR 2000 (rsD (wN g+1) (updD D x []))).set x (rowC 1055 (rowO m))
def qFE(g:Grid)(A:List (Nat×Arr))(L:List Int)(D:Nat->List Bool)(x:Nat)(m:List Bool):List (Nat×Arr):=(28,⟨1,3,ints L⟩)::(A++(opA 1055 (rowO m)++qAS 1 54 2000 (rsD (wN g+1) (updD D x []))))
def a54(A:List (Nat×Arr)):Prop:=A=[]\/ ∃z,A=[(1054,z)]
theorem qFF{j:Nat}(C:List PV)(x n:Nat)(hx:x<C.length)(hC:anyT nul (isId j) (C.set x .nil)=false):qiA nul (isId j) (C.set x (.view j 0 n))=C.set x .bot:=by
 induction C generalizing x with
 |nil=>simp at hx
 |cons c C ih=>
   cases x with
   |zero=>
     rw[List.set_cons_zero,qhK,Bool.or_eq_false_iff]at hC
     rw[List.set_cons_zero,qiE,qiL _ _ hC.2]
     simp[PV.to,isId,PV.killed]
   |succ x=>
     rw[List.set_cons_succ,qhK,Bool.or_eq_false_iff]at hC
     rw[List.set_cons_succ,qiE,hC.1,ih x (by simpa using hx) hC.2]
     rfl
theorem qFG{j:Nat}(C:List PV)(x n:Nat)(hx:x<C.length):anyT nul (isId j) (C.set x (.view j 0 n))=true:=by
 rw[<- qhH,List.any_eq_true]
 exact⟨.view j 0 n,List.mem_of_getElem? (i:=x) (by simp[hx]),by simp[PV.to,isId]⟩
theorem qFH(g:Grid)(D:Nat->List Bool)(x j:Nat)(hj:j<2000):anyT nul (isId j) (qAR 2000 (rsD (wN g+1) (updD D x [])))=false:=
 qF6 _ _ _ fun y r _=>beq_false_of_ne (by omega)
theorem qFI{g:Grid}{x:Nat}(hx:x<=wN g)(D:Nat->List Bool):(qAR 2000 (rsD (wN g+1) (updD D x []))).set x .nil=qAR 2000 (rsD (wN g+1) (updD D x [])):=by
 have h:(rsD (wN g+1) (updD D x [])).set x none=rsD (wN g+1) (updD D x []):=by
  have:=qFn (wN g+1) (updD D x []) x []
  rw[show rowO []=none from rfl]at this
  rw[this]
  congr 1
  funext y
  simp only[updD]
  split<;>rfl
 have h2:=qAV 2000 (rsD (wN g+1) (updD D x [])) x none
 rw[h]at h2
 exact h2
theorem qFJ(g:Grid)(D:Nat->List Bool){j:Nat}(hj:j<2000)(A:Arr):up (qAS 1 54 2000 (rsD (wN g+1) D)) j A=(j,A)::qAS 1 54 2000 (rsD (wN g+1) D):=
 qB2 _ _ _ fun y hy=>by have:=qB3 1 54 2000 _ y hy;omega
theorem qFL(l m:List Nat):nats l++nats m=nats (l++m):=by simp[nats]
set_option maxHeartbeats 1000000 in
theorem qFM (g : Grid) (hg : GOk g) (c : Cfg) {S : List (Nat × PV)} (hS : qtT 1000 S = true) (hSf : ∀ j, 1000 <= j -> farL j S) (D : Nat -> List Bool) (x n k i : Nat) (l : List Int) (hi : i < l.length) (m : List Bool) (hx : x <= wN g)
  (L:List Int) (hL:L.length=wN g+1) (hLx:L.getD x default=m.length) (hct2:m.length<2000000000) (hk:k<64) (v:Nat) (hlv:l.getD i default=v) (hv2:v<2^62) (A:List (Nat×Arr)) (hA:a54 A) (T:List (Nat×PV)) (hT:qhk [1000,125,1007,1008,1009,1010,1038,1039] T=[]) (Q:Exit->St->Prop)
  (hQ: ∀A,a54 A->Q .normal ⟨S++[(1007,.ptr 7 0),(1008,.ptr 8 0),(1009,.int x),(1010,.ptr 1010 0),(1038,.int n),(1039,.int k),(1084,.view 28 0 (wN g+1)),(1085,.int x),(1086,.eptr 28 x 0),(1087,.int m.length),(1088,.int ((m.length:Int)+1)),(1089,.eptr 28 x 0)],bxE g c (qFD g D x (m++[v.testBit k])) (qCI (.sl false 1 (ints l)) i) n,qFE g A (L.set x ((m.length:Int)+1)) D x (m++[v.testBit k]),[]⟩):
  awp (Env.of Tryd.prog) ac33_r11 Q ⟨S++([(1007,.ptr 7 0),(1008,.ptr 8 0),(1009,.int x),(1010,.ptr 1010 0),(1038,.int n),(1039,.int k)]++T),bxE g c (qFD g D x m) (qCI (.sl false 1 (ints l)) i) n,qFE g A L D x m,[]⟩:=by
 have hw2:=hg.n.w2
 have hwl:=qFA m
 have hws:=qFC m (v.testBit k)
 have hne:m++[v.testBit k]≠[]:=by simp
 have f4:=qFH g D x 1054 (by decide)
 have f5:=qFH g D x 1055 (by decide)
 have r4:=qFJ g (updD D x []) (j:=1054) (by decide)
 have r5:=qFJ g (updD D x []) (j:=1055) (by decide)
 have hn:=qFI hx D
 have s4:=qCQ (hSf 1054 (by decide))
 have s5:=qCQ (hSf 1055 (by decide))
 have hcl:(qAR 2000 (rsD (wN g+1) (updD D x []))).length=wN g+1:=by rw[qAT,qFl]
 unfold qFD at hQ ⊢
 unfold qFE at hQ ⊢
 generalize qAR 2000 (rsD (wN g+1) (updD D x []))=C at *
 generalize qAS 1 54 2000 (rsD (wN g+1) (updD D x []))=R at *
 have hcx: ∀v,(C.set x v).getD x .bot=v:=fun v=>by rw[List.getD_eq_getElem?_getD,List.getElem?_set_self (by omega)];rfl
 have hcl2: ∀v,(C.set x v).length=wN g+1:=fun v=>by rw[List.length_set,hcl]
 have rest:=fun(C' :List PV) W h1 h2 h3 h4 R' A hA T hT hq=>qFz g hg c hS C' x n k i l hi W hx h1 h2 L hL m.length hLx h3 (by omega) hk v hlv hv2 h4 R' A hA T hT Q hq
 have hro: ∀m:List Bool,m≠[]->rowO m=some (rows u64C (nats (qBy m))):=fun m h=>if_neg h
 have hwr:(wrdN m).length=(qBy m).length+(if m.length%57=0 then 1 else 0):=by unfold wrdN;split<;>simp
 have hwn:(qBy m).length<100000000:=by rw[qBA];simp only[nW];omega
 have hset: ∀(W:List Nat) (i v:Nat),(W.set i v).length=W.length:=fun _ _ _=>List.length_set ..
 have hsetX: ∀v w,(C.set x v).set x w=C.set x w:=fun v w=>List.set_set ..
 have fin: ∀A,a54 A-> ∀T,qhk [1000,125,1007,1008,1009,1010,1011,1038,1039] T=[]->awp (Env.of Tryd.prog) ac33_r14 Q ⟨S++([(1007,.ptr 7 0),(1008,.ptr 8 0),(1009,.int x),(1010,.ptr 1010 0),(1011,.int k),(1038,.int n),(1039,.int k)]++T),bxE g c (C.set x (.view 1055 0 (wrdN m).length)) (qCI (.sl false 1 (ints l)) i) n,(28,⟨1,3,ints L⟩)::(A++(1055,⟨1,54,rows u64C (nats (wrdN m))⟩)::R),[]⟩:=by
  intro A hA T hT
  refine rest _ (wrdN m) (hcl2 _) (hcx _) hwl (qFB m) R A hA T hT ?_
  have hq:=hQ A hA
  rw[hro _ hne]at hq
  have hl:(qBy (m++[v.testBit k])).length=(wrdN m).length:=by rw[<- hws,List.length_set]
  simp only[rowC,opA,qER,qkg,List.cons_append,List.nil_append]at hq
  rw[hws,<- hl]
  exact hq
 cases hm:m with
 |nil=>
   rw[hm]at hLx fin
   have hw0:wrdN []=[0]:=by decide
   rw[hw0]at fin
   rcases hA with rfl|⟨z,rfl⟩
   all_goals
    simp only[ac33_r11,hT,bxE,rowO,if_true,rowC,opA,hn,hcl,qCo hS,qCn hS,qCp hS,qCq hS,qCr hS,qCI,Nat.mul_one,hL,hLx,push_cast,reduceIte,reduceEqDiff,reduceAdd,reduceSub,reduceMul,Nat.reduceBEq,reduceLT,reduceLeDiff,reduceCtorEq,reduceToNat,reduceNeg,cNI]
    refine⟨⟨by omega,by omega⟩,by omega,⟨by decide,by decide,by decide⟩,qnU (fun _=> ?_) fun h=>absurd (by decide) h⟩
    refine qFk (b:=bxE g c C (qCI (.sl false 1 (ints l)) i) n) (b7:=bxE g c C (qCI (.sl false 1 (ints l)) i) n) (n:=wN g+1) (xi:=x) (W:=[]) (cell:= .nil) (cell' := .nil) (C:=C) (C7:=C) _ ?_ ?_ (by omega) (by decide) rfl rfl rfl rfl hcl hcl ?_ ?_ ?_ ?_ ?_ (.inl ⟨rfl,rfl,rfl⟩) ?_
    ·simp only[qCp hS,push_cast,reduceIte,reduceEqDiff,reduceAdd,reduceSub,reduceMul,Nat.reduceBEq,reduceLT,reduceLeDiff,reduceCtorEq,reduceToNat,reduceNeg,cNI]
    ·simp only[qCp hS,push_cast,reduceIte,reduceEqDiff,reduceAdd,reduceSub,reduceMul,Nat.reduceBEq,reduceLT,reduceLeDiff,reduceCtorEq,reduceToNat,reduceNeg,cNI]
    ·rw[<- hn];exact hcx _
    ·simp only[bxE,qCI,f4,qFr,push_cast,reduceIte,reduceEqDiff,reduceAdd,reduceSub,reduceMul,Nat.reduceBEq,reduceLT,reduceLeDiff,reduceCtorEq,reduceToNat,reduceNeg,cNI]
    ·simp only[bxE,qCI,f5,qFr,push_cast,reduceIte,reduceEqDiff,reduceAdd,reduceSub,reduceMul,Nat.reduceBEq,reduceLT,reduceLeDiff,reduceCtorEq,reduceToNat,reduceNeg,cNI]
    ·simp only[qCS,s4,push_cast,reduceIte,reduceEqDiff,reduceAdd,reduceSub,reduceMul,Nat.reduceBEq,reduceLT,reduceLeDiff,reduceCtorEq,reduceToNat,reduceNeg,cNI]
    ·simp only[qCS,s5,push_cast,reduceIte,reduceEqDiff,reduceAdd,reduceSub,reduceMul,Nat.reduceBEq,reduceLT,reduceLeDiff,reduceCtorEq,reduceToNat,reduceNeg,cNI]
    ·simp only[slA,xs33_13,putD,qFh,bxE,qCI,r4,r5,qCo hS,qCn hS,qCp hS,qCq hS,qCr hS,push_cast,reduceIte,reduceEqDiff,reduceAdd,reduceSub,reduceMul,Nat.reduceBEq,reduceLT,reduceLeDiff,reduceCtorEq,reduceToNat,reduceNeg,cNI]
     exact fin [(1054,_)] (.inr ⟨_,rfl⟩) [(1048,_),(1049,_),(1050,_),(1051,_),(1052,_),(1053,_),(1054,_),(1055,_),(1056,_)] rfl
 |cons y r=>
   have hmn:m≠[]:=by rw[hm];exact List.cons_ne_nil _ _
   rw[<- hm,hro _ hmn]
   have b4:anyT nul (isId 1054) (C.set x (.view 1055 0 (qBy m).length))=false:=qF7 _ _ _ _ _ f4 rfl
   have b5:=qFG (j:=1055) C x (qBy m).length (by omega)
   have b6:=qFF (j:=1055) C x (qBy m).length (by omega) (by rw[hn];exact f5)
   have hfin:=fin A hA
   rcases hA with rfl|⟨z,rfl⟩
   all_goals
    simp only[ac33_r11,hT,bxE,rowC,opA,hcl,qkg,qER,qCo hS,qCn hS,qCp hS,qCq hS,qCr hS,qCI,Nat.mul_one,hL,hLx,push_cast,reduceIte,reduceEqDiff,reduceAdd,reduceSub,reduceMul,Nat.reduceBEq,reduceLT,reduceLeDiff,reduceCtorEq,reduceToNat,reduceNeg,cNI]
    refine⟨⟨by omega,by omega⟩,by omega,⟨by omega,by omega,by decide⟩,qnU (fun h=> ?_) fun h=> ?_⟩
    ·have hw1:wrdN m=qBy m++[0]:=if_pos (by omega)
     rw[hw1]at fin
     refine qFk (b:=bxE g c (C.set x (.view 1055 0 (qBy m).length)) (qCI (.sl false 1 (ints l)) i) n) (b7:=bxE g c (C.set x .bot) (qCI (.sl false 1 (ints l)) i) n) (n:=wN g+1) (xi:=x) (W:=rows u64C (nats (qBy m))) (cell:= .view 1055 0 (qBy m).length) (cell' := .bot) (C:=C.set x (.view 1055 0 (qBy m).length)) (C7:=C.set x .bot) _ ?_ ?_ (by omega) ?_ rfl rfl rfl rfl (hcl2 _) (hcl2 _) (hcx _) ?_ ?_ ?_ ?_ (.inr ⟨?_,rfl,rfl⟩) ?_
     ·simp only[qCp hS,push_cast,reduceIte,reduceEqDiff,reduceAdd,reduceSub,reduceMul,Nat.reduceBEq,reduceLT,reduceLeDiff,reduceCtorEq,reduceToNat,reduceNeg,cNI]
     ·simp only[qCp hS,push_cast,reduceIte,reduceEqDiff,reduceAdd,reduceSub,reduceMul,Nat.reduceBEq,reduceLT,reduceLeDiff,reduceCtorEq,reduceToNat,reduceNeg,cNI]
     ·rw[qkg,qER];exact hwn
     ·simp only[bxE,qCI,b4,qFr,push_cast,reduceIte,reduceEqDiff,reduceAdd,reduceSub,reduceMul,Nat.reduceBEq,reduceLT,reduceLeDiff,reduceCtorEq,reduceToNat,reduceNeg,cNI]
     ·simp only[bxE,qCI,b5,b6,qFr,push_cast,reduceIte,reduceEqDiff,reduceAdd,reduceSub,reduceMul,Nat.reduceBEq,reduceLT,reduceLeDiff,reduceCtorEq,reduceToNat,reduceNeg,cNI]
     ·simp only[qCS,s4,push_cast,reduceIte,reduceEqDiff,reduceAdd,reduceSub,reduceMul,Nat.reduceBEq,reduceLT,reduceLeDiff,reduceCtorEq,reduceToNat,reduceNeg,cNI]
     ·simp only[qCS,s5,push_cast,reduceIte,reduceEqDiff,reduceAdd,reduceSub,reduceMul,Nat.reduceBEq,reduceLT,reduceLeDiff,reduceCtorEq,reduceToNat,reduceNeg,cNI]
     ·rw[qkg,qER]
     ·simp only[slA,xs33_13,putD,qFh,bxE,qCI,hsetX,qkg,qER,qCo hS,qCn hS,qCp hS,qCq hS,qCr hS,push_cast,reduceIte,reduceEqDiff,reduceAdd,reduceSub,reduceMul,Nat.reduceBEq,reduceLT,reduceLeDiff,reduceCtorEq,reduceToNat,reduceNeg,cNI]
      have hf:=fin [(1054,⟨1,54,[[.sc (.int .u64 0)]]⟩)] (.inr ⟨_,rfl⟩) [(1048,.bv 32 1 (wN g+1)),(1049,.int x),(1050,.bv 32 1 (wN g+1)),(1051,.int x),(1052,.ptr 32 x),(1053,.bot),(1054,.view 1054 0 1),(1055,.view 1055 0 ((qBy m).length+1)),(1056,.ptr 32 x)] rfl
      simp only[bxE,qCI,List.length_append,List.length_cons,List.length_nil,List.cons_append,List.nil_append]at hf
      rw[show nats (qBy m++[0])=nats (qBy m)++[0]from by rw[<- qFL];rfl]at hf
      exact hf
    ·have hw1:wrdN m=qBy m:=if_neg (by omega)
     rw[hw1]at hfin
     have hT2:qhk [1000,125,1007,1008,1009,1010,1011,1038,1039] [(1042,.view 28 0 (wN g+1)),(1043,.int x),(1044,.eptr 28 x 0),(1045,.int m.length),(1046,.int ((m.length:Int)%57)),(1047,.bool (decide ((m.length:Int)%57=0)))]=[]:=by simp only[push_cast,reduceIte,reduceEqDiff,reduceAdd,reduceSub,reduceMul,Nat.reduceBEq,reduceLT,reduceLeDiff,reduceCtorEq,reduceToNat,reduceNeg,cNI]
     exact hfin _ hT2
end Go.Proofs.YtecoaapkcnhlhaaDoor
namespace Go.Proofs.YtecoaapkcnhlhaaDoor
open Go Go.Vc Go.Ham Txt
theorem qFN(D:Nat->List Bool)(x:Nat)(h:D x=[]):updD D x []=D:=by
 funext y;unfold updD;split
 ·next e=>rw[e,h]
 ·rfl
theorem qFO(D:Nat->List Bool)(x:Nat)(l m:List Bool):updD (updD D x l) x m=updD D x m:=by
 funext y;unfold updD;split<;>simp_all
theorem qFP (g : Grid) (c : Cfg) {s : List (Nat × PV)} (D : Nat -> List Bool) (x : Nat) (hx : x <= wN g) (hs1 : farL (2000 + x) s) (hs2 : farL 1055 s) (L l : List Int) (i : Nat) (n : Int) :
  SWk ⟨s,bxE g c (qAR 2000 (rsD (wN g+1) D)) (qCI (.sl false 1 (ints l)) i) n,(28,⟨1,3,ints L⟩)::qAS 1 54 2000 (rsD (wN g+1) D),[]⟩ ⟨s,bxE g c (qFD g D x (D x)) (qCI (.sl false 1 (ints l)) i) n,qFE g [] L D x (D x),[]⟩:=by
 have hN:=qFm (n:=wN g+1) (x:=x) (by omega) D
 have hset:(rsD (wN g+1) D).set x none=rsD (wN g+1) (updD D x []):=qFn (wN g+1) D x []
 by_cases h:D x=[]
 ·have e:=qFI hx D
  unfold qFD qFE
  rw[h,show rowO []=none from rfl]
  simp only[rowC,opA,e,List.nil_append]
  rw[qFN D x h]
  exact SWk.refl _
 ·have hr:rowO (D x)=some (rows u64C (nats (qBy (D x)))):=if_neg h
  rw[hr]at hN
  have h28: ¬28=2000+x:=by omega
  refine SWk.renEq (A:=⟨1,54,rows u64C (nats (qBy (D x)))⟩) (2000+x) 1055 ?_ ?_ hs1 hs2 ?_ ?_ ?_
  ·rw[lk,if_neg h28,qB1,hN];rfl
  ·rw[lk,if_neg (by decide),qB0 _ _ _ _ _ (by decide)]
  ·have:=qF6 (isId 1055) 2000 (rsD (wN g+1) D) fun y r _=>beq_false_of_ne (by omega)
   simp only[bxE,qCI,qFr,this,qin,qim,push_cast,reduceIte,reduceEqDiff,reduceAdd,reduceSub,reduceMul,Nat.reduceBEq,reduceLT,reduceLeDiff,reduceCtorEq,reduceToNat,reduceNeg,cNI]
  ·have e:=qF4 1055 2000 _ x _ hN
   rw[hset]at e
   simp only[bxE,qCI,qFD,hr,rowC,qkg,qER]at e ⊢
   simp only[List.map_cons,List.map_nil,List.map_replicate,e,quQ,cfgC,PV.ren,if_neg h28]
  ·rw[qF1 _ _ h28,rowsA_rm,hset]
   unfold qFE
   rw[hr]
   show up _ _ _=(28,_)::(1055,_)::_
   rw[up,if_neg (by decide),if_neg (by decide),qFJ g _ (by decide)]
   rfl
theorem qFQ{A R:List (Nat×Arr)}(hA:a54 A):(A++R).filter (fun x=>x.1 !=1054)=R.filter (fun x=>x.1 !=1054):=by
 rcases hA with rfl|⟨z,rfl⟩<;>simp
theorem qFR (g : Grid) (c : Cfg) {s : List (Nat × PV)} (D : Nat -> List Bool) (x : Nat) (hx : x <= wN g) (hs1 : farL (2000 + x) s) (hs2 : farL 1055 s) (L l : List Int) (i : Nat) (n : Int) (m : List Bool) (A : List (Nat × Arr)) (hA : a54 A) :
  SWk ⟨s,bxE g c (qFD g D x m) (qCI (.sl false 1 (ints l)) i) n,qFE g A L D x m,[]⟩ ⟨s,bitB g c (updD D x m),bitA g L (updD D x m),[]⟩:=by
 have hrf:=fun D=>qB5 1 54 (fun x=>x.1 !=1054) 2000 (rsD (wN g+1) D) fun y r _=>bne_iff_ne.2 (show 2000+y≠1054 by omega)
 have hset:(rsD (wN g+1) (updD D x [])).set x (rowO m)=rsD (wN g+1) (updD D x m):=by rw[qFn,qFO]
 refine SWk.trans (SWk.drop (fun i=>i !=1010) (fun i=>i !=1054)) ?_
 have hb:(bxE g c (qFD g D x m) (qCI (.sl false 1 (ints l)) i) n).filter (fun x=>x.1 !=1010)=[(2,quQ false g),(3,cfgC false c),(7,[.view 28 0 (wN g+1)]),(8,[.bv 32 1 (wN g+1)]),(24,List.replicate (wN g+1) .nil),(32,qFD g D x m),(102,quQ false g),(103,[.ptr 3 0]),(105,[.int (quU g)]),(204,[.yl 999])]:=rfl
 rw[hb]
 have ha:(qFE g A L D x m).filter (fun x=>x.1 !=1054)=(28,⟨1,3,ints L⟩)::(opA 1055 (rowO m)++qAS 1 54 2000 (rsD (wN g+1) (updD D x []))):=by
  unfold qFE
  rw[List.filter_cons_of_pos rfl,qFQ hA,List.filter_append,hrf]
  congr 2
  cases rowO m<;>rfl
 rw[ha]
 by_cases h:m=[]
 ·subst h
  have e:=qFI hx D
  unfold qFD
  rw[show rowO []=none from rfl]
  simp only[rowC,opA,e,List.nil_append]
  exact SWk.refl _
 ·have hr:rowO m=some (rows u64C (nats (qBy m))):=if_neg h
  have h28: ¬(28:Nat)=1055:=by decide
  have hq28: ¬28=2000+x:=by omega
  have hl:(rsD (wN g+1) (updD D x [])).length=wN g+1:=qFl _ _
  rw[hr]
  refine SWk.renEq (A:=⟨1,54,rows u64C (nats (qBy m))⟩) 1055 (2000+x) ?_ ?_ hs2 hs1 ?_ ?_ ?_
  ·rfl
  ·show lk ((28,_)::(1055,_)::qAS 1 54 2000 _) _=none
   rw[lk,if_neg hq28,lk,if_neg (by omega),qB1,qFm (by omega)]
   simp only[updD,if_true];rfl
  ·have f := qF6 (isId (2000 + x)) 2000 (rsD (wN g + 1) (updD D x [])) fun y r hy => by
    refine beq_false_of_ne fun e=> ?_
    obtain rfl:y=x:=by omega
    rw[qFm (by omega)]at hy
    simp only[updD,if_true,Option.some.injEq]at hy
    cases hy
   have f2:anyT nul (isId (2000+x)) (qFD g D x m)=false:=by
    unfold qFD
    refine qF7 _ _ _ _ _ f ?_
    rw[hr]
    exact beq_false_of_ne (by omega)
   have hb28:(28==2000+x)=false:=beq_false_of_ne hq28
   simp only[qFr,f2,hb28,qin,qim,push_cast,reduceIte,reduceEqDiff,reduceAdd,reduceSub,reduceMul,Nat.reduceBEq,reduceLT,reduceLeDiff,reduceCtorEq,reduceToNat,reduceNeg,cNI]
  ·have e:=qF5 1055 2000 (rsD (wN g+1) (updD D x [])) x (rows u64C (nats (qBy m))) (by omega) (by decide)
   rw[<- hr,hset]at e
   simp only[bitB,qFD,hr,rowC]at e ⊢
   simp only[List.map_cons,List.map_nil,List.map_replicate,e,quQ,cfgC,PV.ren,if_neg h28]
  ·show up (rm ((28,_)::(1055,_)::qAS 1 54 2000 _) 1055) _ _=_
   rw[qF1 _ _ h28,qF2,qF3 _ _ _ _ _ (by decide),up,if_neg hq28,if_neg (by omega),qB4 _ _ _ _ _ _ (by omega),<- hr,hset]
   rfl
set_option maxHeartbeats 1000000 in
theorem qFS (g : Grid) (hg : GOk g) (c : Cfg) {S : List (Nat × PV)} (hS : qtT 1000 S = true) (hSf : ∀ j, 1000 <= j -> farL j S) (D : Nat -> List Bool) (x n i : Nat) (l : List Int) (hi : i < l.length) (hx : x <= wN g)
  (L:List Int) (hL:L.length=wN g+1) (hLx:L.getD x default=(D x).length) (hct:(D x).length+n<2000000000) (hn:n<=64) (v:Nat) (hlv:l.getD i default=v) (hv2:v<2^62) (T:List (Nat×PV)) (hT:qhk [1000,125,1007,1008,1009,1010] T=[]) (Q:Exit->St->Prop)
  (hQ: ∀A,a54 A->Q .normal ⟨S++[(1007,.ptr 7 0),(1008,.ptr 8 0),(1009,.int x),(1010,.ptr 1010 0),(1038,.int n),(1039,.int n),(1040,.bool false)],bxE g c (qFD g D x (D x++qBl v n)) (qCI (.sl false 1 (ints l)) i) n,qFE g A (L.set x ((D x).length+n:Nat)) D x (D x++qBl v n),[]⟩):
  awp (Env.of Tryd.prog) ac33_r9 Q ⟨S++([(1007,.ptr 7 0),(1008,.ptr 8 0),(1009,.int x),(1010,.ptr 1010 0)]++T),bxE g c (qAR 2000 (rsD (wN g+1) D)) (qCI (.sl false 1 (ints l)) i) n,(28,⟨1,3,ints L⟩)::qAS 1 54 2000 (rsD (wN g+1) D),[]⟩:=by
 have hLs: ∀y,(L.set x y).getD x default=y:=fun y=>by rw[List.getD_eq_getElem?_getD,List.getElem?_set_self (by omega)];rfl
 have hLset: ∀y z,(L.set x y).set x z=L.set x z:=fun y z=>List.set_set ..
 have hL0:L.set x ((D x).length:Int)=L:=by
  rw[<- hLx]
  apply List.ext_getElem (by simp)
  intro j h1 h2
  rw[List.getElem_set]
  split
  ·next e=>subst e;simp[List.getD_eq_getElem?_getD,h2]
  ·rfl
 have fS: ∀k:Int,∀j,1011<=j->farL j (S++[(1007,.ptr 7 0),(1008,.ptr 8 0),(1009,.int x),(1010,.ptr 1010 0),(1038,.int n),(1039,.int k)]):=fun k j hj=>by
  have n1: ∀q,q<1011->(q==j)=false:=fun q hq=>beq_false_of_ne (by omega)
  simp only[qCO,hSf j (by omega),n1 7 (by decide),n1 8 (by decide),n1 1010 (by decide),push_cast,reduceIte,reduceEqDiff,reduceAdd,reduceSub,reduceMul,Nat.reduceBEq,reduceLT,reduceLeDiff,reduceCtorEq,reduceToNat,reduceNeg,cNI]
 have hin:=qFP g c D x hx (fS 0 (2000+x) (by omega)) (fS 0 1055 (by decide)) L l i n
 have hbE: ∀cells p (m:Int),lk (bxE g c cells p m) 1010=some [p,.int m]:=fun _ _ _=>rfl
 simp only[ac33_r9,hT,qCo hS,qCn hS,qCp hS,qCq hS,qCr hS,hbE,push_cast,reduceIte,reduceEqDiff,reduceAdd,reduceSub,reduceMul,Nat.reduceBEq,reduceLT,reduceLeDiff,reduceCtorEq,reduceToNat,reduceNeg,cNI]
 refine qoK (fun j st=> ∃(k:Nat) (A:List (Nat×Arr)),k<=n/\j=n-k/\a54 A/\st=⟨S++[(1007,.ptr 7 0),(1008,.ptr 8 0),(1009,.int x),(1010,.ptr 1010 0),(1038,.int n),(1039,.int k)],bxE g c (qFD g D x (D x++qBl v k)) (qCI (.sl false 1 (ints l)) i) n,qFE g A (L.set x ((D x).length+k:Nat)) D x (D x++qBl v k),[]⟩) n ⟨_,?_,0,[],by omega,by omega,.inl rfl,rfl⟩ ?_
 ·simp only[qCo hS,qCn hS,qCp hS,qCq hS,qCr hS,push_cast,reduceIte,reduceEqDiff,reduceAdd,reduceSub,reduceMul,Nat.reduceBEq,reduceLT,reduceLeDiff,reduceCtorEq,reduceToNat,reduceNeg,cNI]
  rw[show qBl v 0=[]from rfl,List.append_nil,hL0]
  exact hin
 rintro j st ⟨k,A,hk,rfl,hA,rfl⟩
 simp only[qCo hS,qCn hS,qCp hS,qCq hS,qCr hS,push_cast,reduceIte,reduceEqDiff,reduceAdd,reduceSub,reduceMul,Nat.reduceBEq,reduceLT,reduceLeDiff,reduceCtorEq,reduceToNat,reduceNeg,cNI]
 refine qnU (fun h=> ?_) fun h=> ?_
 ·have hm:(D x++qBl v k).length=(D x).length+k:=by rw[List.length_append,qBm]
  refine qFM g hg c hS hSf D x n k i l hi (D x++qBl v k) hx (L.set x ((D x).length+k:Nat)) (by rw[List.length_set,hL]) (by rw[hLs,hm]) (by omega) (by omega) v hlv hv2 A hA [(1040,.bool (decide ((k:Int)<n)))] sC _ fun A' hA' => ?_
  simp only[qCo hS,qCn hS,qCp hS,qCq hS,qCr hS,push_cast,reduceIte,reduceEqDiff,reduceAdd,reduceSub,reduceMul,Nat.reduceBEq,reduceLT,reduceLeDiff,reduceCtorEq,reduceToNat,reduceNeg,cNI]
  refine⟨⟨by omega,by omega⟩,_,SWk.refl _,n-(k+1),by omega,k+1,A',by omega,rfl,hA',?_⟩
  rw[hLset,hm,qBn,List.append_assoc]
  rfl
 ·obtain rfl:k=n:=by omega
  have hq:=hQ A hA
  rw[show decide ((k:Int)<k)=false from decide_eq_false (by omega)]
  exact hq
end Go.Proofs.YtecoaapkcnhlhaaDoor
namespace Go.Vc
open Go Go.RowKit
def PV.fb(id:Nat)(cs:List PV):PV->PV
 | .bv i es n=>if i=id then(if es=1/\n=cs.length then .sl true 1 (cs.map fun c=>[c])else .bot)else .bv i es n
 |c=>c.kill (isId id) nul
def PV.fbA(id:Nat)(cs:List PV):PV->PV
 | .agg l=> .agg (l.map (PV.fb id cs))
 |c=>c.fb id cs
def PV.fbV(id:Nat)(cs:List PV):PV->PV
 | .tup l=> .tup (l.map (PV.fbA id cs))
 |c=>c.fbA id cs
section
variable {w w0:World} {Z Z0:Zone} {L:Lay} {N:Fr} {st:St} {a:Act} {id:Nat} {cs:List PV} {c:PV} {v:Value}
theorem CR.kz{Z' :Zone}(hz: ∀p b,Z p b->Z' p b)(h:CR w Z L c v):CR w Z' L c v:=h.keep ⟨fun _ _ _=>rfl⟩ hz (LSame.refl L) (PV.to_nul c)
theorem CR.fb{Z' :Zone}(hB:BR w Z L id cs)(hz: ∀p b,Z p b->Z' p b)(hid:Z' true (L.bx id))(hp:cs.all qbM=true)(h:CR w Z L c v):CR w Z' L (c.fb id cs) v:=by
 have hk: ∀c:PV,CR w Z L c v->CR w Z' L (c.kill (isId id) nul) v:=fun c h=>(CR.kill h).kz hz
 cases c with
 |bv i es n=>
   simp only[PV.fb]
   split
   ·rename_i e;subst e
    split
    ·rename_i e2
     obtain⟨rfl,rfl⟩:=e2
     obtain⟨rfl,hm⟩:=h
     obtain⟨vs,T,h1,h2,h3⟩:=hB
     show TR w Z' _ _
     by_cases h0:cs=[]
     ·subst h0
      exact TR.sl0 _ _ _ _ hm
     ·have hpos:=List.length_pos_iff.2 h0
      have:=TR.sl (w:=w) (Z:=Z') true 1 (cs.map fun c=>[c]) (L.bx i) 0 cs.length (fun i _=>vs.getD i undef) (by omega) hid (by simpa using hpos) (by simp) hm
       (fun x hx=>by obtain⟨c,_,rfl⟩:=List.mem_map.1 hx;rfl)
       (fun i j hi hj=>by
        simp only[List.length_map]at hi
        obtain rfl:j=0:=by omega
        refine⟨?_,(h3 i _ (List.getElem?_eq_getElem hi)).2⟩
        rw[cell_of_row w _ _ _ _ _ h1]
        simp[Array.getD,h2,hi])
       (fun i j x c hi hj=>by
        rw[List.getElem?_map]at hi
        obtain⟨c',h4,rfl⟩:=Option.map_eq_some_iff.1 hi
        match j,hj with
        |0,hj=>
          simp at hj;subst hj
          have h5:=(h3 i c' h4).1
          have h6:=List.all_eq_true.1 hp c' (List.mem_of_getElem? h4)
          have h7:TR w Z c' (vs.getD i undef):=by
           cases c' <;>first|exact h5|cases h6
          exact h7.keep ⟨fun _ _ _=>rfl⟩ hz)
      simpa using this
    ·exact TR.bot _
   ·exact h.kz hz
 |_=>exact hk _ h
theorem AR.fb{Z' :Zone}(hB:BR w Z L id cs)(hz: ∀p b,Z p b->Z' p b)(hid:Z' true (L.bx id))(hp:cs.all qbM=true)(h:AR w Z L c v):AR w Z' L (c.fbA id cs) v:=by
 cases c with
 |agg l=>
   obtain⟨vs,h1,h2,h3⟩:=h
   refine⟨vs,h1,by simpa using h2,fun j c hj=> ?_⟩
   rw[List.getElem?_map]at hj
   obtain⟨c',h4,rfl⟩:=Option.map_eq_some_iff.1 hj
   exact⟨(h3 j c' h4).1.fb hB hz hid hp,(h3 j c' h4).2⟩
 |_=>exact AR.cr (CR.fb hB hz hid hp (AR.toCR (by simp) h))
theorem VR.fb{Z' :Zone}(hB:BR w Z L id cs)(hz: ∀p b,Z p b->Z' p b)(hid:Z' true (L.bx id))(hp:cs.all qbM=true)(h:VR w Z L c v):VR w Z' L (c.fbV id cs) v:=by
 cases c with
 |tup l=>
   obtain⟨vs,h1,h2,h3⟩:=h
   refine⟨vs,h1,by simpa using h2,fun j c hj=> ?_⟩
   rw[List.getElem?_map]at hj
   obtain⟨c',h4,rfl⟩:=Option.map_eq_some_iff.1 hj
   exact(h3 j c' h4).fb hB hz hid hp
 |_=>exact VR.ar (AR.fb hB hz hid hp (VR.toAR (by simp) h))
theorem Inv.frzB {s : List (Nat × PV)} {b : List (Nat × List PV)} {aa : List (Nat × Arr)} (h : Inv w0 Z0 N Z L ⟨s, b, aa, []⟩ a w) (hb : lk b id = some cs) (hp : cs.all qbM = true) :
  ∃Z',Inv w0 Z0 N Z' L ⟨s.map fun x=>(x.1,x.2.fbV id cs),rm (b.map fun x=>(x.1,x.2.map (PV.fb id cs))) id,aa,[]⟩ a w:=by
 have hB:=h.boxes id cs hb
 obtain⟨o1,o2,o3⟩:=h.ownb id cs hb
 have hk:Kept Z w w:=⟨fun _ _ _=>rfl⟩
 have hz: ∀p b,Z p b->(Z p b\/b=L.bx id):=fun _ _ h=> .inl h
 have hR:=h.rest.keep (Z' :=fun p b=>Z p b\/b=L.bx id) hk hz (fun b o p hb hc hp=>hp.elim (fun e=>e) (fun e=>absurd e (hB.notCells hb hc))) (fun _ _ _ _=>rfl) (Nat.le_refl _) (LSame.refl L) (m' :=[])
  (fun i M hM=>by cases hM)
 have key: ∀i u,lk (rm (b.map fun x=>(x.1,x.2.map (PV.fb id cs))) id) i=some u->id≠i/\ ∃u',lk b i=some u' /\u=u'.map (PV.fb id cs):=fun i u hl=>by
  rw[qa4]at hl
  split at hl
  ·cases hl
  ·rename_i e
   exact⟨e,qbK b _ i u hl⟩
 refine⟨fun p b=>Z p b\/b=L.bx id,fun b hb=>hb.imp (h.zt b) (fun e=>e),fun p b hp=> .inl (h.z0 p b hp),?_,?_,h.below,?_,?_,?_,?_,?_,?_,?_,hR.1,hR.2.1,hR.2.2.1,hR.2.2.2.1,h.yb,h.size,hR.2.2.2.2,?_⟩
 ·rintro p b (hp|rfl)
  ·exact h.zn p b hp
  ·exact .inr o1
 ·rintro p b (hp|rfl)
  ·exact h.zb p b hp
  ·exact o2
 ·intro i u hl
  obtain⟨e,u',h1,_⟩:=key i u hl
  obtain⟨p1,p2,p3⟩:=h.ownb i u' h1
  exact⟨p1,p2,fun p hp=>hp.elim (p3 p) (fun e' =>e (h.injb i id u' cs h1 hb e').symm)⟩
 ·intro i A hl
  obtain⟨p1,p2,p3⟩:=h.owna i A hl
  exact⟨p1,p2,fun p hp=>hp.elim (p3 p) (fun e=>h.injx id i cs A hb hl e.symm)⟩
 ·intro i j x y hx hy
  obtain⟨_,u,h1,_⟩:=key i x hx
  obtain⟨_,u',h2,_⟩:=key j y hy
  exact h.injb i j u u' h1 h2
 ·exact fun i j x y hx hy=>h.inja i j x y hx hy
 ·intro i j x y hx hy
  obtain⟨_,u,h1,_⟩:=key i x hx
  exact h.injx i j u y h1 hy
 ·intro i x hl
  obtain⟨_,u,h1,rfl⟩:=key i x hl
  obtain⟨vs,T,h2,h3,h4⟩:=h.boxes i u h1
  refine⟨vs,T,h2,by simpa using h3,fun j c hj=> ?_⟩
  rw[List.getElem?_map]at hj
  obtain⟨c',h5,rfl⟩:=Option.map_eq_some_iff.1 hj
  exact⟨(h4 j c' h5).1.fb hB hz (.inr rfl) hp,(h4 j c' h5).2⟩
 ·intro i A hl
  obtain⟨cur,hc⟩:=h.arrs i A hl
  exact⟨cur,hc.keep hk hz rfl (LSame.refl L) rfl⟩
 ·intro i v hl
  obtain⟨u,h1,rfl⟩:=qbK s _ i v hl
  exact(h.slots i u h1).fb hB hz (.inr rfl) hp
end
theorem SWk.frzB {s s' : List (Nat × PV)} {b b' : List (Nat × List PV)} {a : List (Nat × Arr)} {cs : List PV} (id : Nat) (hb : lk b id = some cs) (hp : cs.all qbM = true)
  (hs:(s.map fun x=>(x.1,x.2.fbV id cs))=s') (hb' :rm (b.map fun x=>(x.1,x.2.map (PV.fb id cs))) id=b'):SWk ⟨s,b,a,[]⟩ ⟨s',b',a,[]⟩:=fun _ _ _ _ _ ⟨_,L,h⟩=>by
 obtain⟨Z',h'⟩:=h.frzB hb hp
 rw[hs,hb']at h'
 exact⟨Z',L,h'⟩
theorem SWk.dropS{s:List (Nat×PV)}{b:List (Nat×List PV)}{a:List (Nat×Arr)}{m:List (Nat×Mp)}(ps pb pa:Nat->Bool):SWk ⟨s,b,a,m⟩ ⟨s.filter (fun x=>ps x.1),b.filter (fun x=>pb x.1),a.filter (fun x=>pa x.1),m⟩:=fun _ _ _ _ _ ⟨Z,L,h⟩=>
 ⟨Z,L,h.forget (fun i v hl=> .inl (qa8 _ _ (fun _ _=>rfl) i v hl)) (fun i v hl=>qa8 _ _ (fun _ _=>rfl) i v hl) (fun i v hl=>qa8 _ _ (fun _ _=>rfl) i v hl) (fun _ _ hl=>hl)⟩
theorem qFU{α:Type}{p q:Bool}{es:Nat}{l:List α}(f g:α->List PV)(hq:q=true->p=true)(h1: ∀x∈l,(f x).length=(g x).length)(h2: ∀x∈l,SubL (f x) (g x)):Sub (.sl p es (l.map f)) (.sl q es (l.map g)):=by
 refine .sl p q es _ _ hq (by simp) (fun i x y hx hy=> ?_) fun i x y j c d hx hy hc hd=> ?_
 ·rw[List.getElem?_map]at hx hy
  obtain⟨a,ha,rfl⟩:=Option.map_eq_some_iff.1 hx
  rw[ha]at hy
  cases hy
  exact h1 a (List.mem_of_getElem? ha)
 ·rw[List.getElem?_map]at hx hy
  obtain⟨a,ha,rfl⟩:=Option.map_eq_some_iff.1 hx
  rw[ha]at hy
  cases hy
  exact(h2 a (List.mem_of_getElem? ha)).at j c d hc hd
def rowP:Option (List (List PV))->PV
 |none=> .nil
 |some r=> .sl true 1 r
theorem qFY(id:Nat)(A:Arr): ∀(l:List (Option (List (List PV)))),(l.map rowP).map (PV.fz id A)=l.map rowP
 |[]=>rfl
 |none::r=>by simp only[List.map_cons,qFY id A r];rfl
 |some x::r=>by simp only[List.map_cons,qFY id A r];rfl
theorem qFZ(id:Nat)(A:Arr): ∀(k:Nat) (rs:List (Option (List (List PV)))),id<k->(qAR k rs).map (PV.fz id A)=qAR k rs
 |_,[],_=>rfl
 | k, r :: rs, h => by
   rw[qAR,List.map_cons,qFZ id A (k+1) rs (by omega)]
   congr 1
   cases r with
   |none=>rfl
   |some r=>simp only[rowC,PV.fz,if_neg (show k≠id by omega)]
theorem SWk.frzRows {s : List (Nat × PV)} {b1 b2 : List (Nat × List PV)} {id k ty : Nat} : ∀ (rs0 rs : List (Option (List (List PV)))) (_ : ∀ j, k <= j -> farL j s) (_ : ∀ j, k <= j -> refB nul (isId j) b1 = false) (_ : ∀ j, k <= j -> refB nul (isId j) b2 = false),
  SWk ⟨s,b1++(id,rs0.map rowP++qAR (k+rs0.length) rs)::b2,qAS 1 ty (k+rs0.length) rs,[]⟩ ⟨s,b1++(id,(rs0++rs).map rowP)::b2,[],[]⟩
 | rs0, [], hs, h1, h2 => by
   rw[List.append_nil,qAR,List.append_nil]
   exact SWk.refl _
 | rs0, none :: rs, hs, h1, h2 => by
   have h:=SWk.frzRows (rs0++[none]) rs hs h1 h2 (id:=id) (ty:=ty)
   rw[List.length_append,List.map_append,List.append_assoc,List.append_assoc]at h
   exact h
 | rs0, some r :: rs, hs, h1, h2 => by
   have h:=SWk.frzRows (rs0++[some r]) rs hs h1 h2 (id:=id) (ty:=ty)
   rw[List.length_append,List.map_append,List.append_assoc,List.append_assoc]at h
   refine SWk.trans ?_ h
   have hf:=SWk.frz ⟨s,b1++(id,rs0.map rowP++qAR (k+rs0.length) (some r::rs))::b2,qAS 1 ty (k+rs0.length) (some r::rs),[]⟩ (k+rs0.length)
   have e1: ∀b:List (Nat×List PV),refB nul (isId (k+rs0.length)) b=false->fzB (k+rs0.length) ⟨1,ty,r⟩ b=b:=by
    intro b
    induction b with
    |nil=>exact fun _=>rfl
    |cons x b ih=>
      obtain⟨i,v⟩:=x
      intro h
      rw[qin,Bool.or_eq_false_iff]at h
      rw[qjN,h.1,ih h.2];rfl
   have e2:fzS (k+rs0.length) ⟨1,ty,r⟩ s=s:=by
    have:=hs (k+rs0.length) (by omega)
    clear hf hs h
    induction s with
    |nil=>rfl
    |cons x s ih=>
      obtain⟨i,v⟩:=x
      rw[qCN]at this
      rw[qjL,this.1.2,ih this.2];rfl
   have e3: ∀b c:List (Nat×List PV),fzB (k+rs0.length) ⟨1,ty,r⟩ (b++c)=fzB (k+rs0.length) ⟨1,ty,r⟩ b++fzB (k+rs0.length) ⟨1,ty,r⟩ c:=fun b c=>by
    rw[<- qk5,<- qk5,<- qk5,List.map_append]
   have e4: ∀v:List PV,(bif anyT nul (isId (k+rs0.length)) v then fzL (k+rs0.length) ⟨1,ty,r⟩ v else v)=v.map (PV.fz (k+rs0.length) ⟨1,ty,r⟩):=fun v=>by
    cases hv:anyT nul (isId (k+rs0.length)) v
    ·rw[qjY,qk1 _ _ hv];rfl
    ·rw[qjY];rfl
   rw[qk8,qAS,lk,if_pos rfl,qk6,qF2,qF3 _ _ _ _ _ (by omega),e2,e3,qjN,e1 b1 (h1 _ (by omega)),e1 b2 (h2 _ (by omega)),e4,List.map_append,qFY,qAR,List.map_cons,qFZ _ _ _ _ (by omega)]at hf
   have e5:PV.fz (k+rs0.length) ⟨1,ty,r⟩ (rowC (k+rs0.length) (some r))= .sl true 1 r:=by
    simp[rowC,PV.fz]
   rw[e5]at hf
   exact hf
end Go.Vc
namespace Go.Proofs.YtecoaapkcnhlhaaDoor
open Go Go.Vc Go.Ham Txt
theorem qG0{g:Grid}(hg:GOk g){c:Cfg}(h:validE g c=0){f:Fld}(hf:FIn g f):cfgV c f.kind f.i<2^62:=by
 have h1:=(qDi hg h hf).2
 obtain⟨⟨l1,l2,l3,l4⟩,h2,h3⟩:=(qDg g c).1 h
 rcases hf.key with⟨a,b,d⟩|⟨a,b,d⟩|⟨a,b,d⟩|⟨a,b,d⟩
 ·have hs:=h2 f.i (by rw[l1];exact b)
  have hd:=qxn g hg f.i
  unfold qyl at hs
  unfold cfgV
  rw[a]
  simp only[cfgI,if_true]
  by_cases e:c.sel.getD f.i 0=0
  ·rw[e];decide
  ·have:=hs e
   omega
 all_goals
  rw[d]at h1
  exact Nat.lt_of_lt_of_le h1 (Nat.pow_le_pow_right (by decide) (by decide))
theorem qG1{g:Grid}{f:Fld}(hf:FIn g f):f.n<=64:=by
 rcases hf.key with⟨a,b,d⟩|⟨a,b,d⟩|⟨a,b,d⟩|⟨a,b,d⟩<;>rw[d]
 ·exact qDN 64 _
 all_goals decide
def outP(h:Nat->Nat)(D:Nat->List Nat)(x:Nat):PV:=if D x=[]then .nil else .sl true 1 (rows u64C (nats ((D x).map h)))
def datP(D:Nat->List Nat)(x:Nat):PV:=if D x=[]then .nil else .sl true 1 (rows u64C (nats (D x)))
def outC(h:Nat->Nat)(n:Nat)(D:Nat->List Nat)(k:Nat):List PV:=(List.range n).map fun x=>if x<k then outP h D x else .nil
def datC(n:Nat)(D:Nat->List Nat):List PV:=(List.range n).map (datP D)
theorem qG2{h:Nat->Nat}(n:Nat)(D:Nat->List Nat)(k:Nat):(outC h n D k).length=n:=by simp[outC]
theorem qG3(n:Nat)(D:Nat->List Nat):(datC n D).length=n:=by simp[datC]
theorem qG4{h:Nat->Nat}{n k:Nat}(hk:k<n)(D:Nat->List Nat):(outC h n D k).getD k .bot= .nil:=by simp[outC,List.getD_eq_getElem?_getD,hk]
theorem qG5{n k:Nat}(h:k<n)(D:Nat->List Nat):(datC n D).getD k .bot=datP D k:=by simp[datC,List.getD_eq_getElem?_getD,h]
theorem qG6{h:Nat->Nat}{n k:Nat}(D:Nat->List Nat):(outC h n D k).set k (outP h D k)=outC h n D (k+1):=by
 apply List.ext_getElem (by simp[outC])
 intro i h1 h2
 rw[List.getElem_set]
 simp only[outC,List.getElem_map,List.getElem_range]
 split
 ·next e=>subst e;rw[if_pos (by omega)]
 ·next e=>
  by_cases h3:i<k
  ·rw[if_pos h3,if_pos (by omega)]
  ·rw[if_neg h3,if_neg (by omega)]
theorem qG7{h:Nat->Nat}{n k:Nat}(D:Nat->List Nat)(h0:D k=[]):outC h n D k=outC h n D (k+1):=by
 unfold outC
 apply List.map_congr_left
 intro x _
 by_cases e:x=k
 ·subst e
  rw[if_neg (by omega),if_pos (by omega),outP,if_pos h0]
 ·by_cases h2:x<k
  ·rw[if_pos h2,if_pos (by omega)]
  ·rw[if_neg h2,if_neg (by omega)]
theorem qG8{h:Nat->Nat}{n:Nat}(D:Nat->List Nat)(k:Nat)(pb pa:Nat->Bool):anyT pb pa (outC h n D k)=false:=by
 rw[<- qhH,List.any_eq_false]
 intro c hc
 obtain⟨x,_,rfl⟩:=List.mem_map.1 hc
 unfold outP
 split
 ·split<;>simp[PV.to]
 ·simp[PV.to]
theorem qG9{n:Nat}(D:Nat->List Nat)(pb pa:Nat->Bool):anyT pb pa (datC n D)=false:=by
 rw[<- qhH,List.any_eq_false]
 intro c hc
 obtain⟨x,_,rfl⟩:=List.mem_map.1 hc
 unfold datP
 split<;>simp[PV.to]
theorem qGa{h:Nat->Nat}(n:Nat)(D:Nat->List Nat)(k:Nat):(outC h n D k).all qbM=true:=by
 rw[List.all_eq_true]
 intro c hc
 obtain⟨x,_,rfl⟩:=List.mem_map.1 hc
 unfold outP
 split
 ·split<;>rfl
 ·rfl
set_option maxHeartbeats 2000000 in
theorem qGc (n : Nat) (hn : n <= 1000) (D : Nat -> List Nat) (hD : ∀ x, (D x).length < 100000000) (hD2 : ∀ x, ∀ w ∈ D x, w < 2 ^ 57) (Q : Exit -> St -> Prop) (st : St)
  (h0:SWk st ⟨[(6,.bv 24 1 n),(8,.ptr 8 0)],[(8,[.bv 32 1 n]),(24,outC encW n D 0),(32,datC n D)],[],[]⟩)
  (hQ:Q .ret ⟨[(4,.sl true 1 ((outC encW n D n).map fun c=>[c])),(5,.int 0),(6,.sl true 1 ((outC encW n D n).map fun c=>[c])),(124,.sl true 1 ((outC encW n D n).map fun c=>[c]))],[(8,[.bv 32 1 n]),(32,datC n D)],[],[]⟩):
  awp (Env.of Tryd.prog) ac33_r17 Q st:=by
 simp only[ac33_r17,push_cast,reduceIte,reduceEqDiff,reduceAdd,reduceSub,reduceMul,Nat.reduceBEq,reduceLT,reduceLeDiff,reduceCtorEq,reduceToNat,reduceNeg,cNI]
 refine qr5 _ h0 ?_
 refine sB ?_
 refine qoK (fun j st=> ∃k:Nat,k<=n/\j=n-k/\st=⟨[(6,.bv 24 1 n),(8,.ptr 8 0),(92,.int n),(93,.int k)],[(8,[.bv 32 1 n]),(24,outC encW n D k),(32,datC n D)],[],[]⟩) n ⟨_,SWk.refl _,0,by omega,by omega,by simp only[push_cast,reduceIte,reduceEqDiff,reduceAdd,reduceSub,reduceMul,Nat.reduceBEq,reduceLT,reduceLeDiff,reduceCtorEq,reduceToNat,reduceNeg,cNI]⟩ ?_
 rintro j st ⟨k,hk,rfl,rfl⟩
 refine sB ?_
 refine qnU (fun h=> ?_) fun h=> ?_
 ·have hk' :k<n:=by omega
  simp only[Nat.mul_one,qF8 (datC n D),qG3,qG5 hk',push_cast,reduceIte,reduceEqDiff,reduceAdd,reduceSub,reduceMul,Nat.reduceBEq,reduceLT,reduceLeDiff,reduceCtorEq,reduceToNat,reduceNeg,cNI]
  refine⟨⟨by omega,by omega⟩,by omega,?_⟩
  unfold datP
  by_cases hE:D k=[]
  ·rw[if_pos hE]
   refine sB ?_
   refine qoK (fun _ s=>s=_) 0 ⟨_,SWk.refl _,rfl⟩ ?_
   rintro _ _ rfl
   refine sB ?_
   refine qnU (fun h=>absurd h (by decide)) fun _=> ?_
   refine⟨⟨by omega,by omega⟩,_,SWk.refl _,n-(k+1),by omega,k+1,by omega,rfl,?_⟩
   rw[qG7 D hE]
   rfl
  ·rw[if_neg hE]
   have hlen:=hD k
   have hR: ∀j,(((D k).map encW).take j).length=min j (D k).length:=fun j=>by simp
   have hcl: ∀v,((outC encW n D k).set k v).length=n:=fun v=>by rw[List.length_set,qG2]
   have hcx: ∀v,((outC encW n D k).set k v).getD k .bot=v:=fun v=>by rw[List.getD_eq_getElem?_getD,List.getElem?_set_self (by rw[qG2];omega)];rfl
   have hset2: ∀v w,((outC encW n D k).set k v).set k w=(outC encW n D k).set k w:=fun v w=>List.set_set ..
   have f8: ∀j c,c.to nul (isId j)=false->anyT nul (isId j) ((outC encW n D k).set k c)=false:=fun j c hc=>qF7 _ _ _ _ _ (qG8 D k _ _) hc
   have g8:=fun j=>qG9 (n:=n) D nul (isId j)
   have b5:=fun m=>qFG (j:=119) (outC encW n D k) k m (by rw[qG2];omega)
   have b6:=fun m=>qFF (j:=119) (outC encW n D k) k m (by rw[qG2];omega) (qF7 _ _ _ _ _ (qG8 D k _ _) rfl)
   have hn0:(outC encW n D k).set k .nil=outC encW n D k:=by
    have e:=qG4 (h:=encW) hk' D
    apply List.ext_getElem (by simp)
    intro i h1 h2
    rw[List.getElem_set]
    split
    ·next q=>subst q;rw[List.getD_eq_getElem?_getD,List.getElem?_eq_getElem h2]at e;exact e.symm
    ·rfl
   have e8: ∀m,anyT nul (isId 118) ((outC encW n D k).set k (.view 119 0 m))=false:=fun m=>f8 _ _ rfl
   have hspl: ∀v w,spl ((outC encW n D k).set k v) k [w]=(outC encW n D k).set k w:=fun v w=>by rw[qF9 _ _ _ (by rw[hcl];omega),hset2]
   simp only[qER,push_cast,reduceIte,reduceEqDiff,reduceAdd,reduceSub,reduceMul,Nat.reduceBEq,reduceLT,reduceLeDiff,reduceCtorEq,reduceToNat,reduceNeg,cNI]
   refine qoK (fun m st=> ∃j:Nat,j<=(D k).length/\m=(D k).length-j/\st=⟨[(6,.bv 24 1 n),(8,.ptr 8 0),(12,.int k),(92,.int n),(93,.int k),(99,.sl true 1 (rows u64C (nats (D k)))),(100,.int (D k).length),(101,.int j)],
    [(8,[.bv 32 1 n]),(24,(outC encW n D k).set k (if j=0 then .nil else .view 119 0 j)),(32,datC n D)],(if j=0 then[]else[(119,⟨1,54,rows u64C (nats (((D k).map encW).take j))⟩)]),[]⟩) (D k).length ⟨_,SWk.refl _,0,by omega,by omega,?_⟩ ?_
   ·simp only[if_true,hn0,push_cast,reduceIte,reduceEqDiff,reduceAdd,reduceSub,reduceMul,Nat.reduceBEq,reduceLT,reduceLeDiff,reduceCtorEq,reduceToNat,reduceNeg,cNI]
   rintro m st ⟨j,hj,rfl,rfl⟩
   simp only[qER,push_cast,reduceIte,reduceEqDiff,reduceAdd,reduceSub,reduceMul,Nat.reduceBEq,reduceLT,reduceLeDiff,reduceCtorEq,reduceToNat,reduceNeg,cNI]
   refine qnU (fun h2=> ?_) fun h2=> ?_
   ·have hj' :j<(D k).length:=by omega
    have hw:(D k).getD j 0<2^57:=hD2 k _ (by rw[List.getD_eq_getElem?_getD,List.getElem?_eq_getElem hj'];exact List.getElem_mem hj')
    have hen:=qEg ((D k).getD j 0) hw
    have htk:((D k).map encW).take (j+1)=((D k).map encW).take j++[encW ((D k).getD j 0)]:=by
     rw[List.take_succ_eq_append_getElem (by simpa using hj'),List.getElem_map,List.getD_eq_getElem?_getD,List.getElem?_eq_getElem hj']
     rfl
    refine⟨⟨by omega,by omega⟩,by omega,?_⟩
    rw[qFx]
    refine qrr hen sC ?_
    cases j with
    |zero=>
      simp only[if_true,Nat.mul_one,qF8,hcl,hcx,hset2,hn0,f8,qG8,g8,rep1,List.set_cons_zero,List.length_cons,List.length_nil,qG2,qG4 hk',qF9 _ k _ (by rw[qG2];omega:k<(outC encW n D k).length),push_cast,reduceIte,reduceEqDiff,reduceAdd,reduceSub,reduceMul,Nat.reduceBEq,reduceLT,reduceLeDiff,reduceCtorEq,reduceToNat,reduceNeg,cNI]
      refine⟨⟨by omega,by omega⟩,by omega,⟨by omega,by omega⟩,by omega,⟨by omega,by omega⟩,_,SWk.drop (fun _=>true) (fun i=>i !=118),(D k).length-1,by omega,1,by omega,rfl,?_⟩
      rw[htk]
      rfl
    |succ j=>
      simp only[if_neg (Nat.succ_ne_zero j),Nat.mul_one,qF8,hcl,hcx,hset2,hn0,e8,hspl,b5,b6,f8,qG8,g8,rep1,List.set_cons_zero,List.length_cons,List.length_nil,qG2,qG4 hk',push_cast,reduceIte,reduceEqDiff,reduceAdd,reduceSub,reduceMul,Nat.reduceBEq,reduceLT,reduceLeDiff,reduceCtorEq,reduceToNat,reduceNeg,cNI]
      refine⟨⟨by omega,by omega⟩,by omega,⟨by rw[qER,hR];omega,by omega,by omega⟩,⟨by omega,by omega⟩,by omega,⟨by omega,by omega⟩,_,SWk.drop (fun _=>true) (fun i=>i !=118),(D k).length-(j+1+1),by omega,j+1+1,by omega,rfl,?_⟩
      rw[htk,<- qFL]
      rfl
   ·obtain rfl:j=(D k).length:=by omega
    have hz: ¬(D k).length=0:=fun e=>hE (List.length_eq_zero_iff.1 e)
    have hfz:(outC encW n D k).map (PV.fz 119 ⟨1,54,rows u64C (nats ((D k).map encW))⟩)=outC encW n D k:=by rw[qjY,qk1 _ _ (qG8 D k _ _)]
    rw[if_neg hz,if_neg hz,List.take_of_length_le (by simp)]
    refine⟨⟨by omega,by omega⟩,_,SWk.frz _ 119,n-(k+1),by omega,k+1,by omega,rfl,?_⟩
    simp only[b5,qG9,qk1 _ _ (qG9 D _ _),<- qjY,push_cast,reduceIte,reduceEqDiff,reduceAdd,reduceSub,reduceMul,Nat.reduceBEq,reduceLT,reduceLeDiff,reduceCtorEq,reduceToNat,reduceNeg,cNI]
    have e:PV.fz 119 ⟨1,54,rows u64C (nats ((D k).map encW))⟩ (.view 119 0 (D k).length)=outP encW D k:=by
     rw[outP,if_neg hE,qjO,if_pos rfl]
     simp only[List.drop_zero]
     rw[List.take_of_length_le (by simp[rows,nats])]
    rw[List.map_set,hfz,e,qG6]
 ·obtain rfl:k=n:=by omega
  refine qr5 ⟨[(6,.sl true 1 ((outC encW k D k).map fun c=>[c])),(8,.ptr 8 0),(92,.int k),(93,.int k),(94,.bool (decide ((k:Int)<k)))],[(8,[.bv 32 1 k]),(32,datC k D)],[],[]⟩ (SWk.frzB 24 (cs:=outC encW k D k) rfl (qGa _ _ _) ?_ ?_) ?_
  ·simp only[List.map_cons,List.map_nil,PV.fbV,PV.fbA,PV.fb,qG2,if_true,and_self,PV.kill]
   rfl
  ·have e : (datC k D).map (PV.fb 24 (outC encW k D k)) = datC k D := by
    conv=>rhs;rw[<- List.map_id (datC k D)]
    apply List.map_congr_left
    intro c hc
    obtain⟨x,_,rfl⟩:=List.mem_map.1 hc
    unfold datP
    split<;>rfl
   simp only[List.map_cons,List.map_nil,e]
   rfl
  refine sB ?_
  exact hQ
def bxV(g:Grid)(c:Cfg)(cells v:List PV):List (Nat×List PV):=[(2,quQ false g),(3,cfgC false c),(7,[.view 28 0 (wN g+1)]),(8,[.bv 32 1 (wN g+1)]),(24,List.replicate (wN g+1) .nil),(32,cells),(102,quQ false g),(103,[.ptr 3 0]),(105,[.int (quU g)]),(204,[.yl 999]),(1010,v)]
theorem qGd(g:Grid)(c:Cfg)(D:Nat->List Bool)(v:List PV):up (bitB g c D) 1010 v=bxV g c (qAR 2000 (rsD (wN g+1) D)) v:=rfl
theorem qGe(g:Grid)(c:Cfg)(cells v w:List PV):up (bxV g c cells v) 1010 w=bxV g c cells w:=rfl
theorem qGf(g:Grid)(c:Cfg)(cells v:List PV):lk (bxV g c cells v) 1010=some v:=rfl
theorem qGg(g:Grid)(c:Cfg)(cells:List PV)(p:PV)(n:Int):bxV g c cells [p,.int n]=bxE g c cells p n:=rfl
theorem qGh(g:Grid)(c:Cfg)(D:Nat->List Bool):qiC (isId 1010) nul (bitB g c D)=bitB g c D:=by
 have h:anyT (isId 1010) nul (qAR 2000 (rsD (wN g+1) D))=false:=by
  rw[<- qhH];exact qAW _ _ _ _ fun _ _=>rfl
 unfold bitB
 simp only[h,qFr,push_cast,reduceIte,reduceEqDiff,reduceAdd,reduceSub,reduceMul,Nat.reduceBEq,reduceLT,reduceLeDiff,reduceCtorEq,reduceToNat,reduceNeg,cNI]
theorem qGi{g:Grid}{c:Cfg}(h:validE g c=0)(hg:GOk g){f:Fld}(hf:FIn g f): ∃l,cfK (.sl false 1 (ints c.sel)) (.sl false 1 (ints c.mode)) (.sl false 1 (ints c.tab)) (.sl false 1 (ints c.ram)) f.kind= .sl false 1 (ints l)/\f.i<l.length/\l.getD f.i default=(cfgV c f.kind f.i:Int):=by
 have hc:=hg.n.c
 have hk:=hg.n.k
 have h1:=(qDi hg h hf).1
 obtain⟨⟨l1,l2,l3,l4⟩,_⟩:=(qDg g c).1 h
 unfold cfgV
 rcases hf.key with⟨a,b,d⟩|⟨a,b,d⟩|⟨a,b,d⟩|⟨a,b,d⟩<;>rw[a]at h1 ⊢
 ·exact⟨c.sel,rfl,by omega,by simp only[cfgI,if_true]at h1 ⊢;exact(Int.toNat_of_nonneg h1).symm⟩
 ·exact⟨c.mode,rfl,by omega,(Int.toNat_of_nonneg h1).symm⟩
 ·exact⟨c.tab,rfl,by omega,(Int.toNat_of_nonneg h1).symm⟩
 ·exact⟨c.ram,rfl,by omega,(Int.toNat_of_nonneg h1).symm⟩
set_option maxHeartbeats 4000000 in
theorem qGj(g:Grid)(hg:GOk g)(c:Cfg)(hs:CfgSm c)(h0:validE g c=0):FnEq Tryd.prog 33 [.agg (quQ false g),.agg (cfgC false c)] (.tup [.sl true 1 (rows (frmC true) (qDl g c)),.int 0]):=by
 have hn:=hg.n
 have hv:=qyr g hg c hs
 refine FnEq.of_awp Tryd.func33 ok33 (by show 2<=_;decide) (by simp only[push_cast,reduceIte,reduceEqDiff,reduceAdd,reduceSub,reduceMul,Nat.reduceBEq,reduceLT,reduceLeDiff,reduceCtorEq,reduceToNat,reduceNeg,cNI]<;>first|exact fun _ _=>trivial|simp) ?_
 simp only[ac33,rv33,push_cast,reduceIte,reduceEqDiff,reduceAdd,reduceSub,reduceMul,Nat.reduceBEq,reduceLT,reduceLeDiff,reduceCtorEq,reduceToNat,reduceNeg,cNI]
 refine qrr hv (by exact⟨.refl _,.refl _,trivial⟩) ?_
 simp only[qFr,push_cast,reduceIte,reduceEqDiff,reduceAdd,reduceSub,reduceMul,Nat.reduceBEq,reduceLT,reduceLeDiff,reduceCtorEq,reduceToNat,reduceNeg,cNI]
 have hw:=hg.w
 have hw2:=hn.w
 refine qnU (fun h=>absurd h0 h) fun _=> ?_
 rw[show(g.w+1).toNat=wN g+1 by omega,List.length_replicate]
 refine⟨⟨by omega,by omega⟩,⟨by omega,by omega,by omega⟩,⟨by omega,by omega⟩,⟨by omega,by omega,by omega,by omega⟩,⟨by omega,by omega⟩,⟨by omega,by omega,by omega⟩,?_⟩
 have hF : FnM (Env.of Tryd.prog) 53 [.agg (quQ false g), .ptr 3 0] ⟨[(2, .ptr 2 0), (3, .ptr 3 0), (6, .bv 24 1 (wN g + 1)), (7, .ptr 7 0), (8, .ptr 8 0), (33, .agg (quQ false g))], [(2, quQ false g), (3, cfgC false c), (7, [.view 28 0 (wN g + 1)]), (8, [.bv 32 1 (wN g + 1)]), (24, List.replicate (wN g + 1) .nil), (32, List.replicate (wN g + 1) .nil)], [(28, ⟨1, 3, ints (List.replicate (wN g + 1) 0)⟩)], []⟩
   (fun v st' =>v= .clo 75 [103,102,105]/\st' =⟨[(2,.ptr 2 0),(3,.ptr 3 0),(6,.bv 24 1 (wN g+1)),(7,.ptr 7 0),(8,.ptr 8 0),(33,.agg (quQ false g))],[(2,quQ false g),(3,cfgC false c),(7,[.view 28 0 (wN g+1)]),(8,[.bv 32 1 (wN g+1)]),(24,List.replicate (wN g+1) .nil),(32,List.replicate (wN g+1) .nil),(102,quQ false g),(103,[.ptr 3 0]),(105,[.int (quU g)])],[(28,⟨1,3,ints (List.replicate (wN g+1) 0)⟩)],[]⟩):=by
  refine qub 100 Tryd.func53 ok53_100 (by show 2<=_;decide) rfl (by decide) ?_
  have ht:=hg.tracks
  simp only[ac53_100,rv53_100,qFr,push_cast,reduceIte,reduceEqDiff,reduceAdd,reduceSub,reduceMul,Nat.reduceBEq,reduceLT,reduceLeDiff,reduceCtorEq,reduceToNat,reduceNeg,cNI]
  exact⟨⟨by omega,by omega⟩,⟨by omega,by omega⟩,rfl⟩
 refine qsL hF ?_
 simp only[qFr,push_cast,reduceIte,reduceEqDiff,reduceAdd,reduceSub,reduceMul,Nat.reduceBEq,reduceLT,reduceLeDiff,reduceCtorEq,reduceToNat,reduceNeg,cNI]
 refine qu9 (st1:=⟨[(6,.bv 24 1 (wN g+1)),(7,.ptr 7 0),(8,.ptr 8 0),(34,.clo 75 [103,102,105])],[(2,quQ false g),(3,cfgC false c),(7,[.view 28 0 (wN g+1)]),(8,[.bv 32 1 (wN g+1)]),(24,List.replicate (wN g+1) .nil),(32,List.replicate (wN g+1) .nil),(102,quQ false g),(103,[.ptr 3 0]),(105,[.int (quU g)])],bitA g (qDH g []) (fun x=>qBL [] (cfgV c) x),[]⟩) (Env.of_noY _) rfl ?_
  (qD4 (s:=[(6,.bv 24 1 (wN g+1)),(7,.ptr 7 0),(8,.ptr 8 0),(34,.clo 75 [103,102,105])]) rfl (by show 125<=200;decide) (fun _ _ h=>h) rfl g hg 103 102 105 3 _ _ _ _ _ (fun pre=>bitB g c fun x=>qBL pre (cfgV c) x) (fun pre=>bitA g (qDH g pre) fun x=>qBL pre (cfgV c) x) rfl rfl rfl sC ?_ (fun pre hp=>⟨rfl,rfl,rfl,rfl,rfl⟩) (fun pre hp=>⟨rfl,rfl,rfl,rfl⟩) ?_ ⟨by decide,by decide,by decide,by decide⟩ ⟨qFs _,qFs _,qFs _,qFs _⟩ ?_) ?_
 ·simp only[qFr,push_cast,reduceIte,reduceEqDiff,reduceAdd,reduceSub,reduceMul,Nat.reduceBEq,reduceLT,reduceLeDiff,reduceCtorEq,reduceToNat,reduceNeg,cNI]
  rw[qDT,bitA,show(fun x=>qBL [] (cfgV c) x)=fun _=>[]from rfl,qFo,qFq]
 ·simp only[qFr,push_cast,reduceIte,reduceEqDiff,reduceAdd,reduceSub,reduceMul,Nat.reduceBEq,reduceLT,reduceLeDiff,reduceCtorEq,reduceToNat,reduceNeg,cNI]
  rw[bitB,show(fun x=>qBL [] (cfgV c) x)=fun _=>[]from rfl,qFo,qFp]
  rfl
 ·have hc:=hn.c
  have hk:=hn.k
  obtain⟨⟨l1,l2,l3,l4⟩,_⟩:=(qDg g c).1 h0
  refine⟨?_,?_,?_,?_⟩<;>simp[qCJ,rows,l1,l2,l3,l4,cN,hk]
 ·intro pre f hpf t ht h4 hft
  have hm:midL 0 125 ([(6,.bv 24 1 (wN g+1)),(7,.ptr 7 0),(8,.ptr 8 0),(34,.clo 75 [103,102,105])]++t)=[(6,.bv 24 1 (wN g+1)),(7,.ptr 7 0),(8,.ptr 8 0),(34,.clo 75 [103,102,105])]:=by
   simp only[List.cons_append,List.nil_append,qtQ]
   rw[qCH fun x hx=>by have:=h4 x hx;omega]
   rfl
  have hs:qtT 1000 ([(6,.bv 24 1 (wN g+1)),(7,.ptr 7 0),(8,.ptr 8 0),(34,.clo 75 [103,102,105])]++t)=true:=by simpa[qtT]using ht
  refine qCt rfl rfl hs ?_
  rw[hm]
  have hS: ∀j,1000<=j->farL j ([(6,.bv 24 1 (wN g+1)),(7,.ptr 7 0),(8,.ptr 8 0),(34,.clo 75 [103,102,105])]++t):=by
   intro j hj
   have n1: ∀i,i<1000->(i==j)=false:=fun i hi=>beq_false_of_ne (by omega)
   simp only[qCO,n1 7 (by decide),n1 8 (by decide),n1 24 (by decide),n1 103 (by decide),n1 102 (by decide),n1 105 (by decide),hft j hj,push_cast,reduceIte,reduceEqDiff,reduceAdd,reduceSub,reduceMul,Nat.reduceBEq,reduceLT,reduceLeDiff,reduceCtorEq,reduceToNat,reduceNeg,cNI]
  have hg6:getL ([(6,.bv 24 1 (wN g+1)),(7,.ptr 7 0),(8,.ptr 8 0),(34,.clo 75 [103,102,105])]++t) 6= .bv 24 1 (wN g+1):=rfl
  have hg7:getL ([(6,.bv 24 1 (wN g+1)),(7,.ptr 7 0),(8,.ptr 8 0),(34,.clo 75 [103,102,105])]++t) 7= .ptr 7 0:=rfl
  have hg8:getL ([(6,.bv 24 1 (wN g+1)),(7,.ptr 7 0),(8,.ptr 8 0),(34,.clo 75 [103,102,105])]++t) 8= .ptr 8 0:=rfl
  have hg34:getL ([(6,.bv 24 1 (wN g+1)),(7,.ptr 7 0),(8,.ptr 8 0),(34,.clo 75 [103,102,105])]++t) 34= .clo 75 [103,102,105]:=rfl
  clear hm ht h4
  generalize [(6,PV.bv 24 1 (wN g+1)),(7,.ptr 7 0),(8,.ptr 8 0),(34,.clo 75 [103,102,105])]++t=S at hs hS hg6 hg7 hg8 hg34 ⊢
  unfold qu6
  have hfi:=qCW hg (hpf.subset (List.mem_append_right _ List.mem_cons_self))
  have hfx:=hfi.x
  have hbd:=qDO hg hpf f.x
  rw[qBQ]at hbd
  simp only[qBM,if_true]at hbd
  have hv1:=qDi hg h0 hfi
  have hv2:=qG0 hg h0 hfi
  have hfn:=qG1 hfi
  obtain⟨l,hl,hil,hlv⟩:=qGi h0 hg hfi
  obtain⟨p1,p2⟩:=qCL (a:=[]) (v:= .sl false 1 (ints l)) rfl f.i
  obtain⟨p3,-⟩:=(qFs l).2 f.i 1010 (by decide)
  have hfl:=qBN (cfgV c) f.x pre
  simp only[qCo hs,qCn hs,hg6,hg7,hg8,hg34,qCp hs,qCq hs,qCr hs,qCS,qCP (hS 1010 (by decide)),hl,p1,p2,p3,qGh,qGd,qGe,qGf,push_cast,reduceIte,reduceEqDiff,reduceAdd,reduceSub,reduceMul,Nat.reduceBEq,reduceLT,reduceLeDiff,reduceCtorEq,reduceToNat,reduceNeg,cNI]
  simp only[qGg]
  refine qFS g hg c hs hS (fun x=>qBL pre (cfgV c) x) f.x f.n f.i l hil hfx (qDH g pre) (qDP g pre) (by rw[qDQ hfx,hfl]) (by omega) hfn (cfgV c f.kind f.i) hlv hv2 [(1036,.agg [qCI (.sl false 1 (ints l)) f.i,.int f.n])] sC _ fun A hA=> ?_
  simp only[qCo hs,qCn hs,qCp hs,qCq hs,qCr hs,push_cast,reduceIte,reduceEqDiff,reduceAdd,reduceSub,reduceMul,Nat.reduceBEq,reduceLT,reduceLeDiff,reduceCtorEq,reduceToNat,reduceNeg,cNI]
  refine⟨_,qFR g c (fun x=>qBL pre (cfgV c) x) f.x hfx (hS _ (by omega)) (hS 1055 (by decide)) _ l f.i f.n _ A hA,hs,?_⟩
  have e1:updD (fun x=>qBL pre (cfgV c) x) f.x (qBL pre (cfgV c) f.x++qBl (cfgV c f.kind f.i) f.n)=fun x=>qBL (pre++[f]) (cfgV c) x:=by
   funext y
   unfold updD
   rw[qBO,qBP,show qBL [] (cfgV c) y=[]from rfl,List.append_nil]
   by_cases e:y=f.x
   ·rw[if_pos e,if_pos e.symm,e]
   ·rw[if_neg e,if_neg (fun h=>e h.symm),List.append_nil]
  rw[e1,hfl,qDR]
 ·rintro _ _ rfl
  have hw1:wN g+1<=1000:=by omega
  have hkc:anyT (isId 999) nul (qAR 2000 (rsD (wN g+1) fun x=>qBL (qCe g) (cfgV c) x))=false:=by
   rw[<- qhH];exact qAW _ _ _ _ fun _ _=>rfl
  simp only[bitB,bitA,hkc,qFr,push_cast,reduceIte,reduceEqDiff,reduceAdd,reduceSub,reduceMul,Nat.reduceBEq,reduceLT,reduceLeDiff,reduceCtorEq,reduceToNat,reduceNeg,cNI]
  refine qGc (wN g+1) hw1 (fun x=>qBy (qBL (qCe g) (cfgV c) x)) (fun x=> ?_) (fun x w hw=>qBB hw) _ _ ?_ ?_
  ·have hb:=qDO hg List.prefix_rfl x
   rw[qBA,qBN]
   simp only[nW];omega
  ·have hrf:=qB5 1 54 (fun x=>x.1 !=28) 2000 (rsD (wN g+1) fun x=>qBL (qCe g) (cfgV c) x) fun y r _=>bne_iff_ne.2 (show 2000+y≠28 by omega)
   refine SWk.trans (SWk.dropS (fun i=>i==6||i==8) (fun i=>i==8||i==24||i==32) (fun i=>i !=28)) ?_
   have ha:((28,⟨1,3,ints (qDH g (qCe g))⟩)::qAS 1 54 2000 (rsD (wN g+1) fun x=>qBL (qCe g) (cfgV c) x)).filter (fun x:Nat×Arr=>x.1 !=28)=qAS 1 54 2000 (rsD (wN g+1) fun x=>qBL (qCe g) (cfgV c) x):=(List.filter_cons_of_neg Bool.false_ne_true).trans hrf
   rw[ha]
   have hz:=SWk.frzRows (s:=[(6,PV.bv 24 1 (wN g+1)),(8,.ptr 8 0)]) (b1:=[(8,[.bv 32 1 (wN g+1)]),(24,List.replicate (wN g+1) .nil)]) (b2:=[]) (id:=32) (k:=2000) (ty:=54) [] (rsD (wN g+1) fun x=>qBL (qCe g) (cfgV c) x)
    (fun j hj=>by simp only[beq_false_of_ne (show 24≠j by omega),beq_false_of_ne (show 8≠j by omega),push_cast,reduceIte,reduceEqDiff,reduceAdd,reduceSub,reduceMul,Nat.reduceBEq,reduceLT,reduceLeDiff,reduceCtorEq,reduceToNat,reduceNeg,cNI]) (fun j hj=>by simp only[qFr,qin,qim,push_cast,reduceIte,reduceEqDiff,reduceAdd,reduceSub,reduceMul,Nat.reduceBEq,reduceLT,reduceLeDiff,reduceCtorEq,reduceToNat,reduceNeg,cNI]) (fun j hj=>rfl)
   have e1:List.replicate (wN g+1) PV.nil=outC encW (wN g+1) (fun x=>qBy (qBL (qCe g) (cfgV c) x)) 0:=by
    symm
    rw[List.eq_replicate_iff]
    refine⟨qG2 _ _ _,fun b hb=> ?_⟩
    obtain⟨x,_,rfl⟩:=List.mem_map.1 hb
    rfl
   have e2:(rsD (wN g+1) fun x=>qBL (qCe g) (cfgV c) x).map rowP=datC (wN g+1) (fun x=>qBy (qBL (qCe g) (cfgV c) x)):=by
    unfold rsD datC
    rw[List.map_map]
    apply List.map_congr_left
    intro x _
    show rowP (rowO _)=_
    unfold rowO datP
    have:qBy (qBL (qCe g) (cfgV c) x)=[] ↔ qBL (qCe g) (cfgV c) x=[]:=by
     rw[<- List.length_eq_zero_iff,<- List.length_eq_zero_iff,qBA];simp only[nW];omega
    by_cases h:qBL (qCe g) (cfgV c) x=[]
    ·rw[if_pos h,if_pos (this.2 h)];rfl
    ·rw[if_neg h,if_neg fun e=>h (this.1 e)];rfl
   rw[List.nil_append,e2]at hz
   rw[<- e1]
   exact hz
  ·refine sB ?_
   refine⟨fun x hx d hd=> ?_,?_⟩
   ·obtain⟨e,he,rfl⟩:=List.mem_map.1 hx
    obtain⟨y,_,rfl⟩:=List.mem_map.1 he
    obtain rfl:d=_:=by simpa using hd
    split
    ·unfold outP
     split
     ·exact .nil
     ·exact .sl _ _ _ rfl fun x hx c hc => by
       obtain⟨z,_,rfl⟩:=List.mem_map.1 hx
       obtain rfl:c=_:=by simpa[u64C]using hc
       exact .sc _
    ·exact .nil
   ·unfold outC qDl rows
    rw[List.map_map,List.map_map]
    refine qFU _ _ (fun h=>h) (fun _ _=>rfl) fun x hx=> ?_
    have hx:=List.mem_range.1 hx
    show SubL [_] [_]
    simp only[if_pos hx,rowB,qBZ]
    refine⟨?_,trivial⟩
    unfold outP
    split
    ·next h=>
     have h:qBy (qBL (qCe g) (cfgV c) x)=[]:=h
     rw[h];exact .nil _ _
    ·exact .refl _
end Go.Proofs.YtecoaapkcnhlhaaDoor
namespace Go.Proofs.YtecoaapkcnhlhaaDoor
open Go Go.Vc Txt Go.Ham
theorem qGk(a b:List Nat)(ha:a.length<=1000000)(hb:b.length<=1000000):FnEq Tryd.prog 70 [.sl false 1 (rows u64C (nats a)),.sl false 1 (rows u64C (nats b))] (.bool (decide (a=b))):=by
 refine FnEq.of_awp Tryd.func70 ok70 (by show 2<=_;decide) (by simp only[push_cast,reduceIte,reduceEqDiff,reduceAdd,reduceSub,reduceMul,Nat.reduceBEq,reduceLT,reduceLeDiff,reduceCtorEq,reduceToNat,reduceNeg,cNI]<;>first|exact fun _ _=>trivial|simp) ?_
 simp only[ac70,rv70,push_cast,reduceIte,reduceEqDiff,reduceAdd,reduceSub,reduceMul,Nat.reduceBEq,reduceLT,reduceLeDiff,reduceCtorEq,reduceToNat,reduceNeg,cNI]
 simp only[qER]
 refine qnU (fun h=> ?_) fun h=> ?_
 ·rw[decide_eq_false];intro e;exact h (by rw[e])
 have hab:a.length=b.length:=by omega
 refine qoL (fun m st=> ∃k:Nat,k<=a.length/\m=a.length-k/\a.take k=b.take k/\st=⟨[(0,.sl false 1 (rows u64C (nats a))),(1,.sl false 1 (rows u64C (nats b))),(5,.int k)],[],[],[]⟩) a.length ?_ ?_
 ·refine⟨0,by omega,by omega,by simp,?_⟩
  simp only[push_cast,reduceIte,reduceEqDiff,reduceAdd,reduceSub,reduceMul,Nat.reduceBEq,reduceLT,reduceLeDiff,reduceCtorEq,reduceToNat,reduceNeg,cNI]
  try rfl
 ·rintro m st ⟨k,hk,rfl,h1,rfl⟩
  simp only[qER,qEQ,push_cast,reduceIte,reduceEqDiff,reduceAdd,reduceSub,reduceMul,Nat.reduceBEq,reduceLT,reduceLeDiff,reduceCtorEq,reduceToNat,reduceNeg,cNI]
  refine qnU (fun h2=> ?_) fun h2=> ?_
  ·have ka:k<a.length:=by omega
   have kb:k<b.length:=by omega
   have ga:a.getD k default=a[k]:=by simp[ka]
   have gb:b.getD k default=b[k]:=by simp[kb]
   rw[ga,gb]
   refine⟨⟨by omega,by omega⟩,ka,⟨by omega,by omega⟩,kb,qnU (fun h3=> ?_) fun h3=> ?_⟩
   ·rw[decide_eq_false];intro e;subst e;exact h3 rfl
   ·refine⟨⟨by omega,by omega⟩,_,?_,k+1,by omega,rfl,?_,?_⟩
    ·omega
    ·rw[List.take_succ_eq_append_getElem ka,List.take_succ_eq_append_getElem kb,h1,show a[k]=b[k]by omega]
    ·try simp
     try rfl
  ·rw[List.take_of_length_le (by omega),List.take_of_length_le (by omega)]at h1
   rw[decide_eq_true h1]
theorem qGl(a b:List Nat)(ha:a.length<=1000000)(hb:b.length<=1000000):FnEq Tryd.prog 49 [.sl false 1 (rows u64C (nats a)),.sl false 1 (rows u64C (nats b))] (.bool (decide (a=b))):=by
 refine FnEq.of_awp Tryd.func49 ok49 (by show 2<=_;decide) (by simp only[push_cast,reduceIte,reduceEqDiff,reduceAdd,reduceSub,reduceMul,Nat.reduceBEq,reduceLT,reduceLeDiff,reduceCtorEq,reduceToNat,reduceNeg,cNI]<;>first|exact fun _ _=>trivial|simp) ?_
 simp only[ac49,rv49,push_cast,reduceIte,reduceEqDiff,reduceAdd,reduceSub,reduceMul,Nat.reduceBEq,reduceLT,reduceLeDiff,reduceCtorEq,reduceToNat,reduceNeg,cNI]
 simp only[qER]
 refine qnU (fun h=> ?_) fun h=> ?_
 ·rw[decide_eq_false];intro e;exact h (by rw[e])
 have hab:a.length=b.length:=by omega
 refine qoL (fun m st=> ∃k:Nat,k<=a.length/\m=a.length-k/\a.take k=b.take k/\st=⟨[(0,.sl false 1 (rows u64C (nats a))),(1,.sl false 1 (rows u64C (nats b))),(12,.int a.length),(13,.int k)],[],[],[]⟩) a.length ?_ ?_
 ·refine⟨0,by omega,by omega,by simp,?_⟩
  simp only[push_cast,reduceIte,reduceEqDiff,reduceAdd,reduceSub,reduceMul,Nat.reduceBEq,reduceLT,reduceLeDiff,reduceCtorEq,reduceToNat,reduceNeg,cNI]
  try rfl
 ·rintro m st ⟨k,hk,rfl,h1,rfl⟩
  simp only[qER,qEQ,push_cast,reduceIte,reduceEqDiff,reduceAdd,reduceSub,reduceMul,Nat.reduceBEq,reduceLT,reduceLeDiff,reduceCtorEq,reduceToNat,reduceNeg,cNI]
  refine qnU (fun h2=> ?_) fun h2=> ?_
  ·have ka:k<a.length:=by omega
   have kb:k<b.length:=by omega
   have ga:a.getD k default=a[k]:=by simp[ka]
   have gb:b.getD k default=b[k]:=by simp[kb]
   rw[ga,gb]
   refine⟨⟨by omega,by omega⟩,ka,⟨by omega,by omega⟩,kb,qnU (fun h3=> ?_) fun h3=> ?_⟩
   ·rw[decide_eq_false];intro e;subst e;exact h3 rfl
   ·refine⟨⟨by omega,by omega⟩,_,?_,k+1,by omega,rfl,?_,?_⟩
    ·omega
    ·rw[List.take_succ_eq_append_getElem ka,List.take_succ_eq_append_getElem kb,h1,show a[k]=b[k]by omega]
    ·try simp
     try rfl
  ·rw[List.take_of_length_le (by omega),List.take_of_length_le (by omega)]at h1
   rw[decide_eq_true h1]
theorem qGm(a b:List Int)(ha:(a.length:Int)<=1000000)(hb:(b.length:Int)<=1000000):FnEq Tryd.prog 23 [.sl false 1 (ints a),.sl false 1 (ints b)] (.bool (decide (a=b))):=by
 refine FnEq.of_awp Tryd.func23 ok23 (by show 2<=_;decide) (by simp only[push_cast,reduceIte,reduceEqDiff,reduceAdd,reduceSub,reduceMul,Nat.reduceBEq,reduceLT,reduceLeDiff,reduceCtorEq,reduceToNat,reduceNeg,cNI]<;>first|exact fun _ _=>trivial|simp) ?_
 simp only[ac23,rv23,push_cast,reduceIte,reduceEqDiff,reduceAdd,reduceSub,reduceMul,Nat.reduceBEq,reduceLT,reduceLeDiff,reduceCtorEq,reduceToNat,reduceNeg,cNI]
 refine qnU (fun h=> ?_) fun h=> ?_
 ·rw[decide_eq_false];intro e;exact h (by rw[e])
 have hab:a.length=b.length:=by omega
 refine qoL (fun m st=> ∃k:Nat,k<=a.length/\m=a.length-k/\a.take k=b.take k/\st=⟨[(0,.sl false 1 (ints a)),(1,.sl false 1 (ints b)),(5,.int k)],[],[],[]⟩) a.length ?_ ?_
 ·refine⟨0,by omega,by omega,by simp,?_⟩
  exact sC
 ·rintro m st ⟨k,hk,rfl,h1,rfl⟩
  refine sB ?_
  refine qnU (fun h2=> ?_) fun h2=> ?_
  ·have ka:k<a.length:=by omega
   have kb:k<b.length:=by omega
   have ga:a.getD k default=a[k]:=by simp[ka]
   have gb:b.getD k default=b[k]:=by simp[kb]
   rw[ga,gb]
   refine⟨⟨by omega,by omega⟩,ka,⟨by omega,by omega⟩,kb,qnU (fun h3=> ?_) fun h3=> ?_⟩
   ·rw[decide_eq_false];intro e;subst e;exact h3 rfl
   ·refine⟨⟨by omega,by omega⟩,_,?_,k+1,by omega,rfl,?_,?_⟩
    ·omega
    ·rw[List.take_succ_eq_append_getElem ka,List.take_succ_eq_append_getElem kb,h1,Classical.not_not.1 h3]
    ·simp
  ·rw[List.take_of_length_le (by omega),List.take_of_length_le (by omega)]at h1
   rw[decide_eq_true h1]
def difB(a b:List (List Nat))(i:Nat):Bool:=decide (a.length<=i)||decide (b.length<=i)|| !decide (a.getD i default=b.getD i default)
def difN(a b:List (List Nat))(k:Nat):List Int:=((List.range k).filter (difB a b)).map fun i:Nat=>(i:Int)
def qGn(a b:List (List Nat)):List Int:=difN a b (max a.length b.length)
theorem qGo(a b:List (List Nat))(k:Nat):difN a b (k+1)=if difB a b k then difN a b k++[(k:Int)]else difN a b k:=by
 unfold difN
 rw[List.range_succ,List.filter_append,List.map_append]
 cases h:difB a b k<;>simp[h]
theorem qGp(a b:List (List Nat))(k:Nat):(difN a b k).length<=k:=by
 unfold difN;rw[List.length_map];exact Nat.le_trans (List.length_filter_le _ _) (by simp)
theorem qGq{l:List (List Nat)}(h:FrmSm l){k:Nat}(hk:k<l.length):(l.getD k default).length<=1000:=h.len _ (by simp[List.getD_eq_getElem?_getD,hk])
theorem qGr(a b:List (List Nat))(ha:FrmSm a)(hb:FrmSm b):FnEq Tryd.prog 45 [.sl false 1 (rows (frmC false) a),.sl false 1 (rows (frmC false) b)] (.sl true 1 (ints (qGn a b))):=by
 have ha1:=ha.n
 have hb1:=hb.n
 refine FnEq.of_awp Tryd.func45 ok45 (by show 2<=_;decide) (by simp only[push_cast,reduceIte,reduceEqDiff,reduceAdd,reduceSub,reduceMul,Nat.reduceBEq,reduceLT,reduceLeDiff,reduceCtorEq,reduceToNat,reduceNeg,cNI]<;>first|exact fun _ _=>trivial|simp) ?_
 simp only[ac45,rv45,push_cast,reduceIte,reduceEqDiff,reduceAdd,reduceSub,reduceMul,Nat.reduceBEq,reduceLT,reduceLeDiff,reduceCtorEq,reduceToNat,reduceNeg,cNI]
 refine qoL (fun m st=> ∃k:Nat,k<=max a.length b.length/\m=max a.length b.length-k/\st=⟨[(0,.sl false 1 (rows (frmC false) a)),(1,.sl false 1 (rows (frmC false) b)),(5,.view 7 0 (difN a b k).length),(6,.int k)],[],[(7,⟨1,3,ints (difN a b k)⟩)],[]⟩) (max a.length b.length) ?_ ?_
 ·refine⟨0,by omega,by omega,?_⟩
  refine sB ?_
  rfl
 rintro m st ⟨k,hk,rfl,rfl⟩
 have hdl:=qGp a b k
 refine sB ?_
 refine qrD ⟨[(0,.sl false 1 (rows (frmC false) a)),(1,.sl false 1 (rows (frmC false) b)),(5,.view 7 0 (difN a b k).length),(6,.int k),(17,.bool (decide (k<max a.length b.length)))],[],[(7,⟨1,3,ints (difN a b k)⟩)],[]⟩ ?_ ?_
 ·refine qrw rfl (fun h1=> ?_) fun h1=> ?_<;>simp only[push_cast,reduceIte,reduceEqDiff,reduceAdd,reduceSub,reduceMul,Nat.reduceBEq,reduceLT,reduceLeDiff,reduceCtorEq,reduceToNat,reduceNeg,cNI]
  ·rw[decide_eq_true (show k<max a.length b.length by omega)]
  ·rw[decide_eq_decide.2 (show((k:Int)<b.length ↔ k<max a.length b.length)by omega)]
 refine sB ?_
 refine qnU (fun h=> ?_) fun h=> ?_
 ·refine qrE ⟨[(0,.sl false 1 (rows (frmC false) a)),(1,.sl false 1 (rows (frmC false) b)),(5,.view 7 0 (difN a b k).length),(6,.int k),(43,.bool (difB a b k))],[],[(7,⟨1,3,ints (difN a b k)⟩)],[]⟩ ?_ ?_
  ·refine qrA rfl (fun h1=> ?_) fun h1=> ?_<;>simp only[push_cast,reduceIte,reduceEqDiff,reduceAdd,reduceSub,reduceMul,Nat.reduceBEq,reduceLT,reduceLeDiff,reduceCtorEq,reduceToNat,reduceNeg,cNI]
   ·rw[show difB a b k=true from by unfold difB;rw[decide_eq_true (show a.length<=k by omega)];rfl]
    try rfl
   ·have ka:k<a.length:=by omega
    refine qrA rfl (fun h2=> ?_) fun h2=> ?_<;>simp only[push_cast,reduceIte,reduceEqDiff,reduceAdd,reduceSub,reduceMul,Nat.reduceBEq,reduceLT,reduceLeDiff,reduceCtorEq,reduceToNat,reduceNeg,cNI]
    ·rw[show difB a b k=true from by unfold difB;rw[decide_eq_true (show b.length<=k by omega)];simp]
     try rfl
    ·have kb:k<b.length:=by omega
     have la:=qGq ha ka
     have lb:=qGq hb kb
     have hd:difB a b k= !decide (a.getD k default=b.getD k default):=by
      unfold difB
      rw[decide_eq_false (show ¬a.length<=k by omega),decide_eq_false (show ¬b.length<=k by omega)]
      simp
     rw[hd]
     refine⟨⟨by omega,by omega⟩,ka,⟨by omega,by omega⟩,kb,?_⟩
     refine qrr (qGk (a.getD k default) (b.getD k default) (by omega) (by omega)) sC ?_
     simp only[push_cast,reduceIte,reduceEqDiff,reduceAdd,reduceSub,reduceMul,Nat.reduceBEq,reduceLT,reduceLeDiff,reduceCtorEq,reduceToNat,reduceNeg,cNI]
     done
  simp only[rep1,List.set_cons_zero,List.length_cons,List.length_nil,push_cast,reduceIte,reduceEqDiff,reduceAdd,reduceSub,reduceMul,Nat.reduceBEq,reduceLT,reduceLeDiff,reduceCtorEq,reduceToNat,reduceNeg,cNI]
  refine qnT (fun h1=> ?_) fun h1=> ?_
  ·refine⟨⟨by omega,by omega⟩,⟨by omega,by omega⟩,max a.length b.length-(k+1),by omega,k+1,by omega,rfl,?_⟩
   rw[qGo,if_pos h1,List.length_append]
   rfl
  ·refine⟨⟨by omega,by omega⟩,max a.length b.length-(k+1),by omega,k+1,by omega,rfl,?_⟩
   rw[qGo,if_neg (by rw[h1];decide)]
   rfl
 ·rw[show k=max a.length b.length by omega]
  exact⟨fun _ _=>trivial,.refl _⟩
end Go.Proofs.YtecoaapkcnhlhaaDoor
namespace Go.Proofs.YtecoaapkcnhlhaaDoor
open Go Go.Vc Txt Go.Ham
theorem qGs(a b:List (List Nat)):qGn a b=[] ↔ a=b:=by
 constructor
 ·intro h
  have key: ∀i,i<max a.length b.length->difB a b i=false:=fun i hi=>by
   cases hd:difB a b i
   ·rfl
   ·exfalso
    have:(i:Int)∈qGn a b:=by
     unfold qGn difN
     rw[List.mem_map]
     exact⟨i,List.mem_filter.2 ⟨List.mem_range.2 hi,hd⟩,rfl⟩
    rw[h]at this;cases this
  have hlen:a.length=b.length:=by
   apply Classical.byContradiction
   intro hn
   have h1:=key (min a.length b.length) (by omega)
   unfold difB at h1
   rw[Bool.or_eq_false_iff,Bool.or_eq_false_iff]at h1
   have h2:=h1.1.1
   have h3:=h1.1.2
   simp at h2 h3
   omega
  apply List.ext_getElem hlen
  intro i h1 h2
  have h3:=key i (by omega)
  unfold difB at h3
  rw[Bool.or_eq_false_iff]at h3
  have h4:=h3.2
  rw[Bool.not_eq_false',decide_eq_true_eq]at h4
  simpa[List.getD_eq_getElem?_getD,h1,h2]using h4
 ·rintro rfl
  unfold qGn difN
  have:(List.range (max a.length a.length)).filter (difB a a)=[]:=by
   rw[List.filter_eq_nil_iff]
   intro i hi
   have:=List.mem_range.1 hi
   unfold difB
   rw[decide_eq_false (show ¬a.length<=i by omega)]
   simp
  rw[this];rfl
theorem qGt(a b:List (List Nat))(ha:FrmSm a)(hb:FrmSm b):FnEq Tryd.prog 22 [.sl false 1 (rows (frmC false) a),.sl false 1 (rows (frmC false) b)] (.bool (decide (a=b))):=by
 refine FnEq.of_awp Tryd.func22 ok22 (by show 2<=_;decide) (by simp only[push_cast,reduceIte,reduceEqDiff,reduceAdd,reduceSub,reduceMul,Nat.reduceBEq,reduceLT,reduceLeDiff,reduceCtorEq,reduceToNat,reduceNeg,cNI]<;>first|exact fun _ _=>trivial|simp) ?_
 simp only[ac22,rv22,push_cast,reduceIte,reduceEqDiff,reduceAdd,reduceSub,reduceMul,Nat.reduceBEq,reduceLT,reduceLeDiff,reduceCtorEq,reduceToNat,reduceNeg,cNI]
 refine qrr (qGr a b ha hb) sC ?_
 refine sB ?_
 have e:decide ((qGn a b).length=(0:Int))=decide (a=b):=decide_eq_decide.2 (by rw[<- qGs];exact⟨fun h=>List.length_eq_zero_iff.1 (by omega),fun h=>by rw[h];rfl⟩)
 rw[e]
def nlS(id:Nat)(l:List Int):PV:=match l with|[]=> .nil|_::_=> .view id 0 l.length
def nlA(id ty:Nat)(l:List Int):List (Nat×Arr):=match l with|[]=>[]|_::_=>[(id,⟨1,ty,ints l⟩)]
theorem qGu(id:Nat):nlS id []= .nil:=rfl
theorem qGv(id:Nat)(y:Int)(l:List Int):nlS id (y::l)= .view id 0 (l.length+1):=rfl
theorem qGw(id ty:Nat):nlA id ty []=[]:=rfl
theorem qGx(id ty:Nat)(y:Int)(l:List Int):nlA id ty (y::l)=[(id,⟨1,ty,ints (y::l)⟩)]:=rfl
set_option maxHeartbeats 1000000 in
theorem qGy(a b:List (List Nat))(ha:FrmSm a)(hb:FrmSm b):FnEq Tryd.prog 27 [.sl false 1 (rows (frmC false) a),.sl false 1 (rows (frmC false) b)] (.sl true 1 (ints (qGn a b))):=by
 have ha1:=ha.n
 have hb1:=hb.n
 refine FnEq.of_awp Tryd.func27 ok27 (by show 2<=_;decide) (by simp only[push_cast,reduceIte,reduceEqDiff,reduceAdd,reduceSub,reduceMul,Nat.reduceBEq,reduceLT,reduceLeDiff,reduceCtorEq,reduceToNat,reduceNeg,cNI]<;>first|exact fun _ _=>trivial|simp) ?_
 simp only[ac27,rv27,push_cast,reduceIte,reduceEqDiff,reduceAdd,reduceSub,reduceMul,Nat.reduceBEq,reduceLT,reduceLeDiff,reduceCtorEq,reduceToNat,reduceNeg,cNI]
 refine qoL (fun m st=> ∃k:Nat,k<=max a.length b.length/\m=max a.length b.length-k/\st=⟨[(0,.sl false 1 (rows (frmC false) a)),(1,.sl false 1 (rows (frmC false) b)),(5,nlS 42 (difN a b k)),(11,.int (max (a.length:Int) b.length)),(12,.int k)],[],nlA 42 3 (difN a b k),[]⟩) (max a.length b.length) ?_ ?_
 ·refine⟨0,by omega,by omega,?_⟩
  refine sB ?_
  rfl
 rintro m st ⟨k,hk,rfl,rfl⟩
 have hdl:=qGp a b k
 have hds:=qGo a b k
 cases hD:difN a b k with
 |nil=>
   rw[hD]at hds hdl
   simp only[qGu,qGw,push_cast,reduceIte,reduceEqDiff,reduceAdd,reduceSub,reduceMul,Nat.reduceBEq,reduceLT,reduceLeDiff,reduceCtorEq,reduceToNat,reduceNeg,cNI]
   refine qnU (fun h=> ?_) fun h=> ?_
   ·refine qrE ⟨[(0,.sl false 1 (rows (frmC false) a)),(1,.sl false 1 (rows (frmC false) b)),(5,.nil),(6,.int k),(11,.int (max (a.length:Int) b.length)),(12,.int k),(38,.bool (difB a b k))],[],[],[]⟩ ?_ ?_
    ·refine qrA rfl (fun h1=> ?_) fun h1=> ?_<;>simp only[push_cast,reduceIte,reduceEqDiff,reduceAdd,reduceSub,reduceMul,Nat.reduceBEq,reduceLT,reduceLeDiff,reduceCtorEq,reduceToNat,reduceNeg,cNI]
     ·rw[show difB a b k=true from by unfold difB;rw[decide_eq_true (show a.length<=k by omega)];rfl]
      try rfl
     ·have ka:k<a.length:=by omega
      refine qrA rfl (fun h2=> ?_) fun h2=> ?_<;>simp only[push_cast,reduceIte,reduceEqDiff,reduceAdd,reduceSub,reduceMul,Nat.reduceBEq,reduceLT,reduceLeDiff,reduceCtorEq,reduceToNat,reduceNeg,cNI]
      ·rw[show difB a b k=true from by unfold difB;rw[decide_eq_true (show b.length<=k by omega)];simp]
       try rfl
      ·have kb:k<b.length:=by omega
       have la:=qGq ha ka
       have lb:=qGq hb kb
       have hd:difB a b k= !decide (a.getD k default=b.getD k default):=by
        unfold difB
        rw[decide_eq_false (show ¬a.length<=k by omega),decide_eq_false (show ¬b.length<=k by omega)]
        simp
       rw[hd]
       refine⟨⟨by omega,by omega⟩,ka,⟨by omega,by omega⟩,kb,?_⟩
       refine qrr (qGl (a.getD k default) (b.getD k default) (by omega) (by omega)) sC ?_
       exact sC
    simp only[rep1,List.set_cons_zero,List.length_cons,List.length_nil,push_cast,reduceIte,reduceEqDiff,reduceAdd,reduceSub,reduceMul,Nat.reduceBEq,reduceLT,reduceLeDiff,reduceCtorEq,reduceToNat,reduceNeg,cNI]
    refine qnT (fun h1=> ?_) fun h1=> ?_
    ·rw[if_pos h1]at hds
     refine⟨⟨by omega,by omega⟩,max a.length b.length-(k+1),by omega,k+1,by omega,rfl,?_⟩
     rw[hds]
     rfl
    ·rw[if_neg (by rw[h1];decide)]at hds
     refine⟨⟨by omega,by omega⟩,max a.length b.length-(k+1),by omega,k+1,by omega,rfl,?_⟩
     rw[hds]
     rfl
   ·rw[show k=max a.length b.length by omega]at hD
    have hD:qGn a b=[]:=hD
    rw[hD]
 |cons y l=>
   rw[hD]at hds hdl
   rw[List.length_cons]at hdl
   simp only[qGv,qGx,push_cast,reduceIte,reduceEqDiff,reduceAdd,reduceSub,reduceMul,Nat.reduceBEq,reduceLT,reduceLeDiff,reduceCtorEq,reduceToNat,reduceNeg,cNI]
   refine qnU (fun h=> ?_) fun h=> ?_
   ·refine qrE ⟨[(0,.sl false 1 (rows (frmC false) a)),(1,.sl false 1 (rows (frmC false) b)),(5,.view 42 0 (l.length+1)),(6,.int k),(11,.int (max (a.length:Int) b.length)),(12,.int k),(38,.bool (difB a b k))],[],[(42,⟨1,3,ints (y::l)⟩)],[]⟩ ?_ ?_
    ·refine qrA rfl (fun h1=> ?_) fun h1=> ?_<;>simp only[push_cast,reduceIte,reduceEqDiff,reduceAdd,reduceSub,reduceMul,Nat.reduceBEq,reduceLT,reduceLeDiff,reduceCtorEq,reduceToNat,reduceNeg,cNI]
     ·rw[show difB a b k=true from by unfold difB;rw[decide_eq_true (show a.length<=k by omega)];rfl]
      try rfl
     ·have ka:k<a.length:=by omega
      refine qrA rfl (fun h2=> ?_) fun h2=> ?_<;>simp only[push_cast,reduceIte,reduceEqDiff,reduceAdd,reduceSub,reduceMul,Nat.reduceBEq,reduceLT,reduceLeDiff,reduceCtorEq,reduceToNat,reduceNeg,cNI]
      ·rw[show difB a b k=true from by unfold difB;rw[decide_eq_true (show b.length<=k by omega)];simp]
       try rfl
      ·have kb:k<b.length:=by omega
       have la:=qGq ha ka
       have lb:=qGq hb kb
       have hd:difB a b k= !decide (a.getD k default=b.getD k default):=by
        unfold difB
        rw[decide_eq_false (show ¬a.length<=k by omega),decide_eq_false (show ¬b.length<=k by omega)]
        simp
       rw[hd]
       refine⟨⟨by omega,by omega⟩,ka,⟨by omega,by omega⟩,kb,?_⟩
       refine qrr (qGl (a.getD k default) (b.getD k default) (by omega) (by omega)) sC ?_
       exact sC
    simp only[rep1,List.set_cons_zero,List.length_cons,List.length_nil,push_cast,reduceIte,reduceEqDiff,reduceAdd,reduceSub,reduceMul,Nat.reduceBEq,reduceLT,reduceLeDiff,reduceCtorEq,reduceToNat,reduceNeg,cNI]
    refine qnT (fun h1=> ?_) fun h1=> ?_
    ·rw[if_pos h1]at hds
     refine⟨⟨by omega,by omega⟩,⟨by omega,by omega⟩,max a.length b.length-(k+1),by omega,k+1,by omega,rfl,?_⟩
     rw[hds]
     rw[List.cons_append]
     simp only[nlS,nlA,List.length_cons,List.length_append,List.length_nil]
     rfl
    ·rw[if_neg (by rw[h1];decide)]at hds
     refine⟨⟨by omega,by omega⟩,max a.length b.length-(k+1),by omega,k+1,by omega,rfl,?_⟩
     rw[hds]
     rfl
   ·rw[show k=max a.length b.length by omega]at hD
    have hD:qGn a b=y::l:=hD
    rw[hD]
    rw[List.take_of_length_le (by simp)]
    exact⟨fun _ _=>trivial,.refl _⟩
end Go.Proofs.YtecoaapkcnhlhaaDoor
