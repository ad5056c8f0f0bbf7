/- IX IN IO IP IQ IR IS IT TxtS JA JB TxtT JC JD JEa JE: lemmas -/
import Derived.Test.YtecoaapkcnhlhaaDoorPart15
import Derived.Test.YtecoaapkcnhlhaaDoorPart06
import Derived.Test.YtecoaapkcnhlhaaDoorChecked
import Derived.Test.YtecoaapkcnhlhaaDoorPart11
set_option linter.unusedSimpArgs false
set_option linter.unusedVariables false
open Nat (reduceEqDiff reduceAdd reduceSub reduceMul reduceLT reduceLeDiff)
open Int (reduceToNat reduceNeg)
namespace Go.Proofs.YtecoaapkcnhlhaaDoor
open Go Go.Vc Go.Ham Txt
def scrF(l:List (List Nat)):List (List Nat):=l.map fun ws=>ws.map fixW
def scrV(l:List (List Nat)):PV:= .tup [.sl true 1 (rows (frmC true) (scrF l)),.int (cntF l:Nat),.sl true 1 (ints (badN l l.length))]
theorem fz47(bad:List Int)(s s' :List (Nat×PV))(B:List (Nat×List PV))(rs:List (Option (List (List PV))))(hB:refB nul (isId 47) B=false)(hs:fzS 47 ⟨1,3,ints bad⟩ s=s')(hn:bad=[]->s=s'):SWk ⟨s,B,nlA 47 3 bad++qAS 1 54 3000 rs,[]⟩ ⟨s',B,qAS 1 54 3000 rs,[]⟩:=by
 by_cases hb:bad=[]
 ·rw[<- hn hb,hb]
  exact SWk.refl _
 ·obtain⟨y,b,rfl⟩:=List.exists_cons_of_ne_nil hb
  have hf:=SWk.frz ⟨s,B,nlA 47 3 (y::b)++qAS 1 54 3000 rs,[]⟩ 47
  have e1: ∀b' :List (Nat×List PV),refB nul (isId 47) b' =false->fzB 47 ⟨1,3,ints (y::b)⟩ b' =b' :=by
   intro b'
   induction b' with
   |nil=>exact fun _=>rfl
   |cons x b' ih=>
     obtain⟨i,v⟩:=x
     intro h
     rw[qin,Bool.or_eq_false_iff]at h
     rw[qjN,h.1,ih h.2];rfl
  rw[qk8]at hf
  simp only[nlA,List.cons_append,List.nil_append]at hf ⊢
  rw[show lk ((47,(⟨1,3,ints (y::b)⟩:Arr))::qAS 1 54 3000 rs) 47=some ⟨1,3,ints (y::b)⟩from rfl,qk6,qF2,hs,e1 B hB,qF3 _ _ _ _ _ (by decide)]at hf
  exact hf
theorem qHX(r:Int)(s s' :List (Nat×PV))(l:List (List Nat))(hs: ∀j,3000<=j->farL j s)(h:(s.map fun x=>(x.1,x.2.fbV 2507 ((rsW l).map rowP)))=s'):SWk ⟨s,[(6,[.int r]),(2507,qAR 3000 (rsW l))],qAS 1 54 3000 (rsW l),[]⟩ ⟨s',[(6,[.int r])],[],[]⟩:=by
 refine SWk.trans (SWk.frzRows (b1:=[(6,[.int r])]) (b2:=[]) (id:=2507) (k:=3000) [] (rsW l) hs (fun _ _=>rfl) (fun _ _=>rfl)) ?_
 exact SWk.frzB 2507 rfl (qH1 l) h rfl
def bdV(bad:List Int):PV:=match bad with|[]=> .nil|_::_=> .sl true 1 (ints bad)
theorem qHY(bad:List Int)(A:Arr)(rs:List (Option (List (List PV)))):((46,A)::(nlA 47 3 bad++qAS 1 54 3000 rs)).filter (fun x=>x.1 !=46)=nlA 47 3 bad++qAS 1 54 3000 rs:=by
 have h:=qB5 1 54 (fun x=>x.1 !=46) 3000 rs fun y r _=>bne_iff_ne.2 (show 3000+y≠46 by omega)
 rw[List.filter_cons_of_neg Bool.false_ne_true,List.filter_append,h]
 congr 1
 cases bad<;>rfl
set_option maxHeartbeats 1000000 in
theorem qHZ(l:List (List Nat))(hl:FrmSm l):FnEq Tryd.prog 44 [.sl false 1 (rows (frmC false) l)] (scrV l):=by
 have hn:=hl.n
 refine FnEq.of_awp Tryd.func44 ok44 (by show 1<=_;decide) (by unfold scrV;simp only[push_cast,reduceIte,reduceEqDiff,reduceAdd,reduceSub,reduceMul,Nat.reduceBEq,reduceLT,reduceLeDiff,reduceCtorEq,reduceToNat,reduceNeg,cNI];simp) ?_
 simp only[ac44,rv44,push_cast,reduceIte,reduceEqDiff,reduceAdd,reduceSub,reduceMul,Nat.reduceBEq,reduceLT,reduceLeDiff,reduceCtorEq,reduceToNat,reduceNeg,cNI]
 refine qDG [2507] (naK l.length) (qGP l hl) rfl rfl (qGS l) ?_
 rw[qGW]
 have f6: ∀M,anyT (isId 6) nul (qAR 3000 (rsW M))=false:=fun M=>by rw[<- qhH];exact qAW _ _ _ _ fun _ _=>rfl
 simp only[ac44_r5,f6,List.nil_append,push_cast,reduceIte,reduceEqDiff,reduceAdd,reduceSub,reduceMul,Nat.reduceBEq,reduceLT,reduceLeDiff,reduceCtorEq,reduceToNat,reduceNeg,cNI]
 refine qoK (fun m st=> ∃k:Nat,k<=l.length/\m=l.length-k/\st=⟨[(5,.bv 2507 1 l.length),(6,.ptr 6 0),(7,nlS 47 (badN l k)),(8,.clo 69 [6]),(16,.int l.length),(17,.int k)],scrB (cntF (l.take k):Nat) (mix (fun ws=>ws.map fixW) l k),nlA 47 3 (badN l k)++qAS 1 54 3000 (rsW (mix (fun ws=>ws.map fixW) l k)),[]⟩) l.length ⟨_,SWk.refl _,0,by omega,by omega,?_⟩ ?_
 ·rw[qHJ]
  refine sB ?_
  rfl
 rintro m st ⟨k,hk,rfl,rfl⟩
 refine sB ?_
 have hbl:=qHV l k
 have hcb:=qHF (l:=l.take k) fun ws hw=>hl.len ws (List.mem_of_mem_take hw)
 rw[List.length_take]at hcb
 refine qnU (fun h=> ?_) fun h=> ?_
 ·have hk' :k<l.length:=by omega
  obtain⟨ws,hws⟩: ∃ws,ws=l.getD k []:=⟨_,rfl⟩
  have hmem:ws∈l:=by rw[hws,List.getD_eq_getElem?_getD,List.getElem?_eq_getElem hk'];exact List.getElem_mem hk'
  have htk:l.take (k+1)=l.take k++[ws]:=by
   rw[List.take_succ_eq_append_getElem hk',hws,List.getD_eq_getElem?_getD,List.getElem?_eq_getElem hk'];rfl
  have hms:=qHO (fun ws:List Nat=>ws.map fixW) [] hk'
  rw[<- hws]at hms
  have hbs:=qHU l k
  rw[<- hws]at hbs
  refine qHW l.length k (mix (fun ws=>ws.map fixW) l k) (qHL _ _ _) hk' ws ((qHN _ [] hk').trans hws.symm) (hl.ok ws hmem) (hl.len ws hmem) (cntF (l.take k)) (by omega) (by omega) (badN l k) (by omega) _ [(18,.bool (decide ((k:Int)<l.length))),(19,.int k)] sC ?_ ?_
  ·intro hk2
   simp only[scrB,push_cast,reduceIte,reduceEqDiff,reduceAdd,reduceSub,reduceMul,Nat.reduceBEq,reduceLT,reduceLeDiff,reduceCtorEq,reduceToNat,reduceNeg,cNI]
   refine⟨⟨by omega,by omega⟩,_,SWk.refl _,l.length-(k+1),by omega,k+1,by omega,rfl,?_⟩
   rw[hms,htk,qHE,hbs,if_pos hk2]
   rfl
  ·intro hk2 z A
   simp only[scrB,push_cast,reduceIte,reduceEqDiff,reduceAdd,reduceSub,reduceMul,Nat.reduceBEq,reduceLT,reduceLeDiff,reduceCtorEq,reduceToNat,reduceNeg,cNI]
   refine⟨⟨by omega,by omega⟩,_,SWk.drop (fun _=>true) (fun i=>i !=46),l.length-(k+1),by omega,k+1,by omega,rfl,?_⟩
   rw[qHY,hms,htk,qHE,hbs,if_neg (by rw[hk2];decide)]
   rfl
 ·obtain rfl:k=l.length:=by omega
  rw[List.take_length,qHK,show(l.map fun ws=>ws.map fixW)=scrF l from rfl]
  have hf47:anyT nul (isId 47) (qAR 3000 (rsW (scrF l)))=false:=qF6 _ _ _ fun y r _=>beq_false_of_ne (by omega)
  have hml:(scrF l).length=l.length:=by simp[scrF]
  refine qr5 ⟨[(5,.sl true 1 (rows (frmC true) (scrF l))),(6,.ptr 6 0),(7,bdV (badN l l.length))],[(6,[.int (cntF l:Nat)])],[],[]⟩ ?_ ?_
  ·refine SWk.trans (SWk.dropS (fun i=>i==5||i==6||i==7) (fun _=>true) (fun _=>true)) ?_
   have hfa: ∀A:List (Nat×Arr),A.filter (fun _=>true)=A:=fun A=>List.filter_eq_self.2 fun _ _=>rfl
   rw[hfa]
   refine SWk.trans (fz47 (badN l l.length) [(5,.bv 2507 1 l.length),(6,.ptr 6 0),(7,nlS 47 (badN l l.length))] [(5,.bv 2507 1 l.length),(6,.ptr 6 0),(7,bdV (badN l l.length))] [(6,[.int (cntF l:Nat)]),(2507,qAR 3000 (rsW (scrF l)))] (rsW (scrF l)) ?_ ?_ ?_) ?_
   ·rw[qin,qin,hf47];rfl
   ·cases badN l l.length with
    |nil=>rfl
    |cons y b=>
      simp only[nlS,bdV,qjL,qjK,push_cast,reduceIte,reduceEqDiff,reduceAdd,reduceSub,reduceMul,Nat.reduceBEq,reduceLT,reduceLeDiff,reduceCtorEq,reduceToNat,reduceNeg,cNI]
      rw[List.take_of_length_le (by simp[rows])]
   ·intro hb;rw[hb];rfl
   ·refine qHX (cntF l:Nat) _ _ (scrF l) (fun j hj=> ?_) ?_
    ·have h7 : (bdV (badN l l.length)).toV (isId j) nul = false /\ (bdV (badN l l.length)).toV nul (isId j) = false := by
      unfold bdV;split<;>exact⟨rfl,rfl⟩
     exact⟨⟨beq_false_of_ne (show 2507≠j by omega),rfl⟩,⟨beq_false_of_ne (show 6≠j by omega),rfl⟩,h7,trivial⟩
    ·have h7 : (bdV (badN l l.length)).fbV 2507 ((rsW (scrF l)).map rowP) = bdV (badN l l.length) := by
      unfold bdV;split<;>rfl
     have h5:PV.fbV 2507 ((rsW (scrF l)).map rowP) (.bv 2507 1 l.length)= .sl true 1 (rows (frmC true) (scrF l)):=by
      rw[<- qH0]
      simp only[PV.fbV,PV.fbA,PV.fb,if_true,List.length_map,qGT,hml,and_self]
     simp only[List.map_cons,List.map_nil,h7,h5]
     rfl
  ·unfold scrV bdV
   cases badN l l.length with
   |nil=>
     refine sB ?_
     exact fun _ _ _ _=>trivial
   |cons y b=>
     refine sB ?_
     exact⟨fun _ _ _ _=>trivial,fun _ _=>trivial⟩
end Go.Proofs.YtecoaapkcnhlhaaDoor
namespace Go.Proofs.YtecoaapkcnhlhaaDoor
open Go Go.Vc Go.Ham Txt
theorem qI0(v k:Nat)(hv:v<2^64)(hk:k<=64):bitF .and .u64 (shfF .shr .u64 (v:Int) (k:Int)) 1=((v.testBit k).toNat:Int):=by
 rw[qBi v k hk,show(1:Int)=((1:Nat):Int)from rfl,qBc (Nat.lt_of_le_of_lt (Nat.div_le_self _ _) hv) (by decide)]
 have:v/2^k&&&1=(v.testBit k).toNat:=by
  rw[Nat.testBit_eq_decide_div_mod_eq,Nat.and_one_is_mod]
  rcases Nat.mod_two_eq_zero_or_one (v/2^k)with e|e<;>rw[e]<;>rfl
 rw[this]
set_option maxHeartbeats 2000000 in
theorem qI1 {E : Env} (hE : E.p = Tryd.prog) (hkk : E.kk <= 2000) (hpn : ∀ ch st, ¬ E.pan ch st) {s : List (Nat × PV)} (hs : qtT 2000 s = true) (n x : Nat) (hx : x < n) (hn : n <= 1000) (D : Nat -> List Nat) (B : List (Nat × List PV)) (A : List (Nat × Arr)) (L : List Int) (m : List (Nat × Mp))
  (h8:lk B 8=some [.bv 31 1 n]) (h31:lk B 31=some (outC datW n D n)) (h17:lk B 17=some [.view 74 0 n]) (hA:lk A 74=some ⟨1,3,ints L⟩) (hL:L.length=n) (c:Nat) (hc:L.getD x default=c) (hcl:c/57<(D x).length) (hcb:c<2000000000):
  FnM E 57 [.int x,.ptr 8 0,.ptr 17 0] ⟨s,B,A,m⟩ (fun r st' =>r= .int ((datW ((D x).getD (c/57) 0)).testBit (c%57)).toNat/\st' =⟨s,B,up A 74 ⟨1,3,ints (L.set x ((c:Int)+1))⟩,m⟩):=by
 refine qub 2000 (by rw[hE];exact Tryd.func57) (by rw[hE];exact ok57_2000) (by show 3<=_;decide) hs hkk ?_ hpn
 have hlen:(outC datW n D n).length=n:=qG2 _ _ _
 have hcell:(outC datW n D n).getD x .bot= .sl true 1 (rows u64C (nats ((D x).map datW))):=by
  have hne: ¬D x=[]:=fun e=>by rw[e]at hcl;exact absurd hcl (Nat.not_lt_zero _)
  simp only[outC,List.getD_eq_getElem?_getD,List.getElem?_map,List.getElem?_range hx,Option.map_some,Option.getD_some,if_pos hx,outP,if_neg hne]
 generalize outC datW n D n=C at *
 obtain⟨q,hq⟩: ∃q,q=c/57:=⟨_,rfl⟩
 obtain⟨r,hr⟩: ∃r,r=c%57:=⟨_,rfl⟩
 have hd:(c:Int)/57=(q:Int):=by omega
 have hm:(c:Int)%57=(r:Int):=by omega
 rw[<- hq]at hcl
 have hget:(nats ((D x).map datW)).getD q default=((datW ((D x).getD q 0):Nat):Int):=by
  rw[qFx,List.getD_eq_getElem?_getD,List.getD_eq_getElem?_getD,List.getElem?_map,List.getElem?_eq_getElem hcl]
  rfl
 have hw:=qAi ((D x).getD q 0)
 have hb:=qI0 (datW ((D x).getD q 0)) r (by omega) (by omega)
 have hbn:=Bool.toNat_le ((datW ((D x).getD q 0)).testBit r)
 simp only[ac57_2000,rv57_2000,h8,h31,h17,hA,hL,hc,Nat.mul_one,qF8 C,hlen,hcell,qCo hs,qCn hs,qCp hs,qCq hs,qCr hs,hd,hm,hget,hb,push_cast,reduceIte,reduceEqDiff,reduceAdd,reduceSub,reduceMul,Nat.reduceBEq,reduceLT,reduceLeDiff,reduceCtorEq,reduceToNat,reduceNeg,cNI]
 rw[<- hq,<- hr,qER,List.length_map]
 exact⟨⟨by omega,by omega⟩,by omega,⟨by omega,by omega⟩,hx,⟨by omega,by omega,by decide⟩,⟨by omega,by omega⟩,hcl,⟨by omega,by omega⟩,hx,⟨by omega,by omega,by decide⟩,by omega,⟨by omega,by omega⟩,hx,⟨by omega,by omega⟩,⟨by omega,by omega⟩,hx,⟨by omega,by omega⟩,rfl⟩
end Go.Proofs.YtecoaapkcnhlhaaDoor
namespace Go.Proofs.YtecoaapkcnhlhaaDoor
open Go Go.Vc Go.Ham Txt
def qI2(aK i:Nat)(v:Int)(x:Nat)(bt:Int)(k:Nat)(w1 w2:Int):Nat->PV
 |0=> .ptr 1020 0
 |1=> .eptr aK i 0
 |2=> .eptr aK i 0
 |3=> .int v
 |4=> .clo 57 [8,17]
 |5=> .int x
 |6=> .int bt
 |7=> .int k
 |8=> .int w1
 |9=> .int w2
 |10=> .eptr aK i 0
 |_=> .bot
def qI3(B:List (Nat×List PV))(A A6 A11:List (Nat×Arr))(dn:List Nat):List (Nat×List PV)×List (Nat×Arr)×List (Nat×Mp):=(B,if dn.contains 11=true then A11 else if dn.contains 6=true then A6 else A,[])
set_option maxHeartbeats 4000000 in
theorem qI4 {s0 : List (Nat × PV)} (hs : qtT 2000 s0 = true) (aK i v x k n : Nat) (l L : List Int) (D : Nat -> List Nat) (c : Nat) (B : List (Nat × List PV)) (A : List (Nat × Arr)) (nb : Int) (K : St -> Prop)
  (g18:getL s0 1018= .ptr 18 0) (g19:getL s0 1019= .int x) (g20:getL s0 1020= .ptr 1020 0) (g21:getL s0 1021= .int k)
  (h18:lk B 18=some [.clo 57 [8,17]]) (h20:lk B 1020=some [.eptr aK i 0,.int nb])
  (h8:lk B 8=some [.bv 31 1 n]) (h31:lk B 31=some (outC datW n D n)) (h17:lk B 17=some [.view 74 0 n]) (hA:lk A 74=some ⟨1,3,ints L⟩) (hL:L.length=n) (hc:L.getD x default=c) (hx:x<n) (hn:n<=1000) (hcl:c/57<(D x).length) (hcb:c<2000000000)
  (haK:lk A aK=some ⟨1,3,ints l⟩) (hne:aK≠74) (hi:i<l.length) (hv:l.getD i default=v) (hvb:v<2^k) (hk:k<62)
  (hK:K ⟨slA (qI2 aK i v x ((datW ((D x).getD (c/57) 0)).testBit (c%57)).toNat k (((datW ((D x).getD (c/57) 0)).testBit (c%57)).toNat<<<k:Nat) (v|||(((datW ((D x).getD (c/57) 0)).testBit (c%57)).toNat<<<k):Nat)) xs34_27 s0,B,up (up A 74 ⟨1,3,ints (L.set x ((c:Int)+1))⟩) aK ⟨1,3,ints (l.set i (v|||(((datW ((D x).getD (c/57) 0)).testBit (c%57)).toNat<<<k):Nat))⟩,[]⟩):
  allK (Env.of Tryd.prog) xs34_27 xs34_27.length [] ⟨s0,B,A,[]⟩ K:=by
 have hbn:=Bool.toNat_le ((datW ((D x).getD (c/57) 0)).testBit (c%57))
 have hnx:=fun(s:List (Nat×PV)) hs=>qI1 (E:=Env.of Tryd.prog) rfl (Nat.zero_le _) (fun _ _ h=>h) (s:=s) hs n x hx hn D B A L [] h8 h31 h17 hA hL c hc hcl hcb
 generalize ((datW ((D x).getD (c/57) 0)).testBit (c%57)).toNat=bt at *
 have hsh:bt<<<k<2^62:=by
  rw[Nat.shiftLeft_eq]
  have:2^k<=2^61:=Nat.pow_le_pow_right (by decide) (by omega)
  rcases Nat.le_one_iff_eq_zero_or_eq_one.1 hbn with e|e<;>rw[e]<;>omega
 have hv62:v<2^62:=Nat.lt_of_lt_of_le hvb (Nat.pow_le_pow_right (by decide) (by omega))
 have e1:shfF .shl .i64 (bt:Int) (k:Int)=((bt<<<k:Nat):Int):=by
  show IntKind.i64.wrap ((bt:Int)*2^(min (k:Int).toNat 64))=_
  rw[Int.toNat_natCast,Nat.min_eq_left (by omega),show(bt:Int)*2^k=((bt<<<k:Nat):Int)from by rw[Nat.shiftLeft_eq];norm_cast]
  have hw: ∀z:Nat,z<2^62->IntKind.i64.wrap (z:Int)=(z:Int):=fun z hz=>qap (by simp only[ikLo];omega) (by simp only[ikHi];omega)
  exact hw _ hsh
 have e2:bitF .or .i64 (v:Int) ((bt<<<k:Nat):Int)=((v|||bt<<<k:Nat):Int):=qBg (Nat.lt_trans hv62 (by decide)) (Nat.lt_trans hsh (by decide))
 generalize bt<<<k=w1 at *
 generalize v|||w1=w2 at *
 have hlkA: ∀Z,lk (up A 74 Z) aK=some ⟨1,3,ints l⟩:=fun Z=>by rw[qa2,if_neg (Ne.symm hne)];exact haK
 refine qFe (ops:=xs34_27) (fun _=>qI2 aK i v x bt k w1 w2) (qI3 B A (up A 74 ⟨1,3,ints (L.set x ((c:Int)+1))⟩) (up (up A 74 ⟨1,3,ints (L.set x ((c:Int)+1))⟩) aK ⟨1,3,ints (l.set i w2)⟩)) rfl rfl ?_ ?_ rfl
 ·rw[xs34_27_all]
  refine⟨?_,?_,?_,?_,?_,?_,?_,?_,?_,?_,?_,?_⟩
  ·intro dn S hr hc2 hS L2 K hK
   have q1020:getL S 1020= .ptr 1020 0:=(L2 1020 trivial).trans g20
   have em: ∀q1 q2 q3 q4,qI3 q1 q2 q3 q4 (0::dn)=qI3 q1 q2 q3 q4 dn:=fun _ _ _ _=>rfl
   rw[em,<- hS]at hK
   have hb:(qI3 B A (up A 74 ⟨1,3,ints (L.set x ((c:Int)+1))⟩) (up (up A 74 ⟨1,3,ints (L.set x ((c:Int)+1))⟩) aK ⟨1,3,ints (l.set i w2)⟩) dn).1=B:=rfl
   rw[hb]at hK ⊢
   simp only[q1020,push_cast,reduceIte,reduceEqDiff,reduceAdd,reduceSub,reduceMul,Nat.reduceBEq,reduceLT,reduceLeDiff,reduceCtorEq,reduceToNat,reduceNeg,cNI]
   first|exact hK|exact⟨by omega,hK⟩
  ·intro dn S hr hc2 hS L2 K hK
   have q1085:getL S 1085= .ptr 1020 0:=L2 1085 (qAI hr (j:=0) (by decide))
   have em: ∀q1 q2 q3 q4,qI3 q1 q2 q3 q4 (1::dn)=qI3 q1 q2 q3 q4 dn:=fun _ _ _ _=>rfl
   rw[em,<- hS]at hK
   have hb:(qI3 B A (up A 74 ⟨1,3,ints (L.set x ((c:Int)+1))⟩) (up (up A 74 ⟨1,3,ints (L.set x ((c:Int)+1))⟩) aK ⟨1,3,ints (l.set i w2)⟩) dn).1=B:=rfl
   rw[hb]at hK ⊢
   simp only[q1085,h20,push_cast,reduceIte,reduceEqDiff,reduceAdd,reduceSub,reduceMul,Nat.reduceBEq,reduceLT,reduceLeDiff,reduceCtorEq,reduceToNat,reduceNeg,cNI]
   first|exact hK|exact⟨by omega,hK⟩
  ·intro dn S hr hc2 hS L2 K hK
   have q1086:getL S 1086= .eptr aK i 0:=L2 1086 (qAI hr (j:=1) (by decide))
   have em: ∀q1 q2 q3 q4,qI3 q1 q2 q3 q4 (2::dn)=qI3 q1 q2 q3 q4 dn:=fun _ _ _ _=>rfl
   rw[em,<- hS]at hK
   have hb:(qI3 B A (up A 74 ⟨1,3,ints (L.set x ((c:Int)+1))⟩) (up (up A 74 ⟨1,3,ints (L.set x ((c:Int)+1))⟩) aK ⟨1,3,ints (l.set i w2)⟩) dn).1=B:=rfl
   rw[hb]at hK ⊢
   simp only[q1086,push_cast,reduceIte,reduceEqDiff,reduceAdd,reduceSub,reduceMul,Nat.reduceBEq,reduceLT,reduceLeDiff,reduceCtorEq,reduceToNat,reduceNeg,cNI]
   first|exact hK|exact⟨by omega,hK⟩
  ·intro dn S hr hc2 hS L2 K hK
   have q1087:getL S 1087= .eptr aK i 0:=L2 1087 (qAI hr (j:=2) (by decide))
   have h11:dn.contains 11=false:=qAK hc2 hr (List.mem_of_getElem? (i:=11) rfl) (by decide)
   have em: ∀q1 q2 q3 q4,qI3 q1 q2 q3 q4 (3::dn)=qI3 q1 q2 q3 q4 dn:=fun _ _ _ _=>rfl
   rw[em,<- hS]at hK
   revert hK
   unfold qI3
   rw[h11]
   intro hK
   cases h6:dn.contains 6<;>rw[h6]at hK<;>simp only[q1087,haK,hlkA,hv,push_cast,reduceIte,reduceEqDiff,reduceAdd,reduceSub,reduceMul,Nat.reduceBEq,reduceLT,reduceLeDiff,reduceCtorEq,reduceToNat,reduceNeg,cNI]at hK ⊢ <;>exact⟨hi,hK⟩
  ·intro dn S hr hc2 hS L2 K hK
   have q1018:getL S 1018= .ptr 18 0:=(L2 1018 trivial).trans g18
   have em: ∀q1 q2 q3 q4,qI3 q1 q2 q3 q4 (4::dn)=qI3 q1 q2 q3 q4 dn:=fun _ _ _ _=>rfl
   rw[em,<- hS]at hK
   have hb:(qI3 B A (up A 74 ⟨1,3,ints (L.set x ((c:Int)+1))⟩) (up (up A 74 ⟨1,3,ints (L.set x ((c:Int)+1))⟩) aK ⟨1,3,ints (l.set i w2)⟩) dn).1=B:=rfl
   rw[hb]at hK ⊢
   simp only[q1018,h18,push_cast,reduceIte,reduceEqDiff,reduceAdd,reduceSub,reduceMul,Nat.reduceBEq,reduceLT,reduceLeDiff,reduceCtorEq,reduceToNat,reduceNeg,cNI]
   first|exact hK|exact⟨by omega,hK⟩
  ·intro dn S hr hc2 hS L2 K hK
   have q1019:getL S 1019= .int x:=(L2 1019 trivial).trans g19
   have em: ∀q1 q2 q3 q4,qI3 q1 q2 q3 q4 (5::dn)=qI3 q1 q2 q3 q4 dn:=fun _ _ _ _=>rfl
   rw[em,<- hS]at hK
   have hb:(qI3 B A (up A 74 ⟨1,3,ints (L.set x ((c:Int)+1))⟩) (up (up A 74 ⟨1,3,ints (L.set x ((c:Int)+1))⟩) aK ⟨1,3,ints (l.set i w2)⟩) dn).1=B:=rfl
   rw[hb]at hK ⊢
   simp only[q1019,push_cast,reduceIte,reduceEqDiff,reduceAdd,reduceSub,reduceMul,Nat.reduceBEq,reduceLT,reduceLeDiff,reduceCtorEq,reduceToNat,reduceNeg,cNI]
   first|exact hK|exact⟨by omega,hK⟩
  ·intro dn S hr hc2 hS L2 K hK
   have q1089:getL S 1089= .clo 57 [8,17]:=L2 1089 (qAI hr (j:=4) (by decide))
   have q1090:getL S 1090= .int x:=L2 1090 (qAI hr (j:=5) (by decide))
   have h6:dn.contains 6=false:=qAJ hr
   have h11:dn.contains 11=false:=qAK hc2 hr (List.mem_of_getElem? (i:=11) rfl) (by decide)
   have em: ∀q1 q2 q3 q4,qI3 q1 q2 q3 q4 (6::dn)=(q1,q3,[]):=fun q1 q2 q3 q4=>by
    show(q1,if dn.contains 11=true then _ else if true=true then _ else _,_)=_
    rw[h11];rfl
   have em0: ∀q1 q2 q3 q4,qI3 q1 q2 q3 q4 dn=(q1,q2,[]):=fun q1 q2 q3 q4=>by
    unfold qI3
    rw[h11,h6];rfl
   rw[em,<- hS]at hK
   rw[em0]
   have hSl:qtT 2000 S=true:=by rw[hS];exact qFg hs rfl
   simp only[q1089,q1090,push_cast,reduceIte,reduceEqDiff,reduceAdd,reduceSub,reduceMul,Nat.reduceBEq,reduceLT,reduceLeDiff,reduceCtorEq,reduceToNat,reduceNeg,cNI]
   refine FnM.mono (hnx S hSl) ?_
   rintro _ _ ⟨rfl,rfl⟩
   exact hK
  ·intro dn S hr hc2 hS L2 K hK
   have q1021:getL S 1021= .int k:=(L2 1021 trivial).trans g21
   have em: ∀q1 q2 q3 q4,qI3 q1 q2 q3 q4 (7::dn)=qI3 q1 q2 q3 q4 dn:=fun _ _ _ _=>rfl
   rw[em,<- hS]at hK
   have hb:(qI3 B A (up A 74 ⟨1,3,ints (L.set x ((c:Int)+1))⟩) (up (up A 74 ⟨1,3,ints (L.set x ((c:Int)+1))⟩) aK ⟨1,3,ints (l.set i w2)⟩) dn).1=B:=rfl
   rw[hb]at hK ⊢
   simp only[q1021,push_cast,reduceIte,reduceEqDiff,reduceAdd,reduceSub,reduceMul,Nat.reduceBEq,reduceLT,reduceLeDiff,reduceCtorEq,reduceToNat,reduceNeg,cNI]
   first|exact hK|exact⟨by omega,hK⟩
  ·intro dn S hr hc2 hS L2 K hK
   have q1091:getL S 1091= .int bt:=L2 1091 (qAI hr (j:=6) (by decide))
   have q1092:getL S 1092= .int k:=L2 1092 (qAI hr (j:=7) (by decide))
   have em: ∀q1 q2 q3 q4,qI3 q1 q2 q3 q4 (8::dn)=qI3 q1 q2 q3 q4 dn:=fun _ _ _ _=>rfl
   rw[em,<- hS]at hK
   have hb:(qI3 B A (up A 74 ⟨1,3,ints (L.set x ((c:Int)+1))⟩) (up (up A 74 ⟨1,3,ints (L.set x ((c:Int)+1))⟩) aK ⟨1,3,ints (l.set i w2)⟩) dn).1=B:=rfl
   rw[hb]at hK ⊢
   simp only[q1091,q1092,e1,push_cast,reduceIte,reduceEqDiff,reduceAdd,reduceSub,reduceMul,Nat.reduceBEq,reduceLT,reduceLeDiff,reduceCtorEq,reduceToNat,reduceNeg,cNI]
   first|exact hK|exact⟨by omega,hK⟩
  ·intro dn S hr hc2 hS L2 K hK
   have q1088:getL S 1088= .int v:=L2 1088 (qAI hr (j:=3) (by decide))
   have q1093:getL S 1093= .int w1:=L2 1093 (qAI hr (j:=8) (by decide))
   have em: ∀q1 q2 q3 q4,qI3 q1 q2 q3 q4 (9::dn)=qI3 q1 q2 q3 q4 dn:=fun _ _ _ _=>rfl
   rw[em,<- hS]at hK
   have hb:(qI3 B A (up A 74 ⟨1,3,ints (L.set x ((c:Int)+1))⟩) (up (up A 74 ⟨1,3,ints (L.set x ((c:Int)+1))⟩) aK ⟨1,3,ints (l.set i w2)⟩) dn).1=B:=rfl
   rw[hb]at hK ⊢
   simp only[q1088,q1093,e2,push_cast,reduceIte,reduceEqDiff,reduceAdd,reduceSub,reduceMul,Nat.reduceBEq,reduceLT,reduceLeDiff,reduceCtorEq,reduceToNat,reduceNeg,cNI]
   first|exact hK|exact⟨by omega,hK⟩
  ·intro dn S hr hc2 hS L2 K hK
   have q1086:getL S 1086= .eptr aK i 0:=L2 1086 (qAI hr (j:=1) (by decide))
   have em: ∀q1 q2 q3 q4,qI3 q1 q2 q3 q4 (10::dn)=qI3 q1 q2 q3 q4 dn:=fun _ _ _ _=>rfl
   rw[em,<- hS]at hK
   have hb:(qI3 B A (up A 74 ⟨1,3,ints (L.set x ((c:Int)+1))⟩) (up (up A 74 ⟨1,3,ints (L.set x ((c:Int)+1))⟩) aK ⟨1,3,ints (l.set i w2)⟩) dn).1=B:=rfl
   rw[hb]at hK ⊢
   simp only[q1086,push_cast,reduceIte,reduceEqDiff,reduceAdd,reduceSub,reduceMul,Nat.reduceBEq,reduceLT,reduceLeDiff,reduceCtorEq,reduceToNat,reduceNeg,cNI]
   first|exact hK|exact⟨by omega,hK⟩
  ·intro dn S hr hc2 hS L2 K hK
   have q1095:getL S 1095= .eptr aK i 0:=L2 1095 (qAI hr (j:=10) (by decide))
   have q1094:getL S 1094= .int w2:=L2 1094 (qAI hr (j:=9) (by decide))
   have h6:dn.contains 6=true:=qAI hr (j:=6) (by decide)
   have h11:dn.contains 11=false:=qAJ hr
   have em: ∀q1 q2 q3 q4,qI3 q1 q2 q3 q4 (11::dn)=(q1,q4,[]):=fun q1 q2 q3 q4=>rfl
   have em0: ∀q1 q2 q3 q4,qI3 q1 q2 q3 q4 dn=(q1,q3,[]):=fun q1 q2 q3 q4=>by
    unfold qI3
    rw[h11,h6];rfl
   rw[em,<- hS]at hK
   rw[em0]
   have hK:K ⟨S,_,_,_⟩:=hK
   simp only[q1095,q1094,hlkA,push_cast,reduceIte,reduceEqDiff,reduceAdd,reduceSub,reduceMul,Nat.reduceBEq,reduceLT,reduceLeDiff,reduceCtorEq,reduceToNat,reduceNeg,cNI]at hK ⊢
   exact⟨hi,hK⟩
 ·intro dn h
  rw[xs34_27_all]at h
  obtain⟨h0_,h1_,h2_,h3_,h4_,h5_,h6_,h7_,h8_,h9_,h10_,h11_⟩:=h
  have em: ∀q1 q2 q3 q4,qI3 q1 q2 q3 q4 dn=(q1,q4,[]):=fun q1 q2 q3 q4=>by
   unfold qI3
   rw[if_pos h11_]
  rw[em]
  exact hK
end Go.Proofs.YtecoaapkcnhlhaaDoor
namespace Go.Proofs.YtecoaapkcnhlhaaDoor
open Go Go.Vc Go.Ham Txt
theorem qI5: ∀(k j n:Nat),n<2^j->Go.Lib.bitLenAux k n<=j
 |0,_,_,_=>Nat.zero_le _
 | k + 1, j, n, h => by
   unfold Go.Lib.bitLenAux
   split
   ·exact Nat.zero_le _
   ·cases j with
    |zero=>omega
    |succ j=>
      have:=qI5 k j (n/2) (by rw[Nat.pow_succ]at h;omega)
      omega
theorem qI6{g:Grid}(hg:GOk g){f:Fld}(hf:FIn g f):f.n<=61:=by
 rcases hf.key with⟨a,b,d⟩|⟨a,b,d⟩|⟨a,b,d⟩|⟨a,b,d⟩<;>rw[d]
 ·have:=qxn g hg f.i
  exact qI5 64 61 _ (by omega)
 all_goals decide
def datA(L:List Int)(c:Cfg):List (Nat×Arr):=[(74,⟨1,3,ints L⟩),(109,⟨1,3,ints c.sel⟩),(111,⟨1,3,ints c.mode⟩),(113,⟨1,3,ints c.tab⟩),(115,⟨1,3,ints c.ram⟩)]
def kA(k:Nat):Nat:=if k=0 then 109 else if k=1 then 111 else if k=2 then 113 else 115
def cfgL(c:Cfg)(k:Nat):List Int:=if k=0 then c.sel else if k=1 then c.mode else if k=2 then c.tab else c.ram
theorem qI7(k:Nat):kA k≠74:=by
 unfold kA
 repeat' split
 all_goals decide
theorem qI8{k:Nat}(L:List Int)(c:Cfg):lk (datA L c) (kA k)=some ⟨1,3,ints (cfgL c k)⟩:=by
 unfold kA cfgL
 repeat' split
 all_goals rfl
theorem qI9{k:Nat}(L L' :List Int)(c:Cfg)(i:Nat)(v:Int):up (up (datA L c) 74 ⟨1,3,ints L'⟩) (kA k) ⟨1,3,ints ((cfgL c k).set i v)⟩=datA L' (qD5 c k i v):=by
 unfold kA cfgL qD5
 repeat' split
 all_goals rfl
theorem qIa(c:Cfg)(k i:Nat):(cfgL c k).getD i default=cfgI c k i:=by
 unfold cfgL cfgI
 repeat' split
 all_goals rfl
theorem qIb{g:Grid}{c:Cfg}(h:CfgLn g c){k i:Nat}(hk:keyIn g k i):i<(cfgL c k).length:=by
 obtain⟨l1,l2,l3,l4⟩:=h.lens
 rcases hk with⟨rfl,h⟩|⟨rfl|rfl|rfl,h⟩<;>simp[cfgL]<;>omega
theorem qIc(c:Cfg)(k i:Nat)(v w:Int):qD5 (qD5 c k i v) k i w=qD5 c k i w:=by
 unfold qD5
 by_cases h0:k=0
 ·simp[h0,List.set_set]
 ·by_cases h1:k=1
  ·simp[h1,List.set_set]
  ·by_cases h2:k=2
   ·simp[h2,List.set_set]
   ·simp[h0,h1,h2,List.set_set]
theorem qId{g:Grid}{c:Cfg}(hc:CfgLn g c){k i:Nat}(hk:keyIn g k i):qD5 c k i (cfgI c k i)=c:=by
 refine qDa (qD6 hc _ _ _) hc fun k' i' h' => ?_
 rw[qD8 hc hk h']
 split
 ·next h=>obtain⟨rfl,rfl⟩:=h;rfl
 ·rfl
def strB(l:List (List Nat))(x:Nat):List Bool:=unW (datF l x)
theorem qIe(l:List (List Nat))(x c:Nat):(datW ((datD l x).getD (c/57) 0)).testBit (c%57)=(strB l x).getD c false\/(datD l x).length<=c/57:=by
 by_cases h:c/57<(datD l x).length
 ·left
  unfold strB datF
  rw[qBI,List.getD_eq_getElem?_getD,List.getD_eq_getElem?_getD,List.getElem?_map]
  show _=(((datD l x)[c/57]?.map datW).getD 0).testBit _
  rw[List.getElem?_eq_getElem h]
  rfl
 ·exact .inr (by omega)
theorem qIf(S:List Bool)(c k:Nat)(h:c+k<S.length):(S.drop c).take (k+1)=(S.drop c).take k++[S.getD (c+k) false]:=by
 rw[List.take_succ_eq_append_getElem (by simp;omega),List.getElem_drop,List.getD_eq_getElem?_getD,List.getElem?_eq_getElem h]
 rfl
set_option maxHeartbeats 2000000 in
theorem qIg (g : Grid) {S : List (Nat × PV)} (hS : qtT 1000 S = true) (κ i x nb n : Nat) (l : List (List Nat)) (L : List Int) (c : Nat) (B : List (Nat × List PV)) (cf : Cfg)
  (h18:lk B 18=some [.clo 57 [8,17]]) (h20:lk B 1020=some [.eptr (kA κ) i 0,.int nb])
  (h8:lk B 8=some [.bv 31 1 n]) (h31:lk B 31=some (outC datW n (datD l) n)) (h17:lk B 17=some [.view 74 0 n]) (hL:L.length=n) (hc:L.getD x default=c) (hx:x<n) (hn:n<=1000) (hcl:c+nb<=57*(datD l x).length) (hcb:c+nb<2000000000)
  (hcf:CfgLn g cf) (hk:keyIn g κ i) (h0:cfgI cf κ i=0) (hnb:nb<=61) (T:List (Nat×PV)) (hT:qhk [1000,126,1018,1019,1020] T=[]) (Q:Exit->St->Prop)
  (hQ:Q .normal ⟨S++[(1018,.ptr 18 0),(1019,.int x),(1020,.ptr 1020 0),(1081,.int nb),(1082,.int nb),(1083,.bool false)],B,datA (L.set x ((c+nb:Nat):Int)) (qD5 cf κ i (valB (((strB l x).drop c).take nb):Nat)),[]⟩):
  awp (Env.of Tryd.prog) ac34_r24 Q ⟨S++([(1018,.ptr 18 0),(1019,.int x),(1020,.ptr 1020 0)]++T),B,datA L cf,[]⟩:=by
 have hslen:(strB l x).length=57*(datD l x).length:=by unfold strB datF;rw[qBF,List.length_map];rfl
 have hLs: ∀y,(L.set x y).getD x default=y:=fun y=>by rw[List.getD_eq_getElem?_getD,List.getElem?_set_self (by omega)];rfl
 have hLset: ∀y z,(L.set x y).set x z=L.set x z:=fun y z=>List.set_set ..
 have hL0:L.set x ((c:Nat):Int)=L:=by
  rw[<- hc]
  apply List.ext_getElem (by simp)
  intro j h1 h2
  rw[List.getElem_set]
  split
  ·next e=>subst e;simp[List.getD_eq_getElem?_getD,h2]
  ·rfl
 simp only[ac34_r24,hT,h20,qCo hS,qCn hS,qCp hS,qCq hS,qCr hS,push_cast,reduceIte,reduceEqDiff,reduceAdd,reduceSub,reduceMul,Nat.reduceBEq,reduceLT,reduceLeDiff,reduceCtorEq,reduceToNat,reduceNeg,cNI]
 refine qoK (fun j st=> ∃k:Nat,k<=nb/\j=nb-k/\st=⟨S++[(1018,.ptr 18 0),(1019,.int x),(1020,.ptr 1020 0),(1081,.int nb),(1082,.int k)],B,datA (L.set x ((c+k:Nat):Int)) (qD5 cf κ i (valB (((strB l x).drop c).take k):Nat)),[]⟩) nb ⟨_,SWk.refl _,0,by omega,by omega,?_⟩ ?_
 ·simp only[qCo hS,qCn hS,qCp hS,qCq hS,qCr hS,push_cast,reduceIte,reduceEqDiff,reduceAdd,reduceSub,reduceMul,Nat.reduceBEq,reduceLT,reduceLeDiff,reduceCtorEq,reduceToNat,reduceNeg,cNI]
  rw[List.take_zero,show(valB []:Nat)=0 from rfl,show((0:Nat):Int)=cfgI cf κ i from h0.symm,qId hcf hk]
  rw[show L.set x (c:Int)=L from hL0]
 rintro j st ⟨k,hk',rfl,rfl⟩
 simp only[qCo hS,qCn hS,qCp hS,qCq hS,qCr hS,push_cast,reduceIte,reduceEqDiff,reduceAdd,reduceSub,reduceMul,Nat.reduceBEq,reduceLT,reduceLeDiff,reduceCtorEq,reduceToNat,reduceNeg,cNI]
 refine qnU (fun h=> ?_) fun h=> ?_
 ·have hkn:k<nb:=by omega
  have hln:=qD6 hcf κ i (valB (((strB l x).drop c).take k):Nat)
  have hvl:=qBp (((strB l x).drop c).take k)
  have htl:(((strB l x).drop c).take k).length=k:=by rw[List.length_take,List.length_drop];omega
  rw[htl]at hvl
  have hcl2:(c+k)/57<(datD l x).length:=by omega
  simp only[ac34_r26,qCo hS,qCn hS,qCp hS,qCq hS,qCr hS,push_cast,reduceIte,reduceEqDiff,reduceAdd,reduceSub,reduceMul,Nat.reduceBEq,reduceLT,reduceLeDiff,reduceCtorEq,reduceToNat,reduceNeg,cNI]
  refine qI4 (s0:=S++[(1018,.ptr 18 0),(1019,.int x),(1020,.ptr 1020 0),(1021,.int k),(1081,.int nb),(1082,.int k)]) ?_ (kA κ) i (valB (((strB l x).drop c).take k)) x k n (cfgL (qD5 cf κ i (valB (((strB l x).drop c).take k):Nat)) κ) (L.set x ((c+k:Nat):Int)) (datD l) (c+k) B _ nb _ ?_ ?_ ?_ ?_ h18 h20 h8 h31 h17 rfl (by rw[List.length_set,hL]) (hLs _) hx hn hcl2 (by omega) (qI8 _ _) (qI7 κ) (qIb hln hk) ?_ hvl (by omega) ?_
  ·rw[qCs hS _ _ (by omega)];rfl
  ·simp only[qCp hS,push_cast,reduceIte,reduceEqDiff,reduceAdd,reduceSub,reduceMul,Nat.reduceBEq,reduceLT,reduceLeDiff,reduceCtorEq,reduceToNat,reduceNeg,cNI]
  ·simp only[qCp hS,push_cast,reduceIte,reduceEqDiff,reduceAdd,reduceSub,reduceMul,Nat.reduceBEq,reduceLT,reduceLeDiff,reduceCtorEq,reduceToNat,reduceNeg,cNI]
  ·simp only[qCp hS,push_cast,reduceIte,reduceEqDiff,reduceAdd,reduceSub,reduceMul,Nat.reduceBEq,reduceLT,reduceLeDiff,reduceCtorEq,reduceToNat,reduceNeg,cNI]
  ·simp only[qCp hS,push_cast,reduceIte,reduceEqDiff,reduceAdd,reduceSub,reduceMul,Nat.reduceBEq,reduceLT,reduceLeDiff,reduceCtorEq,reduceToNat,reduceNeg,cNI]
  ·rw[qIa,qD8 hcf hk hk,if_pos ⟨rfl,rfl⟩]
  ·have hbit:(datW ((datD l x).getD ((c+k)/57) 0)).testBit ((c+k)%57)=(strB l x).getD (c+k) false:=(qIe l x (c+k)).resolve_right (by omega)
   rw[hbit,qI9,qIc,hLset]
   have hvs:valB (((strB l x).drop c).take k)|||(((strB l x).getD (c+k) false).toNat<<<k)=valB (((strB l x).drop c).take (k+1)):=by
    rw[qIf _ _ _ (by omega),qBv,htl]
   rw[hvs]
   simp only[slA,xs34_27,putD,qI2,qCo hS,qCn hS,qCp hS,qCq hS,qCr hS,push_cast,reduceIte,reduceEqDiff,reduceAdd,reduceSub,reduceMul,Nat.reduceBEq,reduceLT,reduceLeDiff,reduceCtorEq,reduceToNat,reduceNeg,cNI]
   refine⟨⟨by omega,by omega⟩,_,SWk.refl _,nb-(k+1),by omega,k+1,by omega,rfl,?_⟩
   rw[show(c:Int)+k+1=((c:Int)+((k+1:Nat):Int))from by omega]
   rfl
 ·obtain rfl:k=nb:=by omega
  rw[show decide ((k:Int)<k)=false from decide_eq_false (by omega)]
  exact hQ
end Go.Proofs.YtecoaapkcnhlhaaDoor
namespace Go.Proofs.YtecoaapkcnhlhaaDoor
open Go Go.Vc Go.Ham Txt
def cfA(c:Cfg):List (Nat×Arr):=[(109,⟨1,3,ints c.sel⟩),(111,⟨1,3,ints c.mode⟩),(113,⟨1,3,ints c.tab⟩),(115,⟨1,3,ints c.ram⟩)]
theorem qIh(g:Grid)(hg:GOk g):FnM (Env.of Tryd.prog) 56 [.agg (quQ false g)] ⟨[],[],[],[]⟩ (fun v st' =>
  v= .agg [.view 109 0 (quV g).toNat,.view 111 0 g.kind.length,.view 113 0 g.kind.length,.view 115 0 g.kind.length]/\st' =⟨[],[],cfA (qx5 g),[]⟩):=by
 have h1:=hg.count
 have h2:=hg.wh
 have h3:=hg.kind
 refine FnM.dropB 101 (FnM.dropB 102 ?_)
 refine qub 100 Tryd.func56 ok56_100 (by show 1<=_;decide) rfl (by decide) ?_
 simp only[ac56_100,rv56_100,push_cast,reduceIte,reduceEqDiff,reduceAdd,reduceSub,reduceMul,Nat.reduceBEq,reduceLT,reduceLeDiff,reduceCtorEq,reduceToNat,reduceNeg,cNI]
 refine qrt (quY g hg) sC rfl ?_
 refine sB ?_
 refine⟨by omega,by omega,by omega,by omega,?_,?_⟩
 ·simp
 ·simp only[cfA,qx5,List.length_replicate,push_cast,reduceIte,reduceEqDiff,reduceAdd,reduceSub,reduceMul,Nat.reduceBEq,reduceLT,reduceLeDiff,reduceCtorEq,reduceToNat,reduceNeg,cNI]
def cfP(g:Grid)(l:List (List Nat))(pre:List Fld):Cfg:=(qBR pre (strB l)).foldl (fun c p=>qD5 c p.1.kind p.1.i p.2) (qx5 g)
theorem qIi(g:Grid)(l:List (List Nat)):cfP g l (qCe g)=decC g fun x=>unW (datF l x):=rfl
theorem qIj(g:Grid)(l:List (List Nat))(pre:List Fld)(f:Fld):cfP g l (pre++[f])=qD5 (cfP g l pre) f.kind f.i (valB (((strB l f.x).drop (qBM pre f.x)).take f.n):Nat):=by
 unfold cfP
 rw[qBT,List.foldl_append]
 rfl
theorem qIk(g:Grid)(k i:Nat):cfgI (qx5 g) k i=0:=by
 have h: ∀n:Nat,(List.replicate n (0:Int)).getD i 0=0:=fun n=>by
  rw[List.getD_eq_getElem?_getD,List.getElem?_replicate];split<;>rfl
 unfold cfgI qx5
 repeat' split
 all_goals exact h _
theorem qIl(fs:List Fld)(S:Nat->List Bool):(qBR fs S).map (fun p=>fkey p.1)=fs.map fkey:=by
 rw[show(fun p:Fld×Nat=>fkey p.1)=fkey ∘ Prod.fst from rfl,<- List.map_map,qBS]
theorem qIm{g:Grid}(hg:GOk g)(l:List (List Nat)){pre:List Fld}{f:Fld}(h:pre++[f]<+:qCe g):CfgLn g (cfP g l pre)/\cfgI (cfP g l pre) f.kind f.i=0:=by
 have hnd:=qD1 hg
 obtain⟨r,hr⟩:=h
 have hin: ∀p∈qBR pre (strB l),p.1∈qCe g:=fun p hp=>by
  have:p.1∈(qBR pre (strB l)).map (·.1):=List.mem_map_of_mem hp
  rw[qBS]at this
  rw[<- hr]
  exact List.mem_append_left _ (List.mem_append_left _ this)
 rw[<- hr,List.append_assoc,List.map_append,List.nodup_append]at hnd
 obtain⟨a1,_,a3⟩:=qD9 (qBR pre (strB l)) (qx5 g) (qDb g) (fun p hp=>(qCW hg (hin p hp)).keyIn) (by rw[qIl];exact hnd.1)
 refine⟨a1,?_⟩
 have hf:f∈qCe g:=by rw[<- hr];simp
 refine(a3 f.kind f.i (qCW hg hf).keyIn ?_).trans (qIk g _ _)
 rw[qIl]
 intro hm
 exact hnd.2.2 _ hm (fkey f) (by simp) rfl
theorem qIn{g:Grid}{pre:List Fld}(h:pre<+:qCe g)(x:Nat):qBM pre x<=qDj g x:=by
 obtain⟨r,hr⟩:=h
 unfold qDj
 rw[<- hr,qBQ]
 omega
theorem qIo(n:Nat):n<=57*nW n:=by unfold nW;omega
def qIp(g:Grid)(n:Nat)(C:List PV):List (Nat×List PV):=[(2,quQ false g),(4,[.nil,.nil,.nil,.nil]),(8,[.bv 31 1 n]),(16,[.view 109 0 (cN g),.view 111 0 g.kind.length,.view 113 0 g.kind.length,.view 115 0 g.kind.length]),(17,[.view 74 0 n]),(18,[.clo 57 [8,17]]),(31,C)]
def qIq(g:Grid)(n:Nat)(C:List PV):List (Nat×List PV):=qIp g n C++[(102,quQ false g),(103,[.ptr 16 0]),(105,[.int (quU g)])]
def qIr(g:Grid)(n:Nat)(C:List PV):List (Nat×List PV):=qIq g n C++[(204,[.yl 999])]
def qIs(g:Grid)(n:Nat)(C:List PV):List (Nat×List PV):=qIq g n C++[(204,[.bot])]
def decS(l:List (List Nat))(f:Int):List (Nat×PV):=[(1,.sl false 1 (rows (frmC false) l)),(2,.ptr 2 0),(4,.ptr 4 0),(7,.int f),(8,.ptr 8 0),(16,.ptr 16 0),(17,.ptr 17 0),(18,.ptr 18 0),(77,.clo 75 [103,102,105])]
theorem qIt{id n:Nat}(h:id<1000):farV (.view id 0 n):=⟨fun j hj=>⟨rfl,beq_false_of_ne (by omega)⟩,fun _ j hj=>⟨rfl,beq_false_of_ne (by omega)⟩⟩
set_option maxHeartbeats 4000000 in
theorem qIu (g : Grid) (hg : GOk g) (l : List (List Nat)) (n : Nat) (hn : n = wN g + 1) (f : Int) (Q : Exit -> St -> Prop) (hs : ∀ x, x <= wN g -> (datD l x).length = nW (qDj g x)) (h75 : PV)
  (h29:awp (Env.of Tryd.prog) ac34_r29 Q ⟨decS l f,qIs g n (outC datW n (datD l) n),datA (qDH g (qCe g)) (cfP g l (qCe g)),[]⟩):
  awp (Env.of Tryd.prog) ac34_r21 Q ⟨[(1,.sl false 1 (rows (frmC false) l)),(2,.ptr 2 0),(4,.ptr 4 0),(7,.int f),(8,.ptr 8 0),(16,.ptr 16 0),(17,.ptr 17 0),(18,.ptr 18 0),(75,.clo 57 [8,17])],qIp g n (outC datW n (datD l) n),datA (List.replicate n 0) (qx5 g),[]⟩:=by
 have hn' :=hg.n
 have hw2:=hn'.w2
 simp only[ac34_r21,qIp,push_cast,reduceIte,reduceEqDiff,reduceAdd,reduceSub,reduceMul,Nat.reduceBEq,reduceLT,reduceLeDiff,reduceCtorEq,reduceToNat,reduceNeg,cNI]
 have hF : FnM (Env.of Tryd.prog) 53 [.agg (quQ false g), .ptr 16 0] ⟨[(1, .sl false 1 (rows (frmC false) l)), (2, .ptr 2 0), (4, .ptr 4 0), (7, .int f), (8, .ptr 8 0), (16, .ptr 16 0), (17, .ptr 17 0), (18, .ptr 18 0), (76, .agg (quQ false g))], qIp g n (outC datW n (datD l) n), datA (List.replicate n 0) (qx5 g), []⟩
   (fun v st' =>v= .clo 75 [103,102,105]/\st' =⟨[(1,.sl false 1 (rows (frmC false) l)),(2,.ptr 2 0),(4,.ptr 4 0),(7,.int f),(8,.ptr 8 0),(16,.ptr 16 0),(17,.ptr 17 0),(18,.ptr 18 0),(76,.agg (quQ false g))],qIq g n (outC datW n (datD l) n),datA (List.replicate n 0) (qx5 g),[]⟩):=by
  refine qub 100 Tryd.func53 ok53_100 (by show 2<=_;decide) rfl (by decide) ?_
  have ht:=hg.tracks
  simp only[ac53_100,rv53_100,qIp,qG8,push_cast,reduceIte,reduceEqDiff,reduceAdd,reduceSub,reduceMul,Nat.reduceBEq,reduceLT,reduceLeDiff,reduceCtorEq,reduceToNat,reduceNeg,cNI]
  exact⟨⟨by omega,by omega⟩,⟨by omega,by omega⟩,rfl⟩
 refine qsL hF ?_
 refine sB ?_
 have hv:=fun pre=>qI8 (k:=0) (qDH g pre) (cfP g l pre)
 refine qu9 (st1:=⟨decS l f,qIq g n (outC datW n (datD l) n),datA (qDH g []) (cfP g l []),[]⟩) (Env.of_noY _) rfl ?_
  (qD4 (s:=decS l f) rfl (by show 126<=200;decide) (fun _ _ h=>h) rfl g hg 103 102 105 16 (.view 109 0 (cN g)) (.view 111 0 g.kind.length) (.view 113 0 g.kind.length) (.view 115 0 g.kind.length) (qIq g n (outC datW n (datD l) n)) (fun _=>qIr g n (outC datW n (datD l) n)) (fun pre=>datA (qDH g pre) (cfP g l pre)) rfl rfl rfl (by simp only[decS,push_cast,reduceIte,reduceEqDiff,reduceAdd,reduceSub,reduceMul,Nat.reduceBEq,reduceLT,reduceLeDiff,reduceCtorEq,reduceToNat,reduceNeg,cNI]) ?_ (fun pre hp=>⟨rfl,rfl,rfl,rfl,rfl⟩) (fun pre hp=>⟨⟨_,_,rfl⟩,⟨_,_,rfl⟩,⟨_,_,rfl⟩,⟨_,_,rfl⟩⟩) ?_ ⟨by decide,by decide,by decide,by decide⟩ ⟨qIt (by decide),qIt (by decide),qIt (by decide),qIt (by decide)⟩ ?_) ?_
 ·simp only[qIq,qIp,qG8,decS,push_cast,reduceIte,reduceEqDiff,reduceAdd,reduceSub,reduceMul,Nat.reduceBEq,reduceLT,reduceLeDiff,reduceCtorEq,reduceToNat,reduceNeg,cNI]
  rw[qDT,<- hn]
  rfl
 ·simp only[qIq,qIp,qIr,qG8,List.cons_append,List.nil_append,push_cast,reduceIte,reduceEqDiff,reduceAdd,reduceSub,reduceMul,Nat.reduceBEq,reduceLT,reduceLeDiff,reduceCtorEq,reduceToNat,reduceNeg,cNI]
 ·have hc:=hn'.c
  have hk:=hn'.k
  exact⟨rfl,hk,hk,hk⟩
 ·intro pre fl hpf t ht h4 hft
  have hm:midL 0 126 (decS l f++t)=decS l f:=by
   simp only[decS,List.cons_append,List.nil_append,qtQ]
   rw[qCH fun x hx=>by have:=h4 x hx;omega]
   rfl
  have hsl:qtT 1000 (decS l f++t)=true:=by simpa[qtT,decS]using ht
  refine qCt rfl rfl hsl ?_
  rw[hm]
  have hS: ∀j,1000<=j->farL j (decS l f++t):=by
   intro j hj
   have n1: ∀i,i<1000->(i==j)=false:=fun i hi=>beq_false_of_ne (by omega)
   simp only[decS,qCO,n1 2 (by decide),n1 4 (by decide),n1 8 (by decide),n1 16 (by decide),n1 17 (by decide),n1 18 (by decide),n1 103 (by decide),n1 102 (by decide),n1 105 (by decide),hft j hj,push_cast,reduceIte,reduceEqDiff,reduceAdd,reduceSub,reduceMul,Nat.reduceBEq,reduceLT,reduceLeDiff,reduceCtorEq,reduceToNat,reduceNeg,cNI]
  have hg1:getL (decS l f++t) 1= .sl false 1 (rows (frmC false) l):=rfl
  have hg2:getL (decS l f++t) 2= .ptr 2 0:=rfl
  have hg4:getL (decS l f++t) 4= .ptr 4 0:=rfl
  have hg7:getL (decS l f++t) 7= .int f:=rfl
  have hg8:getL (decS l f++t) 8= .ptr 8 0:=rfl
  have hg16:getL (decS l f++t) 16= .ptr 16 0:=rfl
  have hg17:getL (decS l f++t) 17= .ptr 17 0:=rfl
  have hg18:getL (decS l f++t) 18= .ptr 18 0:=rfl
  have hg77:getL (decS l f++t) 77= .clo 75 [103,102,105]:=rfl
  have hdS:decS l f=[(1,.sl false 1 (rows (frmC false) l)),(2,.ptr 2 0),(4,.ptr 4 0),(7,.int f),(8,.ptr 8 0),(16,.ptr 16 0),(17,.ptr 17 0),(18,.ptr 18 0),(77,.clo 75 [103,102,105])]:=rfl
  clear hm ht h4
  generalize decS l f++t=S at *
  rw[hdS]
  unfold qu6
  have hfi:=qCW hg (hpf.subset (List.mem_append_right _ List.mem_cons_self))
  have hfx:=hfi.x
  have hfn:=qI6 hg hfi
  have hbd:=qDO hg hpf fl.x
  have hnp:=qIn hpf fl.x
  rw[qBQ]at hbd hnp
  simp only[qBM,if_true]at hbd hnp
  obtain⟨hcl,hc0⟩:=qIm hg l hpf
  have hD:=hs fl.x hfx
  have hnw:=qIo (qDj g fl.x)
  have hpt:qCI (cfK (.view 109 0 (cN g)) (.view 111 0 g.kind.length) (.view 113 0 g.kind.length) (.view 115 0 g.kind.length) fl.kind) fl.i= .eptr (kA fl.kind) fl.i 0:=by
   rcases hfi.key with h|h|h|h<;>rw[h.1]<;>simp[cfK,qCI,kA]
  have hkb:(kA fl.kind==1020)=false:=by
   rcases hfi.key with h|h|h|h<;>rw[h.1]<;>rfl
  rw[hpt]
  simp only[qIr,qIq,qIp,qG8,List.cons_append,List.nil_append,hg1,hg2,hg4,hg7,hg8,hg16,hg17,hg18,hg77,qCo hsl,qCn hsl,qCp hsl,qCq hsl,qCr hsl,qCS,qCP (hS 1020 (by decide)),push_cast,reduceIte,reduceEqDiff,reduceAdd,reduceSub,reduceMul,Nat.reduceBEq,reduceLT,reduceLeDiff,reduceCtorEq,reduceToNat,reduceNeg,cNI]
  refine qIg g hsl fl.kind fl.i fl.x fl.n n l (qDH g pre) (qBM pre fl.x) _ (cfP g l pre) rfl rfl rfl rfl rfl (by rw[qDP,hn]) (qDQ hfx pre) (by omega) (by omega) (by rw[hD];omega) (by omega) hcl hfi.keyIn hc0 hfn [(1079,.agg [.eptr (kA fl.kind) fl.i 0,.int fl.n])] sC _ ?_
  simp only[qCo hsl,qCn hsl,qCp hsl,qCq hsl,qCr hsl,push_cast,reduceIte,reduceEqDiff,reduceAdd,reduceSub,reduceMul,Nat.reduceBEq,reduceLT,reduceLeDiff,reduceCtorEq,reduceToNat,reduceNeg,cNI]
  refine⟨_,SWk.drop (fun i=>i !=1020) (fun _=>true),hsl,?_⟩
  rw[qIj,qDR]
  rfl
 ·rintro _ _ rfl
  simp only[decS,qIs,qIr,qIq,qIp,qG8,List.cons_append,List.nil_append,push_cast,reduceIte,reduceEqDiff,reduceAdd,reduceSub,reduceMul,Nat.reduceBEq,reduceLT,reduceLeDiff,reduceCtorEq,reduceToNat,reduceNeg,cNI]at h29 ⊢
  exact h29
set_option maxHeartbeats 4000000 in
theorem qIv (g : Grid) (hg : GOk g) (l : List (List Nat)) (n : Nat) (hn : n = wN g + 1) (hl : l.length = n) (f : Int) (T : List (Nat × PV)) (hT : qhk [0, 126, 1, 2, 4, 7, 8] T = []) (Q : Exit -> St -> Prop)
  (hs: ∀x,x<=wN g->(datD l x).length=nW (qDj g x))
  (h29:awp (Env.of Tryd.prog) ac34_r29 Q ⟨decS l f,qIs g n (outC datW n (datD l) n),datA (qDH g (qCe g)) (cfP g l (qCe g)),[]⟩):
  awp (Env.of Tryd.prog) ac34_r18 Q ⟨[(1,.sl false 1 (rows (frmC false) l)),(2,.ptr 2 0),(4,.ptr 4 0),(7,.int f),(8,.ptr 8 0)]++T,decB g n (outC datW n (datD l) n),[],[]⟩:=by
 have hn' :=hg.n
 have hw2:=hn'.w2
 have hgw:=hg.w
 simp only[ac34_r18,hT,decB,push_cast,reduceIte,reduceEqDiff,reduceAdd,reduceSub,reduceMul,Nat.reduceBEq,reduceLT,reduceLeDiff,reduceCtorEq,reduceToNat,reduceNeg,cNI]
 refine qDG [] [109,111,113,115] (qIh g hg) rfl (by simp only[qDD,St.noTo,List.all_cons,List.all_nil,qhH,qG8];rfl) rfl ?_
 simp only[cfA,qG8,hl,List.cons_append,List.nil_append,List.length_replicate,push_cast,reduceIte,reduceEqDiff,reduceAdd,reduceSub,reduceMul,Nat.reduceBEq,reduceLT,reduceLeDiff,reduceCtorEq,reduceToNat,reduceNeg,cNI]
 refine⟨⟨by omega,by omega,by omega⟩,?_⟩
 exact qIu g hg l n hn f Q hs .bot h29
end Go.Proofs.YtecoaapkcnhlhaaDoor
namespace Go.Proofs.YtecoaapkcnhlhaaDoor
open Go Go.Vc Go.Ham Txt
def qIw:PV:= .tup [.agg (cfgC true cfg0),.int 0,.int 380]
def cfV(g:Grid):List PV:=[.view 109 0 (cN g),.view 111 0 g.kind.length,.view 113 0 g.kind.length,.view 115 0 g.kind.length]
def qIx(g:Grid)(n:Nat)(C:List PV):List (Nat×List PV):=[(2,quQ false g),(4,cfV g),(8,[.bv 31 1 n]),(16,cfV g),(17,[.view 74 0 n]),(18,[.clo 57 [8,17]]),(31,C),(102,quQ false g),(103,[.ptr 16 0]),(105,[.int (quU g)]),(204,[.bot])]
theorem qIy{l:List Int}{n:Nat}(h:l.length=n):l.take n=l:=List.take_of_length_le (by omega)
set_option maxHeartbeats 4000000 in
theorem qIz (g : Grid) (hg : GOk g) (c : Cfg) (hc : CfgLn g c) (f : Int) (T : List (Nat × PV)) (hT : qhk [0, 126, 2, 4, 7, 16] T = []) (n : Nat) (C : List PV) (hC : ∀ pb pa, anyT pb pa C = false) (L : List Int) (Q : Exit -> St -> Prop)
  (hE:validE g c≠0-> ∀T B A,lk B 4=some [.nil,.nil,.nil,.nil]->Q .ret ⟨(4,.ptr 4 0)::(5,.int 0)::(6,.int 380)::T,B,A,[]⟩)
  (hQ:validE g c=0->Q .ret ⟨[(4,.ptr 4 0),(5,.int f),(6,.int 0),(7,.int f),(16,.ptr 16 0),(124,.agg (cfV g)),(125,.int f)],qIx g n C,datA L c,[]⟩):
  awp (Env.of Tryd.prog) ac34_r36 Q ⟨[(2,.ptr 2 0),(4,.ptr 4 0),(7,.int f),(8,.ptr 8 0),(16,.ptr 16 0)]++T,qIs g n C,datA L c,[]⟩:=by
 obtain⟨l1,l2,l3,l4⟩:=hc.lens
 have hv:=qyr g hg c (by have hw:=hg.wh;have hk:=hg.kind;have hc0:=hg.count;have hn:=hg.n;have hcc:=hn.c;exact⟨by omega,by omega,by omega,by omega⟩)
 simp only[ac34_r36,hT,qIs,qIq,qIp,datA,qIy l1,qIy l2,qIy l3,qIy l4,push_cast,reduceIte,reduceEqDiff,reduceAdd,reduceSub,reduceMul,Nat.reduceBEq,reduceLT,reduceLeDiff,reduceCtorEq,reduceToNat,reduceNeg,cNI]
 refine qrr hv (by exact⟨.refl _,.refl _,trivial⟩) ?_
 refine sB ?_
 refine qnU (fun h=> ?_) fun h=> ?_
 ·exact hE h _ _ _ rfl
 ·exact hQ (Classical.not_not.1 h)
set_option maxHeartbeats 4000000 in
theorem qIB (g : Grid) (hg : GOk g) (l : List (List Nat)) (n x : Nat) (hn : n = wN g + 1) (hx : x < n) (f : Int) (c : Cfg) (L : List Int) (hL : L.length = n) (hLx : L.getD x default = qDj g x) (hs : (datD l x).length = nW (qDj g x)) (Q : Exit -> St -> Prop)
  (hE: ¬qC1 (datF l x) (qDj g x)-> ∀T B A,lk B 4=some [.nil,.nil,.nil,.nil]->Q .ret ⟨(4,.ptr 4 0)::(5,.int 0)::(6,.int 380)::T,B,A,[]⟩)
  (hQ:qC1 (datF l x) (qDj g x)-> ∀T y,qhk [0,126,2,4,7,8,16,17,18,98,99] T=[]->Q .normal ⟨[(2,.ptr 2 0),(4,.ptr 4 0),(7,.int f),(8,.ptr 8 0),(16,.ptr 16 0),(17,.ptr 17 0),(18,.ptr 18 0),(22,.int x),(98,.int n),(99,.int x)]++T,qIs g n (outC datW n (datD l) n),datA (L.set x y) c,[]⟩) (T:List (Nat×PV)) (hT:qhk [0,126,2,4,7,8,16,17,18,98,99] T=[]):
  awp (Env.of Tryd.prog) ac34_r31 Q ⟨[(2,.ptr 2 0),(4,.ptr 4 0),(7,.int f),(8,.ptr 8 0),(16,.ptr 16 0),(17,.ptr 17 0),(18,.ptr 18 0),(98,.int n),(99,.int x)]++T,qIs g n (outC datW n (datD l) n),datA L c,[]⟩:=by
 have hw2:=hg.n.w2
 have hbd:qDj g x<=1000000000:=qDO hg List.prefix_rfl x
 have hnw:=qIo (qDj g x)
 have hnw2:nW (qDj g x)<=100000000:=by unfold nW;omega
 have hnw3:57*nW (qDj g x)<=1000000056:=by unfold nW;omega
 have hcl:(outC datW n (datD l) n).length=n:=qG2 _ _ _
 have hLs: ∀y,(L.set x y).getD x default=y:=fun y=>by rw[List.getD_eq_getElem?_getD,List.getElem?_set_self (by omega)];rfl
 have hLset: ∀y z,(L.set x y).set x z=L.set x z:=fun y z=>List.set_set ..
 have hL0:L.set x ((qDj g x:Nat):Int)=L:=by
  rw[<- hLx]
  apply List.ext_getElem (by simp)
  intro j h1 h2
  rw[List.getElem_set]
  split
  ·next e=>subst e;simp[List.getD_eq_getElem?_getD,h2]
  ·rfl
 simp only[ac34_r31,hT,push_cast,reduceIte,reduceEqDiff,reduceAdd,reduceSub,reduceMul,Nat.reduceBEq,reduceLT,reduceLeDiff,reduceCtorEq,reduceToNat,reduceNeg,cNI]
 refine qoK (fun j st=> ∃p:Nat,qDj g x<=p/\p<=57*nW (qDj g x)/\j=57*nW (qDj g x)-p/\(∀q,qDj g x<=q->q<p->(unW (datF l x)).getD q false=false)/\st=⟨[(2,.ptr 2 0),(4,.ptr 4 0),(7,.int f),(8,.ptr 8 0),(16,.ptr 16 0),(17,.ptr 17 0),(18,.ptr 18 0),(22,.int x),(98,.int n),(99,.int x)],qIs g n (outC datW n (datD l) n),datA (L.set x p) c,[]⟩) (57*nW (qDj g x)-qDj g x) ⟨_,SWk.refl _,qDj g x,by omega,by omega,rfl,fun q h1 h2=>by omega,by simp only[push_cast,reduceIte,reduceEqDiff,reduceAdd,reduceSub,reduceMul,Nat.reduceBEq,reduceLT,reduceLeDiff,reduceCtorEq,reduceToNat,reduceNeg,cNI];rw[hL0]⟩ ?_
 rintro j st ⟨p,hp1,hp2,rfl,hz,rfl⟩
 have hcell:(outC datW n (datD l) n).getD x .bot=outP datW (datD l) x:=by
  simp only[outC,List.getD_eq_getElem?_getD,List.getElem?_map,List.getElem?_range hx,Option.map_some,Option.getD_some,if_pos hx]
 have hlenV:lenV (outP datW (datD l) x)=(True,.int (nW (qDj g x):Nat)):=by
  unfold outP
  split
  ·next h=>rw[<- hs,h];rfl
  ·rw[<- hs];simp only[qER,List.length_map,push_cast,reduceIte,reduceEqDiff,reduceAdd,reduceSub,reduceMul,Nat.reduceBEq,reduceLT,reduceLeDiff,reduceCtorEq,reduceToNat,reduceNeg,cNI]
 simp only[qIs,qIq,qIp,datA,hcl,hcell,hlenV,hLs,hL,List.length_set,List.cons_append,List.nil_append,Nat.mul_one,qF8,push_cast,reduceIte,reduceEqDiff,reduceAdd,reduceSub,reduceMul,Nat.reduceBEq,reduceLT,reduceLeDiff,reduceCtorEq,reduceToNat,reduceNeg,cNI]
 refine⟨⟨by omega,by omega⟩,hx,⟨by omega,by omega⟩,by omega,⟨by omega,by omega⟩,qnU (fun h=> ?_) fun h=> ?_⟩
 ·have hp3:p<57*nW (qDj g x):=by omega
  have hq57:p/57<(datD l x).length:=by omega
  have hbit:(datW ((datD l x).getD (p/57) 0)).testBit (p%57)=(unW (datF l x)).getD p false:=(qIe l x p).resolve_right (by omega)
  have hnx:=qI1 (E:=Env.of Tryd.prog) rfl (Nat.zero_le _) (fun _ _ h=>h) (s:=[(2,.ptr 2 0),(4,.ptr 4 0),(7,.int f),(8,.ptr 8 0),(16,.ptr 16 0),(17,.ptr 17 0),(18,.ptr 18 0),(22,.int x),(98,.int n),(99,.int x),(113,.clo 57 [8,17]),(114,.int x)]) rfl n x hx (by omega) (datD l) (qIs g n (outC datW n (datD l) n)) (datA (L.set x p) c) (L.set x p) [] rfl rfl rfl rfl (by rw[List.length_set,hL]) p (hLs _) hq57 (by omega)
  rw[hbit,hLset]at hnx
  refine qsL hnx ?_
  cases hv:(unW (datF l x)).getD p false with
  |false=>
    simp only[Bool.toNat_false,push_cast,reduceIte,reduceEqDiff,reduceAdd,reduceSub,reduceMul,Nat.reduceBEq,reduceLT,reduceLeDiff,reduceCtorEq,reduceToNat,reduceNeg,cNI]
    refine qnU (fun h=>absurd rfl h) fun _=> ?_
    refine⟨_,SWk.refl _,57*nW (qDj g x)-(p+1),by omega,p+1,by omega,by omega,rfl,fun q h1 h2=> ?_,rfl⟩
    by_cases e:q=p
    ·rw[e];exact hv
    ·exact hz q h1 (by omega)
  |true=>
    simp only[Bool.toNat_true,qIs,qIq,qIp,List.cons_append,List.nil_append,push_cast,reduceIte,reduceEqDiff,reduceAdd,reduceSub,reduceMul,Nat.reduceBEq,reduceLT,reduceLeDiff,reduceCtorEq,reduceToNat,reduceNeg,cNI]
    refine qnU (fun _=> ?_) fun h=>absurd (by decide) h
    refine hE (fun hr=> ?_) _ _ _ rfl
    have:=hr p hp1
    rw[hv]at this
    cases this
 ·obtain rfl:p=57*nW (qDj g x):=by omega
  refine hQ (fun q hq=> ?_) [(102,.view 74 0 n),(103,.int x),(104,.eptr 74 x 0),(105,.int (57*nW (qDj g x):Nat)),(106,.bv 31 1 n),(107,.int x),(108,.ptr 31 x),(109,outP datW (datD l) x),(110,.int (nW (qDj g x):Nat)),(111,.int (57*(nW (qDj g x):Nat))),(112,.bool (decide (((57*nW (qDj g x):Nat):Int)<57*(nW (qDj g x):Nat))))] _ rfl
  by_cases h2:q<57*nW (qDj g x)
  ·exact hz q hq h2
  ·rw[List.getD_eq_getElem?_getD,List.getElem?_eq_none (by rw[qBF];unfold datF;rw[List.length_map];have:(l.getD x []).length=nW (qDj g x):=hs;omega)]
   rfl
end Go.Proofs.YtecoaapkcnhlhaaDoor
namespace Go.Proofs.YtecoaapkcnhlhaaDoor
open Go Go.Vc Go.Ham Txt
set_option maxHeartbeats 400000 in
theorem qIC (g : Grid) (hg : GOk g) (l : List (List Nat)) (n : Nat) (hn : n = wN g + 1) (hl : l.length = n) (f : Int) (c : Cfg) (hc : CfgLn g c) (L : List Int) (hL : L.length = n) (hLx : ∀ x, x < n -> L.getD x default = qDj g x) (hs : ∀ x, x <= wN g -> (datD l x).length = nW (qDj g x)) (Q : Exit -> St -> Prop)
  (hE: ¬((∀x,x<wN g+1->qC1 (datF l x) (qDj g x))/\validE g c=0)-> ∀T B A,lk B 4=some [.nil,.nil,.nil,.nil]->Q .ret ⟨(4,.ptr 4 0)::(5,.int 0)::(6,.int 380)::T,B,A,[]⟩)
  (hQ:(∀x,x<wN g+1->qC1 (datF l x) (qDj g x))->validE g c=0-> ∀L',Q .ret ⟨[(4,.ptr 4 0),(5,.int f),(6,.int 0),(7,.int f),(16,.ptr 16 0),(124,.agg (cfV g)),(125,.int f)],qIx g n (outC datW n (datD l) n),datA L' c,[]⟩):
  awp (Env.of Tryd.prog) ac34_r29 Q ⟨decS l f,qIs g n (outC datW n (datD l) n),datA L c,[]⟩:=by
 have hw2:=hg.n.w2
 simp only[ac34_r29,decS,hl,push_cast,reduceIte,reduceEqDiff,reduceAdd,reduceSub,reduceMul,Nat.reduceBEq,reduceLT,reduceLeDiff,reduceCtorEq,reduceToNat,reduceNeg,cNI]
 refine qoK (fun j st=> ∃(k:Nat) (L' :List Int),k<=n/\j=n-k/\L'.length=n/\(∀x,k<=x->x<n->L'.getD x default=qDj g x)/\(∀x,x<k->qC1 (datF l x) (qDj g x))/\st=⟨[(2,.ptr 2 0),(4,.ptr 4 0),(7,.int f),(8,.ptr 8 0),(16,.ptr 16 0),(17,.ptr 17 0),(18,.ptr 18 0),(98,.int n),(99,.int k)],qIs g n (outC datW n (datD l) n),datA L' c,[]⟩) n ⟨_,SWk.refl _,0,L,by omega,by omega,hL,fun x _ h=>hLx x h,fun x h=>absurd h (Nat.not_lt_zero _),by simp only[push_cast,reduceIte,reduceEqDiff,reduceAdd,reduceSub,reduceMul,Nat.reduceBEq,reduceLT,reduceLeDiff,reduceCtorEq,reduceToNat,reduceNeg,cNI]⟩ ?_
 rintro j st ⟨k,L',hk,rfl,hL',hLk,hz,rfl⟩
 refine sB ?_
 refine qnU (fun h=> ?_) fun h=> ?_
 ·have hk' :k<n:=by omega
  have e1:=hLk k (by omega) hk'
  have e2:=hs k (by omega)
  refine qIB g hg l n k hn hk' f c L' hL' e1 e2 _ ?_ ?_ [(100,.bool (decide ((k:Int)<n)))] ?_
  ·exact fun hr T B A h=>hE (fun hh=>hr (hh.1 k (by omega))) T B A h
  ·intro hr T y hT
   simp only[List.cons_append,List.nil_append,qho,hT,push_cast,reduceIte,reduceEqDiff,reduceAdd,reduceSub,reduceMul,Nat.reduceBEq,reduceLT,reduceLeDiff,reduceCtorEq,reduceToNat,reduceNeg,cNI]
   refine⟨⟨by omega,by omega⟩,_,SWk.refl _,n-(k+1),by omega,k+1,L'.set k y,by omega,rfl,by rw[List.length_set,hL'],fun x h1 h2=> ?_,fun x h1=> ?_,rfl⟩
   ·have:=hLk x (by omega) h2
    rw[List.getD_eq_getElem?_getD,List.getElem?_set_ne (by omega),<- List.getD_eq_getElem?_getD]
    exact this
   ·by_cases e:x=k
    ·rw[e];exact hr
    ·exact hz x (by omega)
  ·exact sC
 ·obtain rfl:k=n:=by omega
  refine qIz g hg c hc f [(17,.ptr 17 0),(18,.ptr 18 0),(98,.int k),(99,.int k),(100,.bool (decide ((k:Int)<k)))] sC k _ (fun _ _=>qG8 _ _ _ _) L' Q (fun hv T B A h=>hE (fun hh=>hv hh.2) T B A h) fun hv=> ?_
  exact hQ (fun x hx=>hz x (by omega)) hv L'
end Go.Proofs.YtecoaapkcnhlhaaDoor
namespace Go.Proofs.YtecoaapkcnhlhaaDoor
open Go Go.Vc Go.Ham Txt
def qID(g:Grid)(l:List (List Nat)):PV:= .tup [.agg (cfgC true (decC g fun x=>unW (datF l x))),.int (cntF l:Nat),.int 0]
theorem qIE(g:Grid)(l:List (List Nat)):qGH l=(qDk g).map Int.ofNat ↔ l.map List.length=qDk g:=by
 have e:qGH l=(l.map List.length).map Int.ofNat:=by unfold qGH;rw[List.map_map];rfl
 rw[e]
 constructor
 ·intro h
  have hi:Function.Injective Int.ofNat:=fun a b h=>Int.ofNat.inj h
  exact(List.map_inj_right fun a b h=>hi h).1 h
 ·intro h;rw[h]
theorem qIF(g:Grid):(qDk g).length=wN g+1:=by simp[qDk]
theorem qIG{g:Grid}{l:List (List Nat)}(h:l.map List.length=qDk g){x:Nat}(hx:x<=wN g):(datD l x).length=nW (qDj g x):=by
 have hl:l.length=wN g+1:=by have:=congrArg List.length h;simpa[qDk]using this
 have:=congrArg (fun l=>l[x]?) h
 simp only[qDk,List.getElem?_map,List.getElem?_range (show x<wN g+1 by omega),Option.map_some]at this
 rw[List.getElem?_eq_getElem (by omega)]at this
 unfold datD
 rw[List.getD_eq_getElem?_getD,List.getElem?_eq_getElem (by omega)]
 simpa using this
theorem qIH{g:Grid}(hg:GOk g)(l:List (List Nat)):CfgLn g (cfP g l (qCe g)):=(qDf hg (strB l)).1
set_option maxHeartbeats 1000000 in
theorem qII(g:Grid)(hg:GOk g)(l:List (List Nat))(hl:FrmSm l)(r:PV)(hp:r=qID g l\/r=qIw)(h1:Dec38 g l->r=qID g l)(h2: ¬Dec38 g l->r=qIw):FnEq Tryd.prog 34 [.agg (quQ false g),.sl false 1 (rows (frmC false) l)] r:=by
 have hsz:=qE1 g hg
 have hw2:=hg.n.w2
 have heq:=qGK l hl ((qDk g).map Int.ofNat) (by rw[List.length_map,qIF];omega)
 have hP:Perm r:=by
  rcases hp with rfl|rfl
  ·unfold qID;simp only[push_cast,reduceIte,reduceEqDiff,reduceAdd,reduceSub,reduceMul,Nat.reduceBEq,reduceLT,reduceLeDiff,reduceCtorEq,reduceToNat,reduceNeg,cNI];exact⟨fun _ _=>trivial,fun _ _=>trivial,fun _ _=>trivial,fun _ _=>trivial⟩
  ·unfold qIw;simp only[cfg0,push_cast,reduceIte,reduceEqDiff,reduceAdd,reduceSub,reduceMul,Nat.reduceBEq,reduceLT,reduceLeDiff,reduceCtorEq,reduceToNat,reduceNeg,cNI];simp
 refine FnEq.of_awp Tryd.func34 ok34 (by show 2<=_;decide) hP ?_
 have hE: ¬Dec38 g l-> ∀T B A,lk B 4=some [.nil,.nil,.nil,.nil]->retK [RV.cell 4 true 4,RV.tmp 5,RV.tmp 6] (fun x=>Sub x r) .ret ⟨(4,.ptr 4 0)::(5,.int 0)::(6,.int 380)::T,B,A,[]⟩:=by
  intro hn T B A hB
  rw[h2 hn]
  unfold qIw
  simp only[cfg0,hB,push_cast,reduceIte,reduceEqDiff,reduceAdd,reduceSub,reduceMul,Nat.reduceBEq,reduceLT,reduceLeDiff,reduceCtorEq,reduceToNat,reduceNeg,cNI]
  done
 simp only[ac34,rv34,push_cast,reduceIte,reduceEqDiff,reduceAdd,reduceSub,reduceMul,Nat.reduceBEq,reduceLT,reduceLeDiff,reduceCtorEq,reduceToNat,reduceNeg,cNI]
 refine qrr hsz sC ?_
 refine sB ?_
 refine qrr heq sC ?_
 refine sB ?_
 refine qnT (fun h=> ?_) fun h=> ?_
 ·have hne: ¬qGH l=(qDk g).map Int.ofNat:=by simpa using h
  rw[h2 fun h=>hne ((qIE g l).2 h.size)]
  unfold qIw
  simp only[cfg0,push_cast,reduceIte,reduceEqDiff,reduceAdd,reduceSub,reduceMul,Nat.reduceBEq,reduceLT,reduceLeDiff,reduceCtorEq,reduceToNat,reduceNeg,cNI]
 ·have hss:l.map List.length=qDk g:=(qIE g l).1 (by simpa using h)
  have hlen:l.length=wN g+1:=by have:=congrArg List.length hss;simpa[qDk]using this
  have hat:=fun x hx=>qIG (g:=g) hss (x:=x) hx
  have hdn:=hlen
  refine qHH g l hl _ (fun hb C' A=> ?_) ?_ [(23,.sl false 1 (rows (frmC false) l)),(24,.agg (quQ false g)),(25,.sl true 1 (ints ((qDk g).map Int.ofNat))),(26,.bool (decide (qGH l=(qDk g).map Int.ofNat))),(27,.bool (!decide (qGH l=(qDk g).map Int.ofNat)))] rfl
  ·refine hE (fun hd=> ?_) [(54,.agg [.nil,.nil,.nil,.nil])] _ _ ?_
   ·obtain⟨ws,hw,hx⟩:=List.all_eq_false.1 hb
    exact hx (hd.ok ws hw)
   ·rfl
  ·intro hok T hT
   rw[hlen]
   refine qIv g hg l (wN g+1) rfl hlen (cntF l:Nat) T hT _ (fun x hx=>hat x hx) ?_
   refine qIC g hg l (wN g+1) rfl hlen (cntF l:Nat) (cfP g l (qCe g)) (qIH hg l) (qDH g (qCe g)) (qDP g _) (fun x hx=>qDQ (by omega) _) (fun x hx=>hat x hx) _ ?_ ?_
   ·intro hn T B A hB
    exact hE (fun hd=>hn ⟨hd.rest,hd.valid⟩) T B A hB
   ·intro hr hv L'
    have hD:Dec38 g l:=⟨hss,fun ws hw=>List.all_eq_true.1 hok ws hw,hr,hv⟩
    obtain⟨l1,l2,l3,l4⟩:=(qIH hg l).lens
    rw[h1 hD]
    unfold qID
    rw[<- qIi]
    simp only[qIx,cfV,datA,qIy l1,qIy l2,qIy l3,qIy l4,qG8,push_cast,reduceIte,reduceEqDiff,reduceAdd,reduceSub,reduceMul,Nat.reduceBEq,reduceLT,reduceLeDiff,reduceCtorEq,reduceToNat,reduceNeg,cNI]
    exact⟨fun _ _=>trivial,fun _ _=>trivial,fun _ _=>trivial,fun _ _=>trivial⟩
end Go.Proofs.YtecoaapkcnhlhaaDoor
namespace Go.Proofs.YtecoaapkcnhlhaaDoor.Txt
open Go Go.Vc
set_option maxRecDepth 100000
def ac13:AC:=
 (.seq (.reg [0,16,0,1] [
 (aO 2 (.box (.t 0))),(aO 3 (.box (.t 1))),(aO 4 (.alc [.nil,zI]))])
 (.seq (.reg [0,16,2,3,4] [
 (aO 8 (.ld true 5 (.t 2))),(aO 9 (.ld true 4 (.t 3))),(aO 10 (.cal 33 [(.t 8),(.t 9)])),(aO 7 (.mv (.t 10))),(aO 11 (.ext (.t 7) 0)),(aO 12 (.ext (.t 7) 1)),(aO 5 (.mv (.t 11))),(aO 6 (.mv (.t 12)))])
 (.seq (.reg [0,16,4,5,6] [
 (aO 13 (.mv (.t 5))),(aO 14 (.mv (.t 6))),(aO 15 (.bld [.nil,zI] [(0,1,(.t 13)),(1,1,(.t 14))])),(aN (.sto 2 (.t 4) (.t 15)))])
 .ret)))
def rv13:List RV:=[.cell 4 true 2]
theorem ok13:fnOk Tryd.prog ac13 rv13 Tryd.f13=true:=by kernel_rfl

def ac14:AC:=
 (.seq (.reg [0,19,0,1] [
 (aO 2 (.box (.t 0))),(aO 4 (.alc [.nil,.nil,.nil,.nil,zI,zI]))])
 (.seq (.reg [0,19,1,2,4] [
 (aO 9 (.ld true 5 (.t 2))),(aO 10 (.mv (.t 1))),(aO 11 (.cal 34 [(.t 9),(.t 10)])),(aO 8 (.mv (.t 11))),(aO 12 (.ext (.t 8) 0)),(aO 13 (.ext (.t 8) 1)),(aO 14 (.ext (.t 8) 2)),(aO 5 (.alc [.nil,.nil,.nil,.nil])),(aN (.sto 4 (.t 5) (.t 12))),(aO 6 (.mv (.t 13))),(aO 7 (.mv (.t 14)))])
 (.seq (.reg [0,19,4,5,6,7] [
 (aO 15 (.ld true 4 (.t 5))),(aO 16 (.mv (.t 6))),(aO 17 (.mv (.t 7))),(aO 18 (.bld [.nil,.nil,.nil,.nil,zI,zI] [(0,4,(.t 15)),(4,1,(.t 16)),(5,1,(.t 17))])),(aN (.sto 6 (.t 4) (.t 18)))])
 .ret)))
def rv14:List RV:=[.cell 4 true 6]
theorem ok14:fnOk Tryd.prog ac14 rv14 Tryd.f14=true:=by kernel_rfl

def ac20:AC:=
 (.seq (.reg [0,16,0,1] [
 (aO 3 (.box (.t 1))),(aO 4 (.alc [.nil,zI]))])
 (.seq (.reg [0,16,0,3,4] [
 (aO 8 (.mv (.t 0))),(aO 9 (.ld true 3 (.t 3))),(aO 10 (.cal 43 [(.t 8),(.t 9)])),(aO 7 (.mv (.t 10))),(aO 11 (.ext (.t 7) 0)),(aO 12 (.ext (.t 7) 1)),(aO 5 (.mv (.t 11))),(aO 6 (.mv (.t 12)))])
 (.seq (.reg [0,16,4,5,6] [
 (aO 13 (.mv (.t 5))),(aO 14 (.mv (.t 6))),(aO 15 (.bld [.nil,zI] [(0,1,(.t 13)),(1,1,(.t 14))])),(aN (.sto 2 (.t 4) (.t 15)))])
 .ret)))
def rv20:List RV:=[.cell 4 true 2]
theorem ok20:fnOk Tryd.prog ac20 rv20 Tryd.f20=true:=by kernel_rfl

def ac21:AC:=
 (.seq (.reg [0,16,0] [
 (aO 2 (.alc [.nil,zI,.nil]))])
 (.seq (.reg [0,16,0,2] [
 (aO 7 (.mv (.t 0))),(aO 8 (.cal 44 [(.t 7)])),(aO 6 (.mv (.t 8))),(aO 9 (.ext (.t 6) 0)),(aO 10 (.ext (.t 6) 1)),(aO 11 (.ext (.t 6) 2)),(aO 3 (.mv (.t 9))),(aO 4 (.mv (.t 10))),(aO 5 (.mv (.t 11)))])
 (.seq (.reg [0,16,2,3,4,5] [
 (aO 12 (.mv (.t 3))),(aO 13 (.mv (.t 4))),(aO 14 (.mv (.t 5))),(aO 15 (.bld [.nil,zI,.nil] [(0,1,(.t 12)),(1,1,(.t 13)),(2,1,(.t 14))])),(aN (.sto 3 (.t 2) (.t 15)))])
 .ret)))
def rv21:List RV:=[.cell 2 true 3]
theorem ok21:fnOk Tryd.prog ac21 rv21 Tryd.f21=true:=by kernel_rfl

def ac9:AC:=
 (.seq (.reg [0,19,0] [
 (aO 1 (.box (.t 0))),(aO 2 (.mv (.c (.sc (.bool false)))))])
 (.seq (.rgs [
 ([0,19,1],[
 (aO 3 (.fa 0 (.t 1))),(aO 4 (.ld false 1 (.t 3))),(aO 5 (.dvd .rem true .u8 (.t 4) (.c (.sc (.int .u8 4))))),(aO 6 (.cmp .lss .u8 (.t 5) (.c (.sc (.int .u8 3))))),(aO 7 (.mv (.t 6))),⟨some 8,some (7,true),.fa 1 (.t 1)⟩,⟨some 9,some (7,true),.ld false 1 (.t 8)⟩,⟨some 10,some (7,true),.dvd .rem true .u8 (.t 9) (.c (.sc (.int .u8 4)))⟩,⟨some 11,some (7,true),.cmp .lss .u8 (.t 10) (.c (.sc (.int .u8 3)))⟩,(aO 12 (.pick (.t 7) (.t 11) (.c (.sc (.bool false))))),(aO 13 (.mv (.t 12))),⟨some 14,some (13,true),.fa 4 (.t 1)⟩]),([0,19,13,14],[
 ⟨some 15,some (13,true),.ld false 1 (.t 14)⟩,⟨some 16,some (13,true),.len (.t 15)⟩,⟨some 17,some (13,true),.cmp .leq .i64 (.t 16) (kI 40)⟩,(aO 18 (.pick (.t 13) (.t 17) (.c (.sc (.bool false))))),(aO 2 (.mv (.t 18)))])])
 .ret))
def rv9:List RV:=[.tmp 2]
theorem ok9:fnOk Tryd.prog ac9 rv9 Tryd.f9=true:=by kernel_rfl
end Go.Proofs.YtecoaapkcnhlhaaDoor.Txt
namespace Go.Proofs.YtecoaapkcnhlhaaDoor
open Go Go.Vc Go.Ham Txt
def fmdC(q:Bool)(L:List (List Nat))(e:Int):List PV:=[.sl q 1 (rows (frmC q) L),.int e]
@[push_cast] theorem qIJ(q:Bool)(L:List (List Nat))(e:Int):fmdC q L e=[.sl q 1 (rows (frmC q) L),.int e]:=rfl
noncomputable def encL (g:Grid) (c:Cfg):List (List Nat):=if validE g c=0 then qDl g c else[]
noncomputable def encE (g:Grid) (c:Cfg):Int:=if validE g c=0 then 0 else 310
theorem qIK(g:Grid)(hg:GOk g)(c:Cfg)(hs:CfgSm c):FnEq Tryd.prog 13 [.agg (quQ false g),.agg (cfgC false c)] (.agg (fmdC true (encL g c) (encE g c))):=by
 unfold encL encE
 by_cases h:validE g c=0
 ·rw[if_pos h,if_pos h]
  have he:=qGj g hg c hs h
  refine FnEq.of_awp Tryd.func13 ok13 (by show 2<=_;decide) (by simp only[push_cast,reduceIte,reduceEqDiff,reduceAdd,reduceSub,reduceMul,Nat.reduceBEq,reduceLT,reduceLeDiff,reduceCtorEq,reduceToNat,reduceNeg,cNI];simp) ?_
  simp only[ac13,rv13,push_cast,reduceIte,reduceEqDiff,reduceAdd,reduceSub,reduceMul,Nat.reduceBEq,reduceLT,reduceLeDiff,reduceCtorEq,reduceToNat,reduceNeg,cNI]
  refine qrr he sC ?_
  refine sB ?_
  exact fun _ _ _ _=>trivial
 ·rw[if_neg h,if_neg h]
  have he:=qFt g hg c hs h
  refine FnEq.of_awp Tryd.func13 ok13 (by show 2<=_;decide) (by simp only[push_cast,reduceIte,reduceEqDiff,reduceAdd,reduceSub,reduceMul,Nat.reduceBEq,reduceLT,reduceLeDiff,reduceCtorEq,reduceToNat,reduceNeg,cNI];simp) ?_
  simp only[ac13,rv13,push_cast,reduceIte,reduceEqDiff,reduceAdd,reduceSub,reduceMul,Nat.reduceBEq,reduceLT,reduceLeDiff,reduceCtorEq,reduceToNat,reduceNeg,cNI]
  refine qrr he sC ?_
  simp only[rows,List.map_nil,push_cast,reduceIte,reduceEqDiff,reduceAdd,reduceSub,reduceMul,Nat.reduceBEq,reduceLT,reduceLeDiff,reduceCtorEq,reduceToNat,reduceNeg,cNI]
def fldF(l:List (List Nat))(f:FlipA):List (List Nat):=if qHp l f then qH4 l f.x.toNat f.k.toNat f.b.toNat else[]
def fldE(l:List (List Nat))(f:FlipA):Int:=if qHp l f then 0 else 1
theorem qIL(l:List (List Nat))(hl:FrmSm l)(f:FlipA):FnEq Tryd.prog 20 [.sl false 1 (rows (frmC false) l),.agg (qHn f)] (.agg (fmdC true (fldF l f) (fldE l f))):=by
 have he:=qHr l hl f
 unfold qHq at he
 unfold fldF fldE
 refine FnEq.of_awp Tryd.func20 ok20 (by show 2<=_;decide) (by simp only[push_cast,reduceIte,reduceEqDiff,reduceAdd,reduceSub,reduceMul,Nat.reduceBEq,reduceLT,reduceLeDiff,reduceCtorEq,reduceToNat,reduceNeg,cNI];simp) ?_
 simp only[ac20,rv20,push_cast,reduceIte,reduceEqDiff,reduceAdd,reduceSub,reduceMul,Nat.reduceBEq,reduceLT,reduceLeDiff,reduceCtorEq,reduceToNat,reduceNeg,cNI]
 split at he
 ·next h=>
  simp only[if_pos h]
  refine qrr he sC ?_
  refine sB ?_
  exact fun _ _ _ _=>trivial
 ·next h=>
  simp only[if_neg h]
  refine qrr he sC ?_
  simp only[rows,List.map_nil,push_cast,reduceIte,reduceEqDiff,reduceAdd,reduceSub,reduceMul,Nat.reduceBEq,reduceLT,reduceLeDiff,reduceCtorEq,reduceToNat,reduceNeg,cNI]
def scdC(q:Bool)(L:List (List Nat))(n:Int)(bad:List Int):List PV:=[.sl q 1 (rows (frmC q) L),.int n,.sl q 1 (ints bad)]
@[push_cast] theorem qIM(q:Bool)(L:List (List Nat))(n:Int)(bad:List Int):scdC q L n bad=[.sl q 1 (rows (frmC q) L),.int n,.sl q 1 (ints bad)]:=rfl
theorem qIN(l:List (List Nat))(hl:FrmSm l):FnEq Tryd.prog 21 [.sl false 1 (rows (frmC false) l)] (.agg (scdC true (scrF l) (cntF l:Nat) (badN l l.length))):=by
 have he:=qHZ l hl
 unfold scrV at he
 refine FnEq.of_awp Tryd.func21 ok21 (by show 1<=_;decide) (by simp only[push_cast,reduceIte,reduceEqDiff,reduceAdd,reduceSub,reduceMul,Nat.reduceBEq,reduceLT,reduceLeDiff,reduceCtorEq,reduceToNat,reduceNeg,cNI];simp) ?_
 simp only[ac21,rv21,push_cast,reduceIte,reduceEqDiff,reduceAdd,reduceSub,reduceMul,Nat.reduceBEq,reduceLT,reduceLeDiff,reduceCtorEq,reduceToNat,reduceNeg,cNI]
 refine qrr he sC ?_
 refine sB ?_
 exact⟨fun _ _ _ _=>trivial,fun _ _=>trivial⟩
def dcdC(q:Bool)(c:Cfg)(n e:Int):List PV:=cfgC q c++[.int n,.int e]
@[push_cast] theorem qIO(q:Bool)(c:Cfg)(n e:Int):dcdC q c n e=[.sl q 1 (ints c.sel),.sl q 1 (ints c.mode),.sl q 1 (ints c.tab),.sl q 1 (ints c.ram),.int n,.int e]:=rfl
def decG(g:Grid)(l:List (List Nat)):Cfg:=decC g fun x=>unW (datF l x)
theorem qIP(g:Grid)(hg:GOk g)(l:List (List Nat))(hl:FrmSm l)(h:Dec38 g l):FnEq Tryd.prog 14 [.agg (quQ false g),.sl false 1 (rows (frmC false) l)] (.agg (dcdC true (decG g l) (cntF l:Nat) 0)):=by
 have he:=qII g hg l hl (qID g l) (.inl rfl) (fun _=>rfl) (fun hn=>absurd h hn)
 unfold qID at he
 refine FnEq.of_awp Tryd.func14 ok14 (by show 2<=_;decide) (by simp only[push_cast,reduceIte,reduceEqDiff,reduceAdd,reduceSub,reduceMul,Nat.reduceBEq,reduceLT,reduceLeDiff,reduceCtorEq,reduceToNat,reduceNeg,cNI];simp) ?_
 simp only[ac14,rv14,push_cast,reduceIte,reduceEqDiff,reduceAdd,reduceSub,reduceMul,Nat.reduceBEq,reduceLT,reduceLeDiff,reduceCtorEq,reduceToNat,reduceNeg,cNI]
 refine qrr he sC ?_
 refine sB ?_
 unfold decG
 exact⟨⟨fun _ _=>trivial,fun _ _=>trivial,fun _ _=>trivial,fun _ _=>trivial⟩,.refl _,.refl _,.refl _,.refl _⟩
theorem qIQ(g:Grid)(hg:GOk g)(l:List (List Nat))(hl:FrmSm l)(h: ¬Dec38 g l):FnEq Tryd.prog 14 [.agg (quQ false g),.sl false 1 (rows (frmC false) l)] (.agg (dcdC true cfg0 0 380)):=by
 have he:=qII g hg l hl qIw (.inr rfl) (fun hn=>absurd hn h) (fun _=>rfl)
 unfold qIw at he
 refine FnEq.of_awp Tryd.func14 ok14 (by show 2<=_;decide) (by simp only[cfg0,push_cast,reduceIte,reduceEqDiff,reduceAdd,reduceSub,reduceMul,Nat.reduceBEq,reduceLT,reduceLeDiff,reduceCtorEq,reduceToNat,reduceNeg,cNI];simp) ?_
 simp only[ac14,rv14,push_cast,reduceIte,reduceEqDiff,reduceAdd,reduceSub,reduceMul,Nat.reduceBEq,reduceLT,reduceLeDiff,reduceCtorEq,reduceToNat,reduceNeg,cNI]
 refine qrr he (by simp only[cfg0,push_cast,reduceIte,reduceEqDiff,reduceAdd,reduceSub,reduceMul,Nat.reduceBEq,reduceLT,reduceLeDiff,reduceCtorEq,reduceToNat,reduceNeg,cNI]) ?_
 simp only[cfg0,push_cast,reduceIte,reduceEqDiff,reduceAdd,reduceSub,reduceMul,Nat.reduceBEq,reduceLT,reduceLeDiff,reduceCtorEq,reduceToNat,reduceNeg,cNI]
 exact fun _ _=>trivial
theorem qIR(x:RawG)(hx:x.By):FnEq Tryd.prog 9 [.agg (qyE false x)] (.bool (decide (x.w%4<3/\x.h%4<3/\x.kind.length<=40))):=by
 have h1:=hx.w
 have h2:=hx.h
 refine FnEq.of_awp Tryd.func9 ok9 (by show 1<=_;decide) (by simp only[push_cast,reduceIte,reduceEqDiff,reduceAdd,reduceSub,reduceMul,Nat.reduceBEq,reduceLT,reduceLeDiff,reduceCtorEq,reduceToNat,reduceNeg,cNI]<;>first|exact fun _ _=>trivial|simp) ?_
 simp only[ac9,rv9,push_cast,reduceIte,reduceEqDiff,reduceAdd,reduceSub,reduceMul,Nat.reduceBEq,reduceLT,reduceLeDiff,reduceCtorEq,reduceToNat,reduceNeg,cNI]
 refine⟨⟨h1.1,h1.2,by decide⟩,?_⟩
 refine qrv rfl (fun h3=> ?_) fun h3=> ?_<;>simp only[push_cast,reduceIte,reduceEqDiff,reduceAdd,reduceSub,reduceMul,Nat.reduceBEq,reduceLT,reduceLeDiff,reduceCtorEq,reduceToNat,reduceNeg,cNI]
 ·refine⟨⟨h2.1,h2.2,by decide⟩,?_⟩
  refine qrv rfl (fun h4=> ?_) fun h4=> ?_<;>simp only[push_cast,reduceIte,reduceEqDiff,reduceAdd,reduceSub,reduceMul,Nat.reduceBEq,reduceLT,reduceLeDiff,reduceCtorEq,reduceToNat,reduceNeg,cNI]
  ·congr 1;rw[decide_eq_decide];omega
  ·rw[decide_eq_false (by omega)]
 ·rw[decide_eq_false (by omega)]
end Go.Proofs.YtecoaapkcnhlhaaDoor
namespace Go.Proofs.YtecoaapkcnhlhaaDoor
open Go Go.Vc Go.Ham Txt
theorem qIS{g:Grid}(hg:GOk g){c:Cfg}(hc:validE g c=0):Dec38 g (qDl g c)/\decG g (qDl g c)=c:=
 qDv hg hc (qDx g c) (fun ws hws=>List.all_eq_true.2 fun w hw=>by rw[qDA hws hw];rfl) fun x hx=>qDB hx
theorem qIT{g:Grid}(hg:GOk g){c:Cfg}(hc:validE g c=0){m:List (List Nat)}(h:Near (qDl g c) m):Dec38 g m/\decG g m=c/\scrF m=qDl g c/\ ∀ws∈m,qDm ws=true:=by
 obtain⟨h1,h2,h3⟩:=qHm (qDz g c) (fun ws hws w hw=>qDA hws hw) h
 obtain⟨a,b⟩:=qDv hg hc (l:=m) (by rw[h.size];exact qDx g c) h1 fun x hx=>by rw[h2 x];exact qDB hx
 exact⟨a,b,h3,h1⟩
theorem qIU{l:List (List Nat)}(h: ∀ws∈l,qDm ws=true):badN l l.length=[]:=by
 unfold badN
 have:(List.range l.length).filter (fun x=> !qDm (l.getD x []))=[]:=by
  rw[List.filter_eq_nil_iff]
  intro x hx
  have hx:=List.mem_range.1 hx
  rw[List.getD_eq_getElem?_getD,List.getElem?_eq_getElem hx]
  simp[h _ (List.getElem_mem hx)]
 rw[this];rfl
def gE:Grid:=⟨1,1,1,0,[1]⟩
def cE0:Cfg:=⟨[0,0,0,0,0,0,0,0],[0],[0],[0]⟩
def cE1:Cfg:=⟨[0,0,1,0,0,0,0,0],[0],[0],[0]⟩
theorem qIV:GOk gE:=⟨by decide,by decide,by decide,by decide,by decide⟩
theorem rE:(List.range 8).map (fun n:Nat=>(rdrF gE (n:Int)).length)=[0,0,2,2,2,2,3,3]:=by decide+kernel
theorem nbE:(List.range 8).map (fun n:Nat=>qC7 gE n)=[0,0,2,2,2,2,2,2]:=by
 have h:(fun n:Nat=>qC7 gE n)=fun n:Nat=>Go.Lib.bitLen (rdrF gE (n:Int)).length:=by
  funext n;unfold qC7;rw[qxW qIV]
 rw[h,show(fun n:Nat=>Go.Lib.bitLen (rdrF gE (n:Int)).length)=Go.Lib.bitLen ∘ fun n:Nat=>(rdrF gE (n:Int)).length from rfl,<- List.map_map,rE]
 decide
def fE:List Fld:=[⟨0,0,0,0⟩,⟨0,0,1,0⟩,⟨0,0,2,2⟩,⟨0,0,3,2⟩,⟨0,0,4,2⟩,⟨0,0,5,2⟩,⟨0,0,6,2⟩,⟨0,0,7,2⟩,⟨0,1,0,2⟩,⟨0,2,0,16⟩,⟨0,3,0,8⟩]
theorem qIW:qC8 gE 0 0 8=[⟨0,0,0,0⟩,⟨0,0,1,0⟩,⟨0,0,2,2⟩,⟨0,0,3,2⟩,⟨0,0,4,2⟩,⟨0,0,5,2⟩,⟨0,0,6,2⟩,⟨0,0,7,2⟩]:=by
 have h:=nbE
 simp only[List.range,List.range.loop,List.map_cons,List.map_nil,List.cons.injEq]at h
 obtain⟨h0,h1,h2,h3,h4,h5,h6,h7,-⟩:=h
 simp only[qC8,List.range,List.range.loop,List.map_cons,List.map_nil,Nat.zero_add,h0,h1,h2,h3,h4,h5,h6,h7]
theorem qIX:qCe gE=fE:=by
 have h:qCe gE=qC8 gE 0 0 8++qC9 0 0:=by
  show qCc gE 1++qC8 gE 1 8 0=_
  rw[show qCc gE 1=qCb gE 0 1 from by simp[qCc,List.range_succ,show hN gE=1 from rfl],show qCb gE 0 1=qCa gE 0 0 from by simp[qCb,List.range_succ],qCa]
  rfl
 rw[h,qIW];rfl
theorem vE{c:Cfg}(h0:qyk gE c)(h1: ∀i,i<c.sel.length->c.sel.getD i 0≠0->i=2/\c.sel.getD 2 0=1)(h2: ∀t,t<gE.kind.length->qym gE c t):validE gE c=0:=
 qyn h0 (fun i hi h=>by
  obtain⟨rfl,h3⟩:=h1 i hi h
  rw[h3,qxW qIV]
  decide+kernel) h2
theorem vE0:validE gE cE0=0:=vE (by decide+kernel) (by decide) (by decide)
theorem vE1:validE gE cE1=0:=vE (by decide+kernel) (by decide) (by decide)
theorem vEn:validE gE cfg0≠0:=by rw[qyo (by decide+kernel)];decide
theorem eE0:qDl gE cE0=[[0],[]]:=by
 unfold qDl
 rw[qIX]
 decide+kernel
theorem eE1:qDl gE cE1=[[15],[]]:=by
 unfold qDl
 rw[qIX]
 decide+kernel
theorem szE:qDk gE=[1,0]:=by
 unfold qDk qDj
 rw[qIX]
 decide+kernel
theorem qIY:Near [[15],[]] [[9223372036854775823],[]]:=by
 have h:=(Near.refl [[15],[]]).flip (x:=0) (k:=0) (b:=63) ⟨by decide,by decide⟩ (by decide) rfl
 exact h
theorem dgE:digF [[0],[]]≠digF [[15],[]]:=by decide+kernel
theorem dfE:qGn [[0],[]] [[15],[]]=[0]:=by decide
end Go.Proofs.YtecoaapkcnhlhaaDoor
namespace Go.Proofs.YtecoaapkcnhlhaaDoor.Txt
open Go Go.Vc
set_option maxRecDepth 100000
def ac8:AC:=
 (.seq (.reg [0,171] [
 (aO 0 (.mv (.c (.sc (.bool false)))))])
 (.seq (.reg [0,171] [
 (aO 10 (.bsl 1 3 [zI] 1 [(0,(kI 1))])),(aO 11 (.bld [zI,zI,zI,zI,.nil] [(0,1,(kI 1)),(1,1,(kI 1)),(2,1,(kI 1)),(4,1,(.t 10))])),(aO 1 (.alc [zI,zI,zI,zI,.nil])),(aN (.sto 5 (.t 1) (.t 11)))])
 (.seq (.reg [0,171,1] [
 (aO 12 (.mks 1 3 8 [zI] (kI 8) (kI 8))),(aO 13 (.bsl 1 3 [zI] 1 [(0,(kI 0))])),(aO 14 (.bsl 1 3 [zI] 1 [(0,(kI 0))])),(aO 15 (.bsl 1 3 [zI] 1 [(0,(kI 0))])),(aO 16 (.bld [.nil,.nil,.nil,.nil] [(0,1,(.t 12)),(1,1,(.t 13)),(2,1,(.t 14)),(3,1,(.t 15))])),(aO 2 (.alc [.nil,.nil,.nil,.nil])),(aN (.sto 4 (.t 2) (.t 16)))])
 (.seq (.reg [0,171,1,2] [
 (aO 17 (.ld true 5 (.t 1))),(aO 18 (.ld true 4 (.t 2))),(aO 19 (.cal 13 [(.t 17),(.t 18)])),(aO 3 (.alc [.nil,zI])),(aN (.sto 2 (.t 3) (.t 19)))])
 (.seq (.reg [0,171,1,2,3] [
 (aO 20 (.bsl 1 3 [zI] 8 [(0,(kI 0)),(1,(kI 0)),(2,(kI 1)),(3,(kI 0)),(4,(kI 0)),(5,(kI 0)),(6,(kI 0)),(7,(kI 0))])),(aO 21 (.fa 0 (.t 2))),(aN (.sto 1 (.t 21) (.t 20)))])
 (.seq (.reg [0,171,1,2,3] [
 (aO 22 (.ld true 5 (.t 1))),(aO 23 (.ld true 4 (.t 2))),(aO 24 (.cal 13 [(.t 22),(.t 23)])),(aO 4 (.alc [.nil,zI])),(aN (.sto 2 (.t 4) (.t 24)))])
 (.seq (.reg [0,171,1,2,3,4] [
 (aO 25 (.ld true 5 (.t 1))),(aO 26 (.fa 0 (.t 4))),(aO 27 (.ld false 1 (.t 26))),(aO 28 (.cal 14 [(.t 25),(.t 27)])),(aO 5 (.alc [.nil,.nil,.nil,.nil,zI,zI])),(aN (.sto 6 (.t 5) (.t 28)))])
 (.seq (.seq (.rgs [
 ([0,171,1,2,3,4,5],[
 (aO 29 (.fa 1 (.t 3))),(aO 30 (.ld false 1 (.t 29))),(aO 31 (.cmp .neq .i64 (.t 30) (kI 0))),(aO 32 (.mv (.t 31))),⟨some 33,some (32,false),.fa 0 (.t 3)⟩,⟨some 34,some (32,false),.ld false 1 (.t 33)⟩,⟨some 35,some (32,false),.bsl 1 54 [.sc (.int .u64 0)] 1 [(0,(.c (.sc (.int .u64 0))))]⟩,⟨some 36,some (32,false),.bld [.nil] [(0,1,(.t 35))]⟩,⟨some 37,some (32,false),.bld [.nil] []⟩,⟨some 38,some (32,false),.bsl 1 52 [.nil] 2 [(0,(.t 36)),(1,(.t 37))]⟩,⟨some 39,some (32,false),.cal 22 [(.t 34),(.t 38)]⟩,⟨some 40,some (32,false),.not (.t 39)⟩]),([0,171,1,2,3,4,5,32,40],[
 (aO 41 (.pick (.t 32) (.c (.sc (.bool true))) (.t 40))),(aO 42 (.mv (.t 41))),⟨some 43,some (42,false),.fa 1 (.t 4)⟩,⟨some 44,some (42,false),.ld false 1 (.t 43)⟩,⟨some 45,some (42,false),.cmp .neq .i64 (.t 44) (kI 0)⟩,(aO 46 (.pick (.t 42) (.c (.sc (.bool true))) (.t 45))),(aO 47 (.mv (.t 46))),⟨some 48,some (47,false),.fa 0 (.t 4)⟩,⟨some 49,some (47,false),.ld false 1 (.t 48)⟩,⟨some 50,some (47,false),.bsl 1 54 [.sc (.int .u64 0)] 1 [(0,(.c (.sc (.int .u64 15))))]⟩,⟨some 51,some (47,false),.bld [.nil] [(0,1,(.t 50))]⟩,⟨some 52,some (47,false),.bld [.nil] []⟩]),([0,171,1,2,3,4,5,47,49,51,52],[
 ⟨some 53,some (47,false),.bsl 1 52 [.nil] 2 [(0,(.t 51)),(1,(.t 52))]⟩,⟨some 54,some (47,false),.cal 22 [(.t 49),(.t 53)]⟩,⟨some 55,some (47,false),.not (.t 54)⟩,(aO 56 (.pick (.t 47) (.c (.sc (.bool true))) (.t 55))),(aO 57 (.mv (.t 56))),⟨some 58,some (57,false),.fa 5 (.t 5)⟩,⟨some 59,some (57,false),.ld false 1 (.t 58)⟩,⟨some 60,some (57,false),.cmp .neq .i64 (.t 59) (kI 0)⟩,(aO 61 (.pick (.t 57) (.c (.sc (.bool true))) (.t 60))),(aO 62 (.mv (.t 61))),⟨some 63,some (62,false),.fa 4 (.t 5)⟩,⟨some 64,some (62,false),.ld false 1 (.t 63)⟩]),([0,171,1,2,3,4,5,62,64],[
 ⟨some 65,some (62,false),.cmp .neq .i64 (.t 64) (kI 0)⟩,(aO 66 (.pick (.t 62) (.c (.sc (.bool true))) (.t 65))),(aO 67 (.mv (.t 66))),⟨some 68,some (67,false),.fa 0 (.t 5)⟩,⟨some 69,some (67,false),.ld true 4 (.t 68)⟩,⟨some 70,some (67,false),.ld true 4 (.t 2)⟩,⟨some 71,some (67,false),.cal 16 [(.t 69),(.t 70)]⟩,⟨some 72,some (67,false),.not (.t 71)⟩,(aO 73 (.pick (.t 67) (.c (.sc (.bool true))) (.t 72))),(aO 74 (.mv (.t 73))),⟨some 75,some (74,false),.ld true 5 (.t 1)⟩,⟨some 76,some (74,false),.cal 15 [(.t 75)]⟩]),([0,171,1,3,4,74,76],[
 ⟨some 77,some (74,false),.bsl 1 3 [zI] 2 [(0,(kI 1)),(1,(kI 0))]⟩,⟨some 78,some (74,false),.cal 23 [(.t 76),(.t 77)]⟩,⟨some 79,some (74,false),.not (.t 78)⟩,(aO 80 (.pick (.t 74) (.c (.sc (.bool true))) (.t 79)))])])
 (.cut [0,171,1,3,4,80] (.cond (.t 80)
 (.seq (.reg [0,171] [
 (aO 0 (.mv (.c (.sc (.bool false)))))])
 .ret)
 .skip)))
 (.seq (.reg [0,171,1,3,4] [
 (aO 81 (.fa 0 (.t 4))),(aO 82 (.ld false 1 (.t 81))),(aO 83 (.bld [zI,zI,zI] [(2,1,(kI 63))])),(aO 84 (.cal 20 [(.t 82),(.t 83)])),(aO 6 (.alc [.nil,zI])),(aN (.sto 2 (.t 6) (.t 84)))])
 (.seq (.reg [0,171,1,3,4,6] [
 (aO 85 (.fa 0 (.t 6))),(aO 86 (.ld false 1 (.t 85))),(aO 87 (.cal 21 [(.t 86)])),(aO 7 (.alc [.nil,zI,.nil])),(aN (.sto 3 (.t 7) (.t 87)))])
 (.seq (.reg [0,171,1,3,4,6,7] [
 (aO 88 (.ld true 5 (.t 1))),(aO 89 (.fa 0 (.t 6))),(aO 90 (.ld false 1 (.t 89))),(aO 91 (.cal 14 [(.t 88),(.t 90)])),(aO 8 (.alc [.nil,.nil,.nil,.nil,zI,zI])),(aN (.sto 6 (.t 8) (.t 91)))])
 (.seq (.reg [0,171,1,3,4,6,7,8] [
 (aO 92 (.ld true 5 (.t 1))),(aO 93 (.bld [.nil,.nil,.nil,.nil] [])),(aO 94 (.cal 13 [(.t 92),(.t 93)])),(aO 9 (.alc [.nil,zI])),(aN (.sto 2 (.t 9) (.t 94)))])
 (.seq (.drw [0,171,1,3,4,6,7,8,9] [
 (eF 95 (.fa 1 (.t 6))),(eF 96 (.ld false 1 (.t 95))),(eF 97 (.cmp .eql .i64 (.t 96) (kI 0))),(eF 98 (.mv (.t 97))),⟨⟨some 99,some (98,true),.fa 5 (.t 8)⟩,[],[],false⟩,⟨⟨some 100,some (98,true),.ld false 1 (.t 99)⟩,[],[],false⟩,⟨⟨some 101,some (98,true),.cmp .eql .i64 (.t 100) (kI 0)⟩,[],[],false⟩,(eF 102 (.pick (.t 98) (.t 101) (.c (.sc (.bool false))))),(eF 103 (.mv (.t 102))),⟨⟨some 104,some (103,true),.fa 4 (.t 8)⟩,[],[],false⟩,⟨⟨some 105,some (103,true),.ld false 1 (.t 104)⟩,[],[],false⟩,⟨⟨some 106,some (103,true),.cmp .eql .i64 (.t 105) (kI 1)⟩,[],[],false⟩,(eF 107 (.pick (.t 103) (.t 106) (.c (.sc (.bool false))))),(eF 108 (.mv (.t 107))),⟨⟨some 109,some (108,true),.fa 1 (.t 7)⟩,[],[],false⟩,⟨⟨some 110,some (108,true),.ld false 1 (.t 109)⟩,[],[],false⟩,⟨⟨some 111,some (108,true),.cmp .eql .i64 (.t 110) (kI 1)⟩,[],[],false⟩,(eF 112 (.pick (.t 108) (.t 111) (.c (.sc (.bool false))))),(eF 113 (.mv (.t 112))),⟨⟨some 114,some (113,true),.fa 2 (.t 7)⟩,[],[],false⟩,⟨⟨some 115,some (113,true),.ld false 1 (.t 114)⟩,[],[],false⟩,⟨⟨some 116,some (113,true),.len (.t 115)⟩,[],[],false⟩,⟨⟨some 117,some (113,true),.cmp .eql .i64 (.t 116) (kI 0)⟩,[],[],false⟩,(eF 118 (.pick (.t 113) (.t 117) (.c (.sc (.bool false))))),(eF 119 (.mv (.t 118))),⟨⟨some 120,some (119,true),.fa 0 (.t 7)⟩,[],[],true⟩,⟨⟨some 121,some (119,true),.ld false 1 (.t 120)⟩,[],[],true⟩,⟨⟨some 122,some (119,true),.fa 0 (.t 4)⟩,[],[],true⟩,⟨⟨some 123,some (119,true),.ld false 1 (.t 122)⟩,[],[],true⟩,⟨⟨some 124,some (119,true),.cal 22 [(.t 121),(.t 123)]⟩,[],[],false⟩,(eF 125 (.pick (.t 119) (.t 124) (.c (.sc (.bool false))))),(eF 126 (.mv (.t 125))),⟨⟨some 127,some (126,true),.fa 1 (.t 9)⟩,[],[],false⟩,⟨⟨some 128,some (126,true),.ld false 1 (.t 127)⟩,[],[],false⟩,⟨⟨some 129,some (126,true),.cmp .eql .i64 (.t 128) (kI 310)⟩,[],[],false⟩,(eF 130 (.pick (.t 126) (.t 129) (.c (.sc (.bool false))))),(eF 131 (.mv (.t 130))),⟨⟨some 132,some (131,true),.ld true 5 (.t 1)⟩,[],[],true⟩,⟨⟨some 133,some (131,true),.fa 0 (.t 4)⟩,[],[],true⟩,⟨⟨some 134,some (131,true),.ld false 1 (.t 133)⟩,[],[],true⟩,⟨⟨some 135,some (131,true),.slc 1 (.t 134) none (some (kI 1))⟩,[],[],true⟩,⟨⟨some 136,some (131,true),.cal 14 [(.t 132),(.t 135)]⟩,[],[],false⟩,⟨⟨some 137,some (131,true),.fl false 5 1 (.t 136)⟩,[],[],false⟩,⟨⟨some 138,some (131,true),.cmp .eql .i64 (.t 137) (kI 380)⟩,[],[],false⟩,(eF 139 (.pick (.t 131) (.t 138) (.c (.sc (.bool false))))),(eF 140 (.mv (.t 139))),⟨⟨some 141,some (140,true),.fa 0 (.t 4)⟩,[],[],true⟩,⟨⟨some 142,some (140,true),.ld false 1 (.t 141)⟩,[],[],true⟩,⟨⟨some 143,some (140,true),.bld [zI,zI,zI] [(0,1,(kI 1))]⟩,[],[],true⟩,⟨⟨some 144,some (140,true),.cal 20 [(.t 142),(.t 143)]⟩,[],[],false⟩,⟨⟨some 145,some (140,true),.fl false 1 1 (.t 144)⟩,[],[],false⟩,⟨⟨some 146,some (140,true),.cmp .eql .i64 (.t 145) (kI 1)⟩,[],[],false⟩,(eF 147 (.pick (.t 140) (.t 146) (.c (.sc (.bool false))))),(eF 148 (.mv (.t 147))),⟨⟨some 149,some (148,true),.ld true 5 (.t 1)⟩,[],[],false⟩,⟨⟨some 150,some (148,true),.cal 29 [(.t 149),(kI 8)]⟩,[],[],false⟩,⟨⟨some 151,some (148,true),.cmp .eql .i64 (.t 150) (kI (-1))⟩,[],[],false⟩,(eF 152 (.pick (.t 148) (.t 151) (.c (.sc (.bool false))))),(eF 153 (.mv (.t 152))),⟨⟨some 154,some (153,true),.fa 0 (.t 3)⟩,[],[159],true⟩,⟨⟨some 155,some (153,true),.ld false 1 (.t 154)⟩,[],[159],true⟩,⟨⟨some 156,some (153,true),.fa 0 (.t 4)⟩,[],[159],true⟩,⟨⟨some 157,some (153,true),.ld false 1 (.t 156)⟩,[],[159],true⟩,⟨⟨some 158,some (153,true),.cal 27 [(.t 155),(.t 157)]⟩,[],[159],true⟩,⟨⟨some 159,some (153,true),.bsl 1 3 [zI] 1 [(0,(kI 0))]⟩,[159],[],true⟩,⟨⟨some 160,some (153,true),.cal 23 [(.t 158),(.t 159)]⟩,[],[],false⟩,(eF 161 (.pick (.t 153) (.t 160) (.c (.sc (.bool false))))),(eF 162 (.mv (.t 161))),⟨⟨some 163,some (162,true),.fa 0 (.t 3)⟩,[],[],true⟩,⟨⟨some 164,some (162,true),.ld false 1 (.t 163)⟩,[],[],true⟩,⟨⟨some 165,some (162,true),.cal 28 [(.t 164)]⟩,[],[],true⟩,⟨⟨some 166,some (162,true),.fa 0 (.t 4)⟩,[],[],true⟩,⟨⟨some 167,some (162,true),.ld false 1 (.t 166)⟩,[],[],true⟩,⟨⟨some 168,some (162,true),.cal 28 [(.t 167)]⟩,[],[],false⟩,⟨⟨some 169,some (162,true),.cmp .neq .u64 (.t 165) (.t 168)⟩,[],[],false⟩,(eF 170 (.pick (.t 162) (.t 169) (.c (.sc (.bool false))))),(eF 0 (.mv (.t 170)))])
 .ret)))))))))))))
def rv8:List RV:=[.tmp 0]
theorem ok8:fnOk Tryd.prog ac8 rv8 Tryd.f8=true:=by kernel_rfl
end Go.Proofs.YtecoaapkcnhlhaaDoor.Txt
namespace Go.Proofs.YtecoaapkcnhlhaaDoor
open Go Go.Vc Go.Ham Txt
theorem frm2(w:Nat)(h:w<2^64):FrmSm [[w],[]]:=by
 refine⟨fun ws hws v hv=> ?_,by simp,fun ws hws=> ?_⟩
 ·rcases List.mem_cons.1 hws with rfl|hws
  ·obtain rfl:v=w:=by simpa using hv
   exact h
  ·obtain rfl:ws=[]:=by simpa using hws
   cases hv
 ·rcases List.mem_cons.1 hws with rfl|hws
  ·simp
  ·obtain rfl:ws=[]:=by simpa using hws
   simp
theorem smE(c:Cfg)(h:c.sel.length<=10/\c.mode.length<=10/\c.tab.length<=10/\c.ram.length<=10):CfgSm c:=⟨by omega,by omega,by omega,by omega⟩
theorem frm1(w:Nat)(h:w<2^64):FrmSm [[w]]:=by
 refine⟨fun ws hws v hv=> ?_,by simp,fun ws hws=> ?_⟩
 ·obtain rfl:ws=[w]:=by simpa using hws
  obtain rfl:v=w:=by simpa using hv
  exact h
 ·obtain rfl:ws=[w]:=by simpa using hws
  simp
theorem qIZ(q:Bool)(l:List (List Nat)):Sub (.sl q 1 (rows (frmC q) l)) (.sl false 1 (rows (frmC false) l)):=by
 unfold rows
 exact qFU _ _ (fun h=>by cases h) (fun _ _=>rfl) fun ws _=>⟨.slp _ _ _ _ (fun h=>by cases h),trivial⟩
theorem qJ0{p:Bool}{a b c d:PV}(h1:Sub a c)(h2:Sub b d):Sub (.sl p 1 [[a],[b]]) (.sl false 1 [[c],[d]]):=by
 refine .sl _ _ _ _ _ (fun h=>by cases h) rfl (fun i x y hx hy=> ?_) fun i x y j u v hx hy hu hv=> ?_
 ·match i,hx,hy with
  |0,hx,hy=>simp at hx hy;subst hx;subst hy;rfl
  |1,hx,hy=>simp at hx hy;subst hx;subst hy;rfl
  |i+2,hx,hy=>simp at hx
 ·match i,hx,hy with
  |0,hx,hy=>
    simp at hx hy;subst hx;subst hy
    match j,hu,hv with
    |0,hu,hv=>simp at hu hv;subst hu;subst hv;exact h1
    |j+1,hu,hv=>simp at hu
  |1,hx,hy=>
    simp at hx hy;subst hx;subst hy
    match j,hu,hv with
    |0,hu,hv=>simp at hu hv;subst hu;subst hv;exact h2
    |j+1,hu,hv=>simp at hu
  |i+2,hx,hy=>simp at hx
def qJ1:List DO:=[⟨⟨some 160,some (153,true),.cal 23 [(.t 158),(.t 159)]⟩,[],[],false⟩,
 ⟨⟨some 161,none,.pick (.t 153) (.t 160) (.c (.sc (.bool false)))⟩,[],[],false⟩,
 ⟨⟨some 162,none,.mv (.t 161)⟩,[],[],false⟩,
 ⟨⟨some 163,some (162,true),.fa 0 (.t 3)⟩,[],[],true⟩,
 ⟨⟨some 164,some (162,true),.ld false 1 (.t 163)⟩,[],[],true⟩,
 ⟨⟨some 165,some (162,true),.cal 28 [(.t 164)]⟩,[],[],true⟩,
 ⟨⟨some 166,some (162,true),.fa 0 (.t 4)⟩,[],[],true⟩,
 ⟨⟨some 167,some (162,true),.ld false 1 (.t 166)⟩,[],[],true⟩,
 ⟨⟨some 168,some (162,true),.cal 28 [(.t 167)]⟩,[],[],false⟩,
 ⟨⟨some 169,some (162,true),.cmp .neq .u64 (.t 165) (.t 168)⟩,[],[],false⟩,
 ⟨⟨some 170,none,.pick (.t 162) (.t 169) (.c (.sc (.bool false)))⟩,[],[],false⟩,
 ⟨⟨some 0,none,.mv (.t 170)⟩,[],[],false⟩]
def qJ2:List DO:=⟨⟨some 159,some (153,true),.bsl 1 3 [.sc (.int .i64 0)] 1 [(0,(.c (.sc (.int .i64 0))))]⟩,[159],[],true⟩::qJ1
def qJ3:List DO:=⟨⟨some 158,some (153,true),.cal 27 [(.t 155),(.t 157)]⟩,[],[159],true⟩::qJ2
def qJ4:List DO:=⟨⟨some 157,some (153,true),.ld false 1 (.t 156)⟩,[],[159],true⟩::qJ3
def qJ5:List DO:=⟨⟨some 156,some (153,true),.fa 0 (.t 4)⟩,[],[159],true⟩::qJ4
def qJ6:List DO:=⟨⟨some 155,some (153,true),.ld false 1 (.t 154)⟩,[],[159],true⟩::qJ5
set_option maxRecDepth 8000 in
set_option maxHeartbeats 1000000 in
theorem qJ7:FnEq Tryd.prog 8 [] (.bool true):=by
 have h1:=qIK gE qIV cE0 (smE _ (by decide))
 have h2:=qIK gE qIV cE1 (smE _ (by decide))
 have h3:=qIK gE qIV cfg0 (smE _ (by decide))
 obtain⟨d1,d2⟩:=qIS qIV vE1
 obtain⟨n1,n2,n3,n4⟩:=qIT qIV vE1 (m:=[[9223372036854775823],[]]) (by rw[eE1];exact qIY)
 unfold encL encE at h1 h2 h3
 rw[if_pos vE0,if_pos vE0,eE0]at h1
 rw[if_pos vE1,if_pos vE1,eE1]at h2
 rw[if_neg vEn,if_neg vEn]at h3
 rw[eE1]at d1 d2 n3
 have f15:=frm2 15 (by decide)
 have f0:=frm2 0 (by decide)
 have fb:=frm2 9223372036854775823 (by decide)
 have h4:=qIP gE qIV [[15],[]] f15 d1
 rw[d2,show cntF [[15],[]]=0 from by decide+kernel]at h4
 have h5:=qGt [[0],[]] [[0],[]] f0 f0
 have h6:=qGt [[15],[]] [[15],[]] f15 f15
 have h7:=qyx cE1 cE1 (smE _ (by decide)) (smE _ (by decide))
 have h8:=qE1 gE qIV
 rw[szE]at h8
 have h9:=qGm [1,0] [1,0] (by decide) (by decide)
 have h10:=qIL [[15],[]] f15 ⟨0,0,63⟩
 rw[show fldF [[15],[]] ⟨0,0,63⟩=[[9223372036854775823],[]]from by decide,show fldE [[15],[]] ⟨0,0,63⟩=0 from by decide]at h10
 have h11:=qIN [[9223372036854775823],[]] fb
 rw[n3,show cntF [[9223372036854775823],[]]=1 from by decide+kernel,qIU n4]at h11
 have h12:=qIP gE qIV [[9223372036854775823],[]] fb n1
 rw[n2,show cntF [[9223372036854775823],[]]=1 from by decide+kernel]at h12
 have h13:=qIQ gE qIV [[15]] (frm1 15 (by decide)) (fun h=>by have:=h.size;rw[szE]at this;revert this;decide)
 have h14:=qIL [[15],[]] f15 ⟨1,0,0⟩
 rw[show fldF [[15],[]] ⟨1,0,0⟩=[]from by decide,show fldE [[15],[]] ⟨1,0,0⟩=1 from by decide]at h14
 have h15:=qEU gE qIV 8 (by decide)
 rw[show colF gE 8= -1 from by decide]at h15
 have h16:=qGy [[0],[]] [[15],[]] f0 f15
 rw[dfE]at h16
 have h17:=qGm [0] [0] (by decide) (by decide)
 have h18:=qET [[0],[]] f0
 have h19:=qET [[15],[]] f15
 have hdg:=dgE
 generalize digF [[0],[]]=D0 at *
 generalize digF [[15],[]]=D1 at *
 refine FnEq.of_awp Tryd.func8 ok8 (by show 0<=_;decide) sC ?_
 simp only[ac8,rv8,push_cast,reduceIte,reduceEqDiff,reduceAdd,reduceSub,reduceMul,Nat.reduceBEq,reduceLT,reduceLeDiff,reduceCtorEq,reduceToNat,reduceNeg,cNI]
 repeat (refine And.intro (by decide) ?_)
 refine qrr h1 (by exact⟨.refl _,.refl _,trivial⟩) ?_
 refine sB ?_
 repeat (refine And.intro (by decide) ?_)
 refine qrr h2 (by exact⟨.refl _,.refl _,trivial⟩) ?_
 refine sB ?_
 repeat (refine And.intro (by decide) ?_)
 refine qrr h4 (by exact⟨.refl _,qIZ true _,trivial⟩) ?_
 refine sB ?_
 repeat (refine And.intro (by decide) ?_)
 refine qrw rfl (fun e=>absurd e (by decide)) fun _=> ?_
 refine sB ?_
 repeat (refine And.intro (by decide) ?_)
 refine qrr h5 (by exact⟨qIZ true _,qJ0 (.slp _ _ _ _ (fun h=>by cases h)) (.nil _ _),trivial⟩) ?_
 refine sB ?_
 repeat (refine And.intro (by decide) ?_)
 refine qrw rfl (fun e=>absurd e (by decide)) fun _=> ?_
 refine sB ?_
 repeat (refine And.intro (by decide) ?_)
 refine qrr h6 (by exact⟨qIZ true _,qJ0 (.slp _ _ _ _ (fun h=>by cases h)) (.nil _ _),trivial⟩) ?_
 refine sB ?_
 repeat (refine And.intro (by decide) ?_)
 refine qrw rfl (fun e=>absurd e (by decide)) fun _=> ?_
 refine sB ?_
 repeat (refine And.intro (by decide) ?_)
 refine qrw rfl (fun e=>absurd e (by decide)) fun _=> ?_
 refine sB ?_
 repeat (refine And.intro (by decide) ?_)
 refine qrr h7 (by exact⟨Sub.aggL ⟨.slp _ _ _ _ (fun h=>by cases h),.slp _ _ _ _ (fun h=>by cases h),.slp _ _ _ _ (fun h=>by cases h),.slp _ _ _ _ (fun h=>by cases h),trivial⟩,.refl _,trivial⟩) ?_
 refine sB ?_
 repeat (refine And.intro (by decide) ?_)
 refine qrr h8 (by exact⟨.refl _,trivial⟩) ?_
 refine sB ?_
 repeat (refine And.intro (by decide) ?_)
 refine qrr h9 (by exact⟨.slp _ _ _ _ (fun h=>by cases h),.slp _ _ _ _ (fun h=>by cases h),trivial⟩) ?_
 refine sB ?_
 repeat (refine And.intro (by decide) ?_)
 refine qrr h10 (by exact⟨qIZ true _,.refl _,trivial⟩) ?_
 refine sB ?_
 repeat (refine And.intro (by decide) ?_)
 refine qrr h11 (by exact⟨qIZ true _,trivial⟩) ?_
 refine sB ?_
 repeat (refine And.intro (by decide) ?_)
 refine qrr h12 (by exact⟨.refl _,qIZ true _,trivial⟩) ?_
 refine sB ?_
 repeat (refine And.intro (by decide) ?_)
 refine qrr h3 (by exact⟨.refl _,Sub.aggL ⟨.nil _ _,.nil _ _,.nil _ _,.nil _ _,trivial⟩,trivial⟩) ?_
 refine sB ?_
 repeat (refine And.intro (by decide) ?_)
 refine qrr h6 (by exact⟨qIZ true _,qIZ true _,trivial⟩) ?_
 refine sB ?_
 repeat (refine And.intro (by decide) ?_)
 refine qrr h13 (by exact⟨.refl _,qIZ true [[15]],trivial⟩) ?_
 refine sB ?_
 repeat (refine And.intro (by decide) ?_)
 refine qrr h14 (by exact⟨qIZ true _,.refl _,trivial⟩) ?_
 refine sB ?_
 repeat (refine And.intro (by decide) ?_)
 refine qrr h15 (by exact⟨.refl _,.refl _,trivial⟩) ?_
 generalize hKK:(fun st' :St=>dsK _ _ (st'.put (some 153) (st'.get 152)) _)=KK
 refine sB ?_
 subst hKK
 show dsK _ (⟨⟨some 154,some (153,true),.fa 0 (.t 3)⟩,[],[159],true⟩::qJ6) _ _
 refine sB ?_
 rw[qJ6]
 refine sB ?_
 rw[qJ5]
 refine sB ?_
 rw[qJ4]
 refine sB ?_
 rw[qJ3]
 refine sB ?_
 refine qrt h16 (by exact⟨qIZ true _,qIZ true _,trivial⟩) rfl ?_
 rw[qJ2]
 refine sB ?_
 repeat (refine And.intro (by decide) ?_)
 rw[qJ1]
 refine sB ?_
 refine qrr h17 (by exact⟨.slp _ _ _ _ (fun h=>by cases h),.refl _,trivial⟩) ?_
 refine sB ?_
 refine qrt h18 (by exact⟨qIZ true _,trivial⟩) rfl ?_
 refine sB ?_
 first|refine qrt h19 (by exact⟨qIZ true _,trivial⟩) rfl ?_|refine qrr h19 (by exact⟨qIZ true _,trivial⟩) ?_
 refine sB ?_
 exact congrArg Value.bool (decide_eq_true (fun e:(D0:Int)=D1=>hdg (Int.ofNat.inj e)))
end Go.Proofs.YtecoaapkcnhlhaaDoor
namespace Go.Proofs.YtecoaapkcnhlhaaDoor
open Go Go.Vc Go.Ham Txt
theorem qJ8{g:Grid}(hg:GOk g){c:Cfg}(h:qyk g c):CfgSm c:=by
 have hw:=hg.wh
 have hk:=hg.kind
 have hc0:=hg.count
 obtain⟨h1,h2,h3,h4⟩:=h
 exact⟨by omega,by omega,by omega,by omega⟩
set_option maxHeartbeats 1000000 in
theorem qJ9(g:Grid)(hg:GOk g)(c:Cfg)(h: ¬qyk g c):FnEq Tryd.prog 18 [.agg (quQ false g),.agg (cfgC false c)] (.int 310):=by
 have hc:=hg.count
 refine FnEq.of_awp Tryd.func18 ok18 (by show 2<=_;decide) (by simp only[push_cast,reduceIte,reduceEqDiff,reduceAdd,reduceSub,reduceMul,Nat.reduceBEq,reduceLT,reduceLeDiff,reduceCtorEq,reduceToNat,reduceNeg,cNI]<;>first|exact fun _ _=>trivial|simp) ?_
 simp only[ac18,rv18,push_cast,reduceIte,reduceEqDiff,reduceAdd,reduceSub,reduceMul,Nat.reduceBEq,reduceLT,reduceLeDiff,reduceCtorEq,reduceToNat,reduceNeg,cNI]
 refine qrt (quY g hg) sC rfl ?_
 refine sB ?_
 refine qrE ⟨[(2,.ptr 2 0),(3,.ptr 3 0),(39,.bool true)],[(2,quQ false g),(3,cfgC false c)],[],[]⟩ ?_ ?_
 ·unfold qyk at h
  repeat' (first
   |(refine qrA rfl (fun _=> ?_) fun _=> ?_<;>simp only[push_cast,reduceIte,reduceEqDiff,reduceAdd,reduceSub,reduceMul,Nat.reduceBEq,reduceLT,reduceLeDiff,reduceCtorEq,reduceToNat,reduceNeg,cNI])
   |(refine qrz rfl (fun _=> ?_) fun _=> ?_<;>simp only[push_cast,reduceIte,reduceEqDiff,reduceAdd,reduceSub,reduceMul,Nat.reduceBEq,reduceLT,reduceLeDiff,reduceCtorEq,reduceToNat,reduceNeg,cNI]))
  all_goals (rw[decide_eq_true (by omega)])
 ·exact sC
theorem qJb(g:Grid)(hg:GOk g)(c:Cfg)(h: ¬qyk g c):FnEq Tryd.prog 33 [.agg (quQ false g),.agg (cfgC false c)] (.tup [.nil,.int 310]):=by
 have hv:=qJ9 g hg c h
 refine FnEq.of_awp Tryd.func33 ok33 (by show 2<=_;decide) (by simp only[push_cast,reduceIte,reduceEqDiff,reduceAdd,reduceSub,reduceMul,Nat.reduceBEq,reduceLT,reduceLeDiff,reduceCtorEq,reduceToNat,reduceNeg,cNI]<;>first|exact fun _ _=>trivial|simp) ?_
 simp only[ac33,rv33,push_cast,reduceIte,reduceEqDiff,reduceAdd,reduceSub,reduceMul,Nat.reduceBEq,reduceLT,reduceLeDiff,reduceCtorEq,reduceToNat,reduceNeg,cNI]
 refine qrr hv (by exact⟨.refl _,.refl _,trivial⟩) ?_
 simp only[qFr,push_cast,reduceIte,reduceEqDiff,reduceAdd,reduceSub,reduceMul,Nat.reduceBEq,reduceLT,reduceLeDiff,reduceCtorEq,reduceToNat,reduceNeg,cNI]
 exact qnU (fun _=>trivial) fun h=>absurd (by decide) h
theorem qJc(g:Grid)(hg:GOk g)(c:Cfg):FnEq Tryd.prog 13 [.agg (quQ false g),.agg (cfgC false c)] (.agg (fmdC true (encL g c) (encE g c))):=by
 by_cases h:qyk g c
 ·exact qIK g hg c (qJ8 hg h)
 ·have hn:validE g c≠0:=by rw[qyo h];decide
  unfold encL encE
  rw[if_neg hn,if_neg hn]
  have he:=qJb g hg c h
  refine FnEq.of_awp Tryd.func13 ok13 (by show 2<=_;decide) (by simp only[push_cast,reduceIte,reduceEqDiff,reduceAdd,reduceSub,reduceMul,Nat.reduceBEq,reduceLT,reduceLeDiff,reduceCtorEq,reduceToNat,reduceNeg,cNI];simp) ?_
  simp only[ac13,rv13,push_cast,reduceIte,reduceEqDiff,reduceAdd,reduceSub,reduceMul,Nat.reduceBEq,reduceLT,reduceLeDiff,reduceCtorEq,reduceToNat,reduceNeg,cNI]
  refine qrr he sC ?_
  simp only[rows,List.map_nil,push_cast,reduceIte,reduceEqDiff,reduceAdd,reduceSub,reduceMul,Nat.reduceBEq,reduceLT,reduceLeDiff,reduceCtorEq,reduceToNat,reduceNeg,cNI]
def k3C(x:Int×Int×Int):List PV:=[.sc (.int .u8 x.1),.sc (.int .u8 x.2.1),.sc (.int .u8 x.2.2)]
@[push_cast] theorem qJd(x:Int×Int×Int):k3C x=[.sc (.int .u8 x.1),.sc (.int .u8 x.2.1),.sc (.int .u8 x.2.2)]:=rfl
structure Odd38 where
 L:List (List Nat)
 c:Cfg
 f:FlipA
 n:Int
 K:List (Int×Int×Int)
def qJe(q:Bool)(z:Odd38):List PV:=[.sl q 1 (rows (frmC q) z.L),.sl q 1 (ints z.c.sel),.sl q 1 (ints z.c.mode),.sl q 1 (ints z.c.tab),.sl q 1 (ints z.c.ram),.int z.f.x,.int z.f.k,.int z.f.b,.int z.n,.sl q 3 (rows k3C z.K)]
@[push_cast] theorem qJf(q:Bool)(z:Odd38):qJe q z=[.sl q 1 (rows (frmC q) z.L),.sl q 1 (ints z.c.sel),.sl q 1 (ints z.c.mode),.sl q 1 (ints z.c.tab),.sl q 1 (ints z.c.ram),.int z.f.x,.int z.f.k,.int z.f.b,.int z.n,.sl q 3 (rows k3C z.K)]:=rfl
end Go.Proofs.YtecoaapkcnhlhaaDoor
namespace Go.Proofs.YtecoaapkcnhlhaaDoor
open Go Go.Vc Txt
theorem qJh{g:Grid}{c:Cfg}(hl:CfgLn g c){t0:Nat}{b:Int}(hb:0<=b/\b<=255)(h: ∀t,t<g.kind.length->qym g c t): ∀t,t<g.kind.length->qym g (qyK g c t0 b) t:=by
 obtain⟨l1,l2,l3,l4⟩:=hl
 intro t ht
 have h0:=h t ht
 unfold qyK
 split
 ·exact h0
 ·rename_i hk
  split
  ·unfold qym
   simp only[qyT]
   by_cases e:t0=t
   ·subst e
    rw[if_pos ⟨rfl,by omega⟩,if_pos ⟨rfl,by omega⟩,if_pos ⟨rfl,by omega⟩]
    refine⟨by omega,?_,by simp;omega,by simp⟩
    unfold qwR
    rw[if_neg hk]
    split<;>simp
   ·rw[if_neg (fun q=>e q.1),if_neg (fun q=>e q.1),if_neg (fun q=>e q.1)]
    exact h0
  ·split
   ·unfold qym
    simp only[qyT]
    by_cases e:t0=t
    ·subst e
     rw[if_pos ⟨rfl,by omega⟩,if_pos ⟨rfl,by omega⟩,if_pos ⟨rfl,by omega⟩]
     refine⟨by omega,?_,by simp;omega,by simp;omega⟩
     unfold qwR
     rw[if_neg hk]
     split<;>simp
    ·rw[if_neg (fun q=>e q.1),if_neg (fun q=>e q.1),if_neg (fun q=>e q.1)]
     exact h0
   ·exact h0
theorem qJi{g:Grid}{l:List Int}(hb: ∀x∈l,0<=x/\x<=255): ∀j t,t<g.kind.length->qym g (qyM g l j) t
 | 0, t, ht => by
   have e: ∀n i,(List.replicate n (0:Int)).getD i 0=0:=fun n i=>by
    rw[List.getD_eq_getElem?_getD,List.getElem?_replicate]
    split<;>rfl
   unfold qym
   simp only[qyM,qx5,e]
   refine⟨by omega,?_,by simp,by simp⟩
   unfold qwR
   split
   ·simp
   ·split<;>simp
 | j + 1, t, ht => by
   have hx: ∀i,0<=l.getD i 0/\l.getD i 0<=255:=fun i=>by
    by_cases h:i<l.length
    ·exact hb _ (qyw h)
    ·rw[List.getD_eq_getElem?_getD,List.getElem?_eq_none (by omega)];decide
   have hs: ∀t,t<g.kind.length->qym g (selW g (qyM g l j) ((7*((2*j:Nat):Int)+l.getD (2*j) 0)%((qyM g l j).sel.length:Int)) (l.getD (2*j+1) 0)) t:=fun t ht=>by
    have:=qJi hb j t ht
    unfold selW
    split
    ·exact this
    ·exact this
   exact qJh (qyO (qyR g l j)) (hx _) hs t ht
theorem qJj{g:Grid}(hg:GOk g){l:List Int}(hb: ∀x∈l,0<=x/\x<=255):validE g (qyN g l)=0:=
 qyn (qyR g l _) (qyX hg l).sel (qJi hb _)
end Go.Proofs.YtecoaapkcnhlhaaDoor
namespace Go.Proofs.YtecoaapkcnhlhaaDoor
open Go Go.Vc Go.Ham Txt
theorem qJk(x:RawG)(c:Cfg):FrmSm (qDl (qyG x) c):=by
 have hg:=(qyI x).1
 have hn:=hg.n
 have hw:wN (qyG x)<=5:=by unfold wN qyG;simp only;omega
 have hh:hN (qyG x)<=5:=by unfold hN qyG;simp only;omega
 have he:eN (qyG x)<=14:=by unfold eN quU qyG;simp only;omega
 refine⟨qDz _ c,by rw[qDl,List.length_map,List.length_range];omega,fun ws hws=> ?_⟩
 obtain⟨y,hy,rfl⟩:=List.mem_map.1 hws
 rw[qDw]
 have h1:hN (qyG x)*(eN (qyG x)+3)<=5*17:=Nat.mul_le_mul hh (by omega)
 have h2:wN (qyG x)*(hN (qyG x)*(eN (qyG x)+3))<=5*(5*17):=Nat.mul_le_mul hw h1
 have h3:(qCe (qyG x)).length<=473:=by
  rw[qCe,List.length_append,qDL,qCd,qDJ]
  have:=hn.ce
  have hp:(2*(qyG x).pads).toNat=48:=rfl
  omega
 have h4:=qDI (m:=64) y (qCe (qyG x)) fun f hf=>qG1 (qCW hg hf)
 unfold nW
 omega
theorem qJl(g:Grid)(c:Cfg):(qDl g c).length=wN g+1:=by simp[qDl]
end Go.Proofs.YtecoaapkcnhlhaaDoor
