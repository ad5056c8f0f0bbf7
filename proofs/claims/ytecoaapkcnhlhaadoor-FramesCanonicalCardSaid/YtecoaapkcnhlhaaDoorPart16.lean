/- IX IN IO IP IQ IR IS IT TxtS JA JB TxtT JC JD JEa JE: lemmas -/
import Derived.Test.YtecoaapkcnhlhaaDoorPart15
import Derived.Test.YtecoaapkcnhlhaaDoorPart06
import Derived.Test.YtecoaapkcnhlhaaDoorChecked
import Derived.Test.YtecoaapkcnhlhaaDoorPart11
set_option linter.unusedSimpArgs false
set_option linter.unusedVariables false
open Bool renaming false_ne_true->zQ
open List renaming getD_eq_getElem?_getD->zK,getElem?_eq_getElem->zL,mem_of_getElem? ->zP,getElem?_map->zS,length_append->zU,map_cons->zW,mem_cons_self->zX,take_of_length_le->zY,take_succ_eq_append_getElem->zZ,all_eq_true->yE,length_set->yF,length_map->yG,map_append->yH
open Int renaming reduceToNat->zH,reduceNeg->zJ
open Nat renaming reduceEqDiff->zA,reduceAdd->zB,reduceSub->zC,reduceMul->zD,reduceBEq->zE,reduceLT->zF,reduceLeDiff->zG
namespace Go.Proofs.YtecoaapkcnhlhaaDoor
open Go Go.Vc Go.Ham Txt
def scrF(l:List (List Nat)):List (List Nat):=l.map fun ws=>ws.map fixW
def scrV(l:List (List Nat)):PV:= .tup [.sl true 1 (rows (frmC true) (scrF l)),.int (cntF l:Nat),.sl true 1 (ints (badN l l.length))]
theorem fz47(bad:List Int)(s s' :List (Nat×PV))(B:List (Nat×List PV))(rs:List (Option (List (List PV))))(hB:refB nul (isId 47) B=false)(hs:fzS 47 ⟨1,3,ints bad⟩ s=s')(hn:bad=[]->s=s'):SWk ⟨s,B,nlA 47 3 bad++qAZ 1 54 3000 rs,[]⟩ ⟨s',B,qAZ 1 54 3000 rs,[]⟩:=by
 by_cases hb:bad=[]
 ·rw[<- hn hb,hb]
  exact SWk.refl _
 ·obtain⟨y,b,rfl⟩:=List.exists_cons_of_ne_nil hb
  have hf:=SWk.frz ⟨s,B,nlA 47 3 (y::b)++qAZ 1 54 3000 rs,[]⟩ 47
  have e1: ∀b' :List (Nat×List PV),refB nul (isId 47) b' =false->fzB 47 ⟨1,3,ints (y::b)⟩ b' =b' :=by
   intro b'
   induction b' with
   |nil=>exact fun _=>rfl
   |cons x b' ih=>
     obtain⟨i,v⟩:=x
     intro h
     rw[qiq,Bool.or_eq_false_iff]at h
     rw[qjR,h.1,ih h.2];rfl
  rw[qkc]at hf
  simp only[nlA,List.cons_append,List.nil_append]at hf ⊢
  rw[show lk ((47,(⟨1,3,ints (y::b)⟩:Arr))::qAZ 1 54 3000 rs) 47=some ⟨1,3,ints (y::b)⟩from rfl,qka,qF9,hs,e1 B hB,qFa _ _ _ _ _ (by decide)]at hf
  exact hf
theorem qI4(r:Int)(s s' :List (Nat×PV))(l:List (List Nat))(hs: ∀j,3000<=j->farL j s)(h:(s.map fun x=>(x.1,x.2.fbV 2507 ((rsW l).map rowP)))=s'):SWk ⟨s,[(6,[.int r]),(2507,qAY 3000 (rsW l))],qAZ 1 54 3000 (rsW l),[]⟩ ⟨s',[(6,[.int r])],[],[]⟩:=by
 refine SWk.trans (SWk.frzRows (b1:=[(6,[.int r])]) (b2:=[]) (id:=2507) (k:=3000) [] (rsW l) hs (fun _ _=>rfl) (fun _ _=>rfl)) ?_
 exact SWk.frzB 2507 rfl (qH8 l) h rfl
def bdV(bad:List Int):PV:=match bad with|[]=> .nil|_::_=> .sl true 1 (ints bad)
theorem qI5(bad:List Int)(A:Arr)(rs:List (Option (List (List PV)))):((46,A)::(nlA 47 3 bad++qAZ 1 54 3000 rs)).filter (fun x=>x.1 !=46)=nlA 47 3 bad++qAZ 1 54 3000 rs:=by
 have h:=qBc 1 54 (fun x=>x.1 !=46) 3000 rs fun y r _=>bne_iff_ne.2 (show 3000+y≠46 by omega)
 rw[List.filter_cons_of_neg zQ,List.filter_append,h]
 congr 1
 cases bad<;>rfl
set_option maxHeartbeats 1000000 in
theorem qI6(l:List (List Nat))(hl:FrmSm l):FnEq Tryd.prog 44 [.sl false 1 (rows (frmC false) l)] (scrV l):=by
 have hn:=hl.n
 refine FnEq.of_awp Tryd.func44 ok44 (by show 1<=_;decide) (by unfold scrV;simp only[push_cast,reduceIte,zA,zB,zC,zD,zE,zF,zG,reduceCtorEq,zH,zJ,cNI];simp) ?_
 simp only[ac44,rv44,push_cast,reduceIte,zA,zB,zC,zD,zE,zF,zG,reduceCtorEq,zH,zJ,cNI]
 refine qDN [2507] (naK l.length) (qGW l hl) rfl rfl (qGZ l) ?_
 rw[qH3]
 have f6: ∀M,anyT (isId 6) nul (qAY 3000 (rsW M))=false:=fun M=>by rw[<- qhK];exact qB3 _ _ _ _ fun _ _=>rfl
 simp only[ac44_r5,f6,List.nil_append,push_cast,reduceIte,zA,zB,zC,zD,zE,zF,zG,reduceCtorEq,zH,zJ,cNI]
 refine qoO (fun m st=> ∃k:Nat,k<=l.length/\m=l.length-k/\st=⟨[(5,.bv 2507 1 l.length),(6,.ptr 6 0),(7,nlS 47 (badN l k)),(8,.clo 69 [6]),(16,.int l.length),(17,.int k)],scrB (cntF (l.take k):Nat) (mix (fun ws=>ws.map fixW) l k),nlA 47 3 (badN l k)++qAZ 1 54 3000 (rsW (mix (fun ws=>ws.map fixW) l k)),[]⟩) l.length ⟨_,SWk.refl _,0,oM,oM,?_⟩ ?_
 ·rw[qHQ]
  refine sB ?_
  rfl
 rintro m st ⟨k,hk,rfl,rfl⟩
 refine sB ?_
 have hbl:=qI2 l k
 have hcb:=qHM (l:=l.take k) fun ws hw=>hl.len ws (List.mem_of_mem_take hw)
 rw[List.length_take]at hcb
 refine qnY (fun h=> ?_) fun h=> ?_
 ·have hk' :k<l.length:=by omega
  obtain⟨ws,hws⟩: ∃ws,ws=l.getD k []:=⟨_,rfl⟩
  have hmem:ws∈l:=by rw[hws,zK,zL hk'];exact List.getElem_mem hk'
  have htk:l.take (k+1)=l.take k++[ws]:=by
   rw[zZ hk',hws,zK,zL hk'];rfl
  have hms:=qHV (fun ws:List Nat=>ws.map fixW) [] hk'
  rw[<- hws]at hms
  have hbs:=qI1 l k
  rw[<- hws]at hbs
  refine qI3 l.length k (mix (fun ws=>ws.map fixW) l k) (qHS _ _ _) hk' ws ((qHU _ [] hk').trans hws.symm) (hl.ok ws hmem) (hl.len ws hmem) (cntF (l.take k)) oM oM (badN l k) oM _ [(18,.bool (decide ((k:Int)<l.length))),(19,.int k)] sC ?_ ?_
  ·intro hk2
   simp only[scrB,push_cast,reduceIte,zA,zB,zC,zD,zE,zF,zG,reduceCtorEq,zH,zJ,cNI]
   refine⟨⟨oM,oM⟩,_,SWk.refl _,l.length-(k+1),oM,k+1,oM,rfl,?_⟩
   rw[hms,htk,qHL,hbs,if_pos hk2]
   rfl
  ·intro hk2 z A
   simp only[scrB,push_cast,reduceIte,zA,zB,zC,zD,zE,zF,zG,reduceCtorEq,zH,zJ,cNI]
   refine⟨⟨oM,oM⟩,_,SWk.drop (fun _=>true) (fun i=>i !=46),l.length-(k+1),oM,k+1,oM,rfl,?_⟩
   rw[qI5,hms,htk,qHL,hbs,if_neg (by rw[hk2];decide)]
   rfl
 ·obtain rfl:k=l.length:=by omega
  rw[List.take_length,qHR,show(l.map fun ws=>ws.map fixW)=scrF l from rfl]
  have hf47:anyT nul (isId 47) (qAY 3000 (rsW (scrF l)))=false:=qFd _ _ _ fun y r _=>beq_false_of_ne oM
  have hml:(scrF l).length=l.length:=by simp[scrF]
  refine qr9 ⟨[(5,.sl true 1 (rows (frmC true) (scrF l))),(6,.ptr 6 0),(7,bdV (badN l l.length))],[(6,[.int (cntF l:Nat)])],[],[]⟩ ?_ ?_
  ·refine SWk.trans (SWk.dropS (fun i=>i==5||i==6||i==7) (fun _=>true) (fun _=>true)) ?_
   have hfa: ∀A:List (Nat×Arr),A.filter (fun _=>true)=A:=fun A=>List.filter_eq_self.2 fun _ _=>rfl
   rw[hfa]
   refine SWk.trans (fz47 (badN l l.length) [(5,.bv 2507 1 l.length),(6,.ptr 6 0),(7,nlS 47 (badN l l.length))] [(5,.bv 2507 1 l.length),(6,.ptr 6 0),(7,bdV (badN l l.length))] [(6,[.int (cntF l:Nat)]),(2507,qAY 3000 (rsW (scrF l)))] (rsW (scrF l)) ?_ ?_ ?_) ?_
   ·rw[qiq,qiq,hf47];rfl
   ·cases badN l l.length with
    |nil=>rfl
    |cons y b=>
      simp only[nlS,bdV,qjP,qjO,push_cast,reduceIte,zA,zB,zC,zD,zE,zF,zG,reduceCtorEq,zH,zJ,cNI]
      rw[zY (by simp[rows])]
   ·intro hb;rw[hb];rfl
   ·refine qI4 (cntF l:Nat) _ _ (scrF l) (fun j hj=> ?_) ?_
    ·have h7 : (bdV (badN l l.length)).toV (isId j) nul = false /\ (bdV (badN l l.length)).toV nul (isId j) = false := by
      unfold bdV;split<;>exact⟨rfl,rfl⟩
     exact⟨⟨beq_false_of_ne (show 2507≠j by omega),rfl⟩,⟨beq_false_of_ne (show 6≠j by omega),rfl⟩,h7,trivial⟩
    ·have h7 : (bdV (badN l l.length)).fbV 2507 ((rsW (scrF l)).map rowP) = bdV (badN l l.length) := by
      unfold bdV;split<;>rfl
     have h5:PV.fbV 2507 ((rsW (scrF l)).map rowP) (.bv 2507 1 l.length)= .sl true 1 (rows (frmC true) (scrF l)):=by
      rw[<- qH7]
      simp only[PV.fbV,PV.fbA,PV.fb,if_true,yG,qH0,hml,and_self]
     simp only[zW,List.map_nil,h7,h5]
     rfl
  ·unfold scrV bdV
   cases badN l l.length with
   |nil=>
     refine sB ?_
     exact fun _ _ _ _=>trivial
   |cons y b=>
     refine sB ?_
     exact⟨fun _ _ _ _=>trivial,fun _ _=>trivial⟩
end Go.Proofs.YtecoaapkcnhlhaaDoor
namespace Go.Proofs.YtecoaapkcnhlhaaDoor
open Go Go.Vc Go.Ham Txt
theorem qI7(v k:Nat)(hv:v<2^64)(hk:k<=64):bitF .and .u64 (shfF .shr .u64 (v:Int) (k:Int)) 1=((v.testBit k).toNat:Int):=by
 rw[qBp v k hk,show(1:Int)=((1:Nat):Int)from rfl,qBj (Nat.lt_of_le_of_lt (Nat.div_le_self _ _) hv) (by decide)]
 have:v/2^k&&&1=(v.testBit k).toNat:=by
  rw[Nat.testBit_eq_decide_div_mod_eq,Nat.and_one_is_mod]
  rcases Nat.mod_two_eq_zero_or_one (v/2^k)with e|e<;>rw[e]<;>rfl
 rw[this]
set_option maxHeartbeats 2000000 in
theorem qI8 {E : Env} (hE : E.p = Tryd.prog) (hkk : E.kk <= 2000) (hpn : ∀ ch st, ¬ E.pan ch st) {s : List (Nat × PV)} (hs : qtX 2000 s = true) (n x : Nat) (hx : x < n) (hn : n <= 1000) (D : Nat -> List Nat) (B : List (Nat × List PV)) (A : List (Nat × Arr)) (L : List Int) (m : List (Nat × Mp))
  (h8:lk B 8=some [.bv 31 1 n]) (h31:lk B 31=some (outC datW n D n)) (h17:lk B 17=some [.view 74 0 n]) (hA:lk A 74=some ⟨1,3,ints L⟩) (hL:L.length=n) (c:Nat) (hc:L.getD x default=c) (hcl:c/57<(D x).length) (hcb:c<2000000000):
  FnM E 57 [.int x,.ptr 8 0,.ptr 17 0] ⟨s,B,A,m⟩ (fun r st' =>r= .int ((datW ((D x).getD (c/57) 0)).testBit (c%57)).toNat/\st' =⟨s,B,up A 74 ⟨1,3,ints (L.set x ((c:Int)+1))⟩,m⟩):=by
 refine quf 2000 (by rw[hE];exact Tryd.func57) (by rw[hE];exact ok57_2000) (by show 3<=_;decide) hs hkk ?_ hpn
 have hlen:(outC datW n D n).length=n:=qG9 _ _ _
 have hcell:(outC datW n D n).getD x .bot= .sl true 1 (rows u64C (nats ((D x).map datW))):=by
  have hne: ¬D x=[]:=fun e=>by rw[e]at hcl;exact absurd hcl (Nat.not_lt_zero _)
  simp only[outC,zK,zS,List.getElem?_range hx,Option.map_some,Option.getD_some,if_pos hx,outP,if_neg hne]
 generalize outC datW n D n=C at *
 obtain⟨q,hq⟩: ∃q,q=c/57:=⟨_,rfl⟩
 obtain⟨r,hr⟩: ∃r,r=c%57:=⟨_,rfl⟩
 have hd:(c:Int)/57=(q:Int):=by omega
 have hm:(c:Int)%57=(r:Int):=by omega
 rw[<- hq]at hcl
 have hget:(nats ((D x).map datW)).getD q default=((datW ((D x).getD q 0):Nat):Int):=by
  rw[qFE,zK,zK,zS,zL hcl]
  rfl
 have hw:=qAp ((D x).getD q 0)
 have hb:=qI7 (datW ((D x).getD q 0)) r oM oM
 have hbn:=Bool.toNat_le ((datW ((D x).getD q 0)).testBit r)
 simp only[ac57_2000,rv57_2000,h8,h31,h17,hA,hL,hc,Nat.mul_one,qFf C,hlen,hcell,qCv hs,qCu hs,qCw hs,qCx hs,qCy hs,hd,hm,hget,hb,push_cast,reduceIte,zA,zB,zC,zD,zE,zF,zG,reduceCtorEq,zH,zJ,cNI]
 rw[<- hq,<- hr,qEY,yG]
 exact⟨⟨oM,oM⟩,oM,⟨oM,oM⟩,hx,⟨oM,oM,by decide⟩,⟨oM,oM⟩,hcl,⟨oM,oM⟩,hx,⟨oM,oM,by decide⟩,oM,⟨oM,oM⟩,hx,⟨oM,oM⟩,⟨oM,oM⟩,hx,⟨oM,oM⟩,rfl⟩
end Go.Proofs.YtecoaapkcnhlhaaDoor
namespace Go.Proofs.YtecoaapkcnhlhaaDoor
open Go Go.Vc Go.Ham Txt
def qI9(aK i:Nat)(v:Int)(x:Nat)(bt:Int)(k:Nat)(w1 w2:Int):Nat->PV
 |0=> .ptr 1020 0
 |1=> .eptr aK i 0
 |2=> .eptr aK i 0
 |3=> .int v
 |4=> .clo 57 [8,17]
 |5=> .int x
 |6=> .int bt
 |7=> .int k
 |8=> .int w1
 |9=> .int w2
 |10=> .eptr aK i 0
 |_=> .bot
def qIa(B:List (Nat×List PV))(A A6 A11:List (Nat×Arr))(dn:List Nat):List (Nat×List PV)×List (Nat×Arr)×List (Nat×Mp):=(B,if dn.contains 11=true then A11 else if dn.contains 6=true then A6 else A,[])
set_option maxHeartbeats 4000000 in
theorem qIb {s0 : List (Nat × PV)} (hs : qtX 2000 s0 = true) (aK i v x k n : Nat) (l L : List Int) (D : Nat -> List Nat) (c : Nat) (B : List (Nat × List PV)) (A : List (Nat × Arr)) (nb : Int) (K : St -> Prop)
  (g18:getL s0 1018= .ptr 18 0) (g19:getL s0 1019= .int x) (g20:getL s0 1020= .ptr 1020 0) (g21:getL s0 1021= .int k)
  (h18:lk B 18=some [.clo 57 [8,17]]) (h20:lk B 1020=some [.eptr aK i 0,.int nb])
  (h8:lk B 8=some [.bv 31 1 n]) (h31:lk B 31=some (outC datW n D n)) (h17:lk B 17=some [.view 74 0 n]) (hA:lk A 74=some ⟨1,3,ints L⟩) (hL:L.length=n) (hc:L.getD x default=c) (hx:x<n) (hn:n<=1000) (hcl:c/57<(D x).length) (hcb:c<2000000000)
  (haK:lk A aK=some ⟨1,3,ints l⟩) (hne:aK≠74) (hi:i<l.length) (hv:l.getD i default=v) (hvb:v<2^k) (hk:k<62)
  (hK:K ⟨slA (qI9 aK i v x ((datW ((D x).getD (c/57) 0)).testBit (c%57)).toNat k (((datW ((D x).getD (c/57) 0)).testBit (c%57)).toNat<<<k:Nat) (v|||(((datW ((D x).getD (c/57) 0)).testBit (c%57)).toNat<<<k):Nat)) xs34_27 s0,B,up (up A 74 ⟨1,3,ints (L.set x ((c:Int)+1))⟩) aK ⟨1,3,ints (l.set i (v|||(((datW ((D x).getD (c/57) 0)).testBit (c%57)).toNat<<<k):Nat))⟩,[]⟩):
  allK (Env.of Tryd.prog) xs34_27 xs34_27.length [] ⟨s0,B,A,[]⟩ K:=by
 have hbn:=Bool.toNat_le ((datW ((D x).getD (c/57) 0)).testBit (c%57))
 have hnx:=fun(s:List (Nat×PV)) hs=>qI8 (E:=Env.of Tryd.prog) rfl (Nat.zero_le _) (fun _ _ h=>h) (s:=s) hs n x hx hn D B A L [] h8 h31 h17 hA hL c hc hcl hcb
 generalize ((datW ((D x).getD (c/57) 0)).testBit (c%57)).toNat=bt at *
 have hsh:bt<<<k<2^62:=by
  rw[Nat.shiftLeft_eq]
  have:2^k<=2^61:=Nat.pow_le_pow_right (by decide) oM
  rcases Nat.le_one_iff_eq_zero_or_eq_one.1 hbn with e|e<;>rw[e]<;>omega
 have hv62:v<2^62:=Nat.lt_of_lt_of_le hvb (Nat.pow_le_pow_right (by decide) oM)
 have e1:shfF .shl .i64 (bt:Int) (k:Int)=((bt<<<k:Nat):Int):=by
  show IntKind.i64.wrap ((bt:Int)*2^(min (k:Int).toNat 64))=_
  rw[Int.toNat_natCast,Nat.min_eq_left oM,show(bt:Int)*2^k=((bt<<<k:Nat):Int)from by rw[Nat.shiftLeft_eq];norm_cast]
  have hw: ∀z:Nat,z<2^62->IntKind.i64.wrap (z:Int)=(z:Int):=fun z hz=>qap (by simp only[ikLo];omega) (by simp only[ikHi];omega)
  exact hw _ hsh
 have e2:bitF .or .i64 (v:Int) ((bt<<<k:Nat):Int)=((v|||bt<<<k:Nat):Int):=qBn (Nat.lt_trans hv62 (by decide)) (Nat.lt_trans hsh (by decide))
 generalize bt<<<k=w1 at *
 generalize v|||w1=w2 at *
 have hlkA: ∀Z,lk (up A 74 Z) aK=some ⟨1,3,ints l⟩:=fun Z=>by rw[qa2,if_neg (Ne.symm hne)];exact haK
 refine qFl (ops:=xs34_27) (fun _=>qI9 aK i v x bt k w1 w2) (qIa B A (up A 74 ⟨1,3,ints (L.set x ((c:Int)+1))⟩) (up (up A 74 ⟨1,3,ints (L.set x ((c:Int)+1))⟩) aK ⟨1,3,ints (l.set i w2)⟩)) rfl rfl ?_ ?_ rfl
 ·rw[xs34_27_all]
  refine⟨?_,?_,?_,?_,?_,?_,?_,?_,?_,?_,?_,?_⟩
  ·intro dn S hr hc2 hS L2 K hK
   have q1020:getL S 1020= .ptr 1020 0:=(L2 1020 trivial).trans g20
   have em: ∀q1 q2 q3 q4,qIa q1 q2 q3 q4 (0::dn)=qIa q1 q2 q3 q4 dn:=fun _ _ _ _=>rfl
   rw[em,<- hS]at hK
   have hb:(qIa B A (up A 74 ⟨1,3,ints (L.set x ((c:Int)+1))⟩) (up (up A 74 ⟨1,3,ints (L.set x ((c:Int)+1))⟩) aK ⟨1,3,ints (l.set i w2)⟩) dn).1=B:=rfl
   rw[hb]at hK ⊢
   simp only[q1020,push_cast,reduceIte,zA,zB,zC,zD,zE,zF,zG,reduceCtorEq,zH,zJ,cNI]
   first|exact hK|exact⟨oM,hK⟩
  ·intro dn S hr hc2 hS L2 K hK
   have q1085:getL S 1085= .ptr 1020 0:=L2 1085 (qAP hr (j:=0) (by decide))
   have em: ∀q1 q2 q3 q4,qIa q1 q2 q3 q4 (1::dn)=qIa q1 q2 q3 q4 dn:=fun _ _ _ _=>rfl
   rw[em,<- hS]at hK
   have hb:(qIa B A (up A 74 ⟨1,3,ints (L.set x ((c:Int)+1))⟩) (up (up A 74 ⟨1,3,ints (L.set x ((c:Int)+1))⟩) aK ⟨1,3,ints (l.set i w2)⟩) dn).1=B:=rfl
   rw[hb]at hK ⊢
   simp only[q1085,h20,push_cast,reduceIte,zA,zB,zC,zD,zE,zF,zG,reduceCtorEq,zH,zJ,cNI]
   first|exact hK|exact⟨oM,hK⟩
  ·intro dn S hr hc2 hS L2 K hK
   have q1086:getL S 1086= .eptr aK i 0:=L2 1086 (qAP hr (j:=1) (by decide))
   have em: ∀q1 q2 q3 q4,qIa q1 q2 q3 q4 (2::dn)=qIa q1 q2 q3 q4 dn:=fun _ _ _ _=>rfl
   rw[em,<- hS]at hK
   have hb:(qIa B A (up A 74 ⟨1,3,ints (L.set x ((c:Int)+1))⟩) (up (up A 74 ⟨1,3,ints (L.set x ((c:Int)+1))⟩) aK ⟨1,3,ints (l.set i w2)⟩) dn).1=B:=rfl
   rw[hb]at hK ⊢
   simp only[q1086,push_cast,reduceIte,zA,zB,zC,zD,zE,zF,zG,reduceCtorEq,zH,zJ,cNI]
   first|exact hK|exact⟨oM,hK⟩
  ·intro dn S hr hc2 hS L2 K hK
   have q1087:getL S 1087= .eptr aK i 0:=L2 1087 (qAP hr (j:=2) (by decide))
   have h11:dn.contains 11=false:=qAR hc2 hr (zP (i:=11) rfl) (by decide)
   have em: ∀q1 q2 q3 q4,qIa q1 q2 q3 q4 (3::dn)=qIa q1 q2 q3 q4 dn:=fun _ _ _ _=>rfl
   rw[em,<- hS]at hK
   revert hK
   unfold qIa
   rw[h11]
   intro hK
   cases h6:dn.contains 6<;>rw[h6]at hK<;>simp only[q1087,haK,hlkA,hv,push_cast,reduceIte,zA,zB,zC,zD,zE,zF,zG,reduceCtorEq,zH,zJ,cNI]at hK ⊢ <;>exact⟨hi,hK⟩
  ·intro dn S hr hc2 hS L2 K hK
   have q1018:getL S 1018= .ptr 18 0:=(L2 1018 trivial).trans g18
   have em: ∀q1 q2 q3 q4,qIa q1 q2 q3 q4 (4::dn)=qIa q1 q2 q3 q4 dn:=fun _ _ _ _=>rfl
   rw[em,<- hS]at hK
   have hb:(qIa B A (up A 74 ⟨1,3,ints (L.set x ((c:Int)+1))⟩) (up (up A 74 ⟨1,3,ints (L.set x ((c:Int)+1))⟩) aK ⟨1,3,ints (l.set i w2)⟩) dn).1=B:=rfl
   rw[hb]at hK ⊢
   simp only[q1018,h18,push_cast,reduceIte,zA,zB,zC,zD,zE,zF,zG,reduceCtorEq,zH,zJ,cNI]
   first|exact hK|exact⟨oM,hK⟩
  ·intro dn S hr hc2 hS L2 K hK
   have q1019:getL S 1019= .int x:=(L2 1019 trivial).trans g19
   have em: ∀q1 q2 q3 q4,qIa q1 q2 q3 q4 (5::dn)=qIa q1 q2 q3 q4 dn:=fun _ _ _ _=>rfl
   rw[em,<- hS]at hK
   have hb:(qIa B A (up A 74 ⟨1,3,ints (L.set x ((c:Int)+1))⟩) (up (up A 74 ⟨1,3,ints (L.set x ((c:Int)+1))⟩) aK ⟨1,3,ints (l.set i w2)⟩) dn).1=B:=rfl
   rw[hb]at hK ⊢
   simp only[q1019,push_cast,reduceIte,zA,zB,zC,zD,zE,zF,zG,reduceCtorEq,zH,zJ,cNI]
   first|exact hK|exact⟨oM,hK⟩
  ·intro dn S hr hc2 hS L2 K hK
   have q1089:getL S 1089= .clo 57 [8,17]:=L2 1089 (qAP hr (j:=4) (by decide))
   have q1090:getL S 1090= .int x:=L2 1090 (qAP hr (j:=5) (by decide))
   have h6:dn.contains 6=false:=qAQ hr
   have h11:dn.contains 11=false:=qAR hc2 hr (zP (i:=11) rfl) (by decide)
   have em: ∀q1 q2 q3 q4,qIa q1 q2 q3 q4 (6::dn)=(q1,q3,[]):=fun q1 q2 q3 q4=>by
    show(q1,if dn.contains 11=true then _ else if true=true then _ else _,_)=_
    rw[h11];rfl
   have em0: ∀q1 q2 q3 q4,qIa q1 q2 q3 q4 dn=(q1,q2,[]):=fun q1 q2 q3 q4=>by
    unfold qIa
    rw[h11,h6];rfl
   rw[em,<- hS]at hK
   rw[em0]
   have hSl:qtX 2000 S=true:=by rw[hS];exact qFn hs rfl
   simp only[q1089,q1090,push_cast,reduceIte,zA,zB,zC,zD,zE,zF,zG,reduceCtorEq,zH,zJ,cNI]
   refine FnM.mono (hnx S hSl) ?_
   rintro _ _ ⟨rfl,rfl⟩
   exact hK
  ·intro dn S hr hc2 hS L2 K hK
   have q1021:getL S 1021= .int k:=(L2 1021 trivial).trans g21
   have em: ∀q1 q2 q3 q4,qIa q1 q2 q3 q4 (7::dn)=qIa q1 q2 q3 q4 dn:=fun _ _ _ _=>rfl
   rw[em,<- hS]at hK
   have hb:(qIa B A (up A 74 ⟨1,3,ints (L.set x ((c:Int)+1))⟩) (up (up A 74 ⟨1,3,ints (L.set x ((c:Int)+1))⟩) aK ⟨1,3,ints (l.set i w2)⟩) dn).1=B:=rfl
   rw[hb]at hK ⊢
   simp only[q1021,push_cast,reduceIte,zA,zB,zC,zD,zE,zF,zG,reduceCtorEq,zH,zJ,cNI]
   first|exact hK|exact⟨oM,hK⟩
  ·intro dn S hr hc2 hS L2 K hK
   have q1091:getL S 1091= .int bt:=L2 1091 (qAP hr (j:=6) (by decide))
   have q1092:getL S 1092= .int k:=L2 1092 (qAP hr (j:=7) (by decide))
   have em: ∀q1 q2 q3 q4,qIa q1 q2 q3 q4 (8::dn)=qIa q1 q2 q3 q4 dn:=fun _ _ _ _=>rfl
   rw[em,<- hS]at hK
   have hb:(qIa B A (up A 74 ⟨1,3,ints (L.set x ((c:Int)+1))⟩) (up (up A 74 ⟨1,3,ints (L.set x ((c:Int)+1))⟩) aK ⟨1,3,ints (l.set i w2)⟩) dn).1=B:=rfl
   rw[hb]at hK ⊢
   simp only[q1091,q1092,e1,push_cast,reduceIte,zA,zB,zC,zD,zE,zF,zG,reduceCtorEq,zH,zJ,cNI]
   first|exact hK|exact⟨oM,hK⟩
  ·intro dn S hr hc2 hS L2 K hK
   have q1088:getL S 1088= .int v:=L2 1088 (qAP hr (j:=3) (by decide))
   have q1093:getL S 1093= .int w1:=L2 1093 (qAP hr (j:=8) (by decide))
   have em: ∀q1 q2 q3 q4,qIa q1 q2 q3 q4 (9::dn)=qIa q1 q2 q3 q4 dn:=fun _ _ _ _=>rfl
   rw[em,<- hS]at hK
   have hb:(qIa B A (up A 74 ⟨1,3,ints (L.set x ((c:Int)+1))⟩) (up (up A 74 ⟨1,3,ints (L.set x ((c:Int)+1))⟩) aK ⟨1,3,ints (l.set i w2)⟩) dn).1=B:=rfl
   rw[hb]at hK ⊢
   simp only[q1088,q1093,e2,push_cast,reduceIte,zA,zB,zC,zD,zE,zF,zG,reduceCtorEq,zH,zJ,cNI]
   first|exact hK|exact⟨oM,hK⟩
  ·intro dn S hr hc2 hS L2 K hK
   have q1086:getL S 1086= .eptr aK i 0:=L2 1086 (qAP hr (j:=1) (by decide))
   have em: ∀q1 q2 q3 q4,qIa q1 q2 q3 q4 (10::dn)=qIa q1 q2 q3 q4 dn:=fun _ _ _ _=>rfl
   rw[em,<- hS]at hK
   have hb:(qIa B A (up A 74 ⟨1,3,ints (L.set x ((c:Int)+1))⟩) (up (up A 74 ⟨1,3,ints (L.set x ((c:Int)+1))⟩) aK ⟨1,3,ints (l.set i w2)⟩) dn).1=B:=rfl
   rw[hb]at hK ⊢
   simp only[q1086,push_cast,reduceIte,zA,zB,zC,zD,zE,zF,zG,reduceCtorEq,zH,zJ,cNI]
   first|exact hK|exact⟨oM,hK⟩
  ·intro dn S hr hc2 hS L2 K hK
   have q1095:getL S 1095= .eptr aK i 0:=L2 1095 (qAP hr (j:=10) (by decide))
   have q1094:getL S 1094= .int w2:=L2 1094 (qAP hr (j:=9) (by decide))
   have h6:dn.contains 6=true:=qAP hr (j:=6) (by decide)
   have h11:dn.contains 11=false:=qAQ hr
   have em: ∀q1 q2 q3 q4,qIa q1 q2 q3 q4 (11::dn)=(q1,q4,[]):=fun q1 q2 q3 q4=>rfl
   have em0: ∀q1 q2 q3 q4,qIa q1 q2 q3 q4 dn=(q1,q3,[]):=fun q1 q2 q3 q4=>by
    unfold qIa
    rw[h11,h6];rfl
   rw[em,<- hS]at hK
   rw[em0]
   have hK:K ⟨S,_,_,_⟩:=hK
   simp only[q1095,q1094,hlkA,push_cast,reduceIte,zA,zB,zC,zD,zE,zF,zG,reduceCtorEq,zH,zJ,cNI]at hK ⊢
   exact⟨hi,hK⟩
 ·intro dn h
  rw[xs34_27_all]at h
  obtain⟨h0_,h1_,h2_,h3_,h4_,h5_,h6_,h7_,h8_,h9_,h10_,h11_⟩:=h
  have em: ∀q1 q2 q3 q4,qIa q1 q2 q3 q4 dn=(q1,q4,[]):=fun q1 q2 q3 q4=>by
   unfold qIa
   rw[if_pos h11_]
  rw[em]
  exact hK
end Go.Proofs.YtecoaapkcnhlhaaDoor
namespace Go.Proofs.YtecoaapkcnhlhaaDoor
open Go Go.Vc Go.Ham Txt
theorem qIc: ∀(k j n:Nat),n<2^j->Go.Lib.bitLenAux k n<=j
 |0,_,_,_=>Nat.zero_le _
 | k + 1, j, n, h => by
   unfold Go.Lib.bitLenAux
   split
   ·exact Nat.zero_le _
   ·cases j with
    |zero=>omega
    |succ j=>
      have:=qIc k j (n/2) (by rw[Nat.pow_succ]at h;omega)
      omega
theorem qId{g:Grid}(hg:GOk g){f:Fld}(hf:FIn g f):f.n<=61:=by
 rcases hf.key with⟨a,b,d⟩|⟨a,b,d⟩|⟨a,b,d⟩|⟨a,b,d⟩<;>rw[d]
 ·have:=qxu g hg f.i
  exact qIc 64 61 _ oM
 all_goals decide
def datA(L:List Int)(c:Cfg):List (Nat×Arr):=[(74,⟨1,3,ints L⟩),(109,⟨1,3,ints c.sel⟩),(111,⟨1,3,ints c.mode⟩),(113,⟨1,3,ints c.tab⟩),(115,⟨1,3,ints c.ram⟩)]
def kA(k:Nat):Nat:=if k=0 then 109 else if k=1 then 111 else if k=2 then 113 else 115
def cfgL(c:Cfg)(k:Nat):List Int:=if k=0 then c.sel else if k=1 then c.mode else if k=2 then c.tab else c.ram
theorem qIe(k:Nat):kA k≠74:=by
 unfold kA
 repeat' split
 all_goals decide
theorem qIf{k:Nat}(L:List Int)(c:Cfg):lk (datA L c) (kA k)=some ⟨1,3,ints (cfgL c k)⟩:=by
 unfold kA cfgL
 repeat' split
 all_goals rfl
theorem qIg{k:Nat}(L L' :List Int)(c:Cfg)(i:Nat)(v:Int):up (up (datA L c) 74 ⟨1,3,ints L'⟩) (kA k) ⟨1,3,ints ((cfgL c k).set i v)⟩=datA L' (qDc c k i v):=by
 unfold kA cfgL qDc
 repeat' split
 all_goals rfl
theorem qIh(c:Cfg)(k i:Nat):(cfgL c k).getD i default=cfgI c k i:=by
 unfold cfgL cfgI
 repeat' split
 all_goals rfl
theorem qIi{g:Grid}{c:Cfg}(h:CfgLn g c){k i:Nat}(hk:keyIn g k i):i<(cfgL c k).length:=by
 obtain⟨l1,l2,l3,l4⟩:=h.lens
 rcases hk with⟨rfl,h⟩|⟨rfl|rfl|rfl,h⟩<;>simp[cfgL]<;>omega
theorem qIj(c:Cfg)(k i:Nat)(v w:Int):qDc (qDc c k i v) k i w=qDc c k i w:=by
 unfold qDc
 by_cases h0:k=0
 ·simp[h0,List.set_set]
 ·by_cases h1:k=1
  ·simp[h1,List.set_set]
  ·by_cases h2:k=2
   ·simp[h2,List.set_set]
   ·simp[h0,h1,h2,List.set_set]
theorem qIk{g:Grid}{c:Cfg}(hc:CfgLn g c){k i:Nat}(hk:keyIn g k i):qDc c k i (cfgI c k i)=c:=by
 refine qDh (qDd hc _ _ _) hc fun k' i' h' => ?_
 rw[qDf hc hk h']
 split
 ·next h=>obtain⟨rfl,rfl⟩:=h;rfl
 ·rfl
def strB(l:List (List Nat))(x:Nat):List Bool:=unW (datF l x)
theorem qIl(l:List (List Nat))(x c:Nat):(datW ((datD l x).getD (c/57) 0)).testBit (c%57)=(strB l x).getD c false\/(datD l x).length<=c/57:=by
 by_cases h:c/57<(datD l x).length
 ·left
  unfold strB datF
  rw[qBP,zK,zK,zS]
  show _=(((datD l x)[c/57]?.map datW).getD 0).testBit _
  rw[zL h]
  rfl
 ·exact .inr oM
theorem qIm(S:List Bool)(c k:Nat)(h:c+k<S.length):(S.drop c).take (k+1)=(S.drop c).take k++[S.getD (c+k) false]:=by
 rw[zZ (by simp;omega),List.getElem_drop,zK,zL h]
 rfl
set_option maxHeartbeats 2000000 in
theorem qIn (g : Grid) {S : List (Nat × PV)} (hS : qtX 1000 S = true) (κ i x nb n : Nat) (l : List (List Nat)) (L : List Int) (c : Nat) (B : List (Nat × List PV)) (cf : Cfg)
  (h18:lk B 18=some [.clo 57 [8,17]]) (h20:lk B 1020=some [.eptr (kA κ) i 0,.int nb])
  (h8:lk B 8=some [.bv 31 1 n]) (h31:lk B 31=some (outC datW n (datD l) n)) (h17:lk B 17=some [.view 74 0 n]) (hL:L.length=n) (hc:L.getD x default=c) (hx:x<n) (hn:n<=1000) (hcl:c+nb<=57*(datD l x).length) (hcb:c+nb<2000000000)
  (hcf:CfgLn g cf) (hk:keyIn g κ i) (h0:cfgI cf κ i=0) (hnb:nb<=61) (T:List (Nat×PV)) (hT:qhn [1000,126,1018,1019,1020] T=[]) (Q:Exit->St->Prop)
  (hQ:Q .normal ⟨S++[(1018,.ptr 18 0),(1019,.int x),(1020,.ptr 1020 0),(1081,.int nb),(1082,.int nb),(1083,.bool false)],B,datA (L.set x ((c+nb:Nat):Int)) (qDc cf κ i (valB (((strB l x).drop c).take nb):Nat)),[]⟩):
  awp (Env.of Tryd.prog) ac34_r24 Q ⟨S++([(1018,.ptr 18 0),(1019,.int x),(1020,.ptr 1020 0)]++T),B,datA L cf,[]⟩:=by
 have hslen:(strB l x).length=57*(datD l x).length:=by unfold strB datF;rw[qBM,yG];rfl
 have hLs: ∀y,(L.set x y).getD x default=y:=fun y=>by rw[zK,List.getElem?_set_self oM];rfl
 have hLset: ∀y z,(L.set x y).set x z=L.set x z:=fun y z=>List.set_set ..
 have hL0:L.set x ((c:Nat):Int)=L:=by
  rw[<- hc]
  apply List.ext_getElem (by simp)
  intro j h1 h2
  rw[List.getElem_set]
  split
  ·next e=>subst e;simp[zK,h2]
  ·rfl
 simp only[ac34_r24,hT,h20,qCv hS,qCu hS,qCw hS,qCx hS,qCy hS,push_cast,reduceIte,zA,zB,zC,zD,zE,zF,zG,reduceCtorEq,zH,zJ,cNI]
 refine qoO (fun j st=> ∃k:Nat,k<=nb/\j=nb-k/\st=⟨S++[(1018,.ptr 18 0),(1019,.int x),(1020,.ptr 1020 0),(1081,.int nb),(1082,.int k)],B,datA (L.set x ((c+k:Nat):Int)) (qDc cf κ i (valB (((strB l x).drop c).take k):Nat)),[]⟩) nb ⟨_,SWk.refl _,0,oM,oM,?_⟩ ?_
 ·simp only[qCv hS,qCu hS,qCw hS,qCx hS,qCy hS,push_cast,reduceIte,zA,zB,zC,zD,zE,zF,zG,reduceCtorEq,zH,zJ,cNI]
  rw[List.take_zero,show(valB []:Nat)=0 from rfl,show((0:Nat):Int)=cfgI cf κ i from h0.symm,qIk hcf hk]
  rw[show L.set x (c:Int)=L from hL0]
 rintro j st ⟨k,hk',rfl,rfl⟩
 simp only[qCv hS,qCu hS,qCw hS,qCx hS,qCy hS,push_cast,reduceIte,zA,zB,zC,zD,zE,zF,zG,reduceCtorEq,zH,zJ,cNI]
 refine qnY (fun h=> ?_) fun h=> ?_
 ·have hkn:k<nb:=by omega
  have hln:=qDd hcf κ i (valB (((strB l x).drop c).take k):Nat)
  have hvl:=qBw (((strB l x).drop c).take k)
  have htl:(((strB l x).drop c).take k).length=k:=by rw[List.length_take,List.length_drop];omega
  rw[htl]at hvl
  have hcl2:(c+k)/57<(datD l x).length:=by omega
  simp only[ac34_r26,qCv hS,qCu hS,qCw hS,qCx hS,qCy hS,push_cast,reduceIte,zA,zB,zC,zD,zE,zF,zG,reduceCtorEq,zH,zJ,cNI]
  refine qIb (s0:=S++[(1018,.ptr 18 0),(1019,.int x),(1020,.ptr 1020 0),(1021,.int k),(1081,.int nb),(1082,.int k)]) ?_ (kA κ) i (valB (((strB l x).drop c).take k)) x k n (cfgL (qDc cf κ i (valB (((strB l x).drop c).take k):Nat)) κ) (L.set x ((c+k:Nat):Int)) (datD l) (c+k) B _ nb _ ?_ ?_ ?_ ?_ h18 h20 h8 h31 h17 rfl (by rw[yF,hL]) (hLs _) hx hn hcl2 oM (qIf _ _) (qIe κ) (qIi hln hk) ?_ hvl oM ?_
  ·rw[qCz hS _ _ oM];rfl
  ·simp only[qCw hS,push_cast,reduceIte,zA,zB,zC,zD,zE,zF,zG,reduceCtorEq,zH,zJ,cNI]
  ·simp only[qCw hS,push_cast,reduceIte,zA,zB,zC,zD,zE,zF,zG,reduceCtorEq,zH,zJ,cNI]
  ·simp only[qCw hS,push_cast,reduceIte,zA,zB,zC,zD,zE,zF,zG,reduceCtorEq,zH,zJ,cNI]
  ·simp only[qCw hS,push_cast,reduceIte,zA,zB,zC,zD,zE,zF,zG,reduceCtorEq,zH,zJ,cNI]
  ·rw[qIh,qDf hcf hk hk,if_pos ⟨rfl,rfl⟩]
  ·have hbit:(datW ((datD l x).getD ((c+k)/57) 0)).testBit ((c+k)%57)=(strB l x).getD (c+k) false:=(qIl l x (c+k)).resolve_right oM
   rw[hbit,qIg,qIj,hLset]
   have hvs:valB (((strB l x).drop c).take k)|||(((strB l x).getD (c+k) false).toNat<<<k)=valB (((strB l x).drop c).take (k+1)):=by
    rw[qIm _ _ _ oM,qBC,htl]
   rw[hvs]
   simp only[slA,xs34_27,putD,qI9,qCv hS,qCu hS,qCw hS,qCx hS,qCy hS,push_cast,reduceIte,zA,zB,zC,zD,zE,zF,zG,reduceCtorEq,zH,zJ,cNI]
   refine⟨⟨oM,oM⟩,_,SWk.refl _,nb-(k+1),oM,k+1,oM,rfl,?_⟩
   rw[show(c:Int)+k+1=((c:Int)+((k+1:Nat):Int))from by omega]
   rfl
 ·obtain rfl:k=nb:=by omega
  rw[show decide ((k:Int)<k)=false from decide_eq_false oM]
  exact hQ
end Go.Proofs.YtecoaapkcnhlhaaDoor
namespace Go.Proofs.YtecoaapkcnhlhaaDoor
open Go Go.Vc Go.Ham Txt
def cfA(c:Cfg):List (Nat×Arr):=[(109,⟨1,3,ints c.sel⟩),(111,⟨1,3,ints c.mode⟩),(113,⟨1,3,ints c.tab⟩),(115,⟨1,3,ints c.ram⟩)]
theorem qIo(g:Grid)(hg:GOk g):FnM (Env.of Tryd.prog) 56 [.agg (quX false g)] ⟨[],[],[],[]⟩ (fun v st' =>
  v= .agg [.view 109 0 (qv2 g).toNat,.view 111 0 g.kind.length,.view 113 0 g.kind.length,.view 115 0 g.kind.length]/\st' =⟨[],[],cfA (qxc g),[]⟩):=by
 have h1:=hg.count
 have h2:=hg.wh
 have h3:=hg.kind
 refine FnM.dropB 101 (FnM.dropB 102 ?_)
 refine quf 100 Tryd.func56 ok56_100 (by show 1<=_;decide) rfl (by decide) ?_
 simp only[ac56_100,rv56_100,push_cast,reduceIte,zA,zB,zC,zD,zE,zF,zG,reduceCtorEq,zH,zJ,cNI]
 refine qrx (qv5 g hg) sC rfl ?_
 refine sB ?_
 refine⟨oM,oM,oM,oM,?_,?_⟩
 ·simp
 ·simp only[cfA,qxc,List.length_replicate,push_cast,reduceIte,zA,zB,zC,zD,zE,zF,zG,reduceCtorEq,zH,zJ,cNI]
def cfP(g:Grid)(l:List (List Nat))(pre:List Fld):Cfg:=(qBY pre (strB l)).foldl (fun c p=>qDc c p.1.kind p.1.i p.2) (qxc g)
theorem qIp(g:Grid)(l:List (List Nat)):cfP g l (qCl g)=decC g fun x=>unW (datF l x):=rfl
theorem qIq(g:Grid)(l:List (List Nat))(pre:List Fld)(f:Fld):cfP g l (pre++[f])=qDc (cfP g l pre) f.kind f.i (valB (((strB l f.x).drop (qBT pre f.x)).take f.n):Nat):=by
 unfold cfP
 rw[qC0,List.foldl_append]
 rfl
theorem qIr(g:Grid)(k i:Nat):cfgI (qxc g) k i=0:=by
 have h: ∀n:Nat,(List.replicate n (0:Int)).getD i 0=0:=fun n=>by
  rw[zK,List.getElem?_replicate];split<;>rfl
 unfold cfgI qxc
 repeat' split
 all_goals exact h _
theorem qIs(fs:List Fld)(S:Nat->List Bool):(qBY fs S).map (fun p=>fkey p.1)=fs.map fkey:=by
 rw[show(fun p:Fld×Nat=>fkey p.1)=fkey ∘ Prod.fst from rfl,<- List.map_map,qBZ]
theorem qIt{g:Grid}(hg:GOk g)(l:List (List Nat)){pre:List Fld}{f:Fld}(h:pre++[f]<+:qCl g):CfgLn g (cfP g l pre)/\cfgI (cfP g l pre) f.kind f.i=0:=by
 have hnd:=qD8 hg
 obtain⟨r,hr⟩:=h
 have hin: ∀p∈qBY pre (strB l),p.1∈qCl g:=fun p hp=>by
  have:p.1∈(qBY pre (strB l)).map (·.1):=List.mem_map_of_mem hp
  rw[qBZ]at this
  rw[<- hr]
  exact List.mem_append_left _ (List.mem_append_left _ this)
 rw[<- hr,List.append_assoc,yH,List.nodup_append]at hnd
 obtain⟨a1,_,a3⟩:=qDg (qBY pre (strB l)) (qxc g) (qDi g) (fun p hp=>(qD3 hg (hin p hp)).keyIn) (by rw[qIs];exact hnd.1)
 refine⟨a1,?_⟩
 have hf:f∈qCl g:=by rw[<- hr];simp
 refine(a3 f.kind f.i (qD3 hg hf).keyIn ?_).trans (qIr g _ _)
 rw[qIs]
 intro hm
 exact hnd.2.2 _ hm (fkey f) (by simp) rfl
theorem qIu{g:Grid}{pre:List Fld}(h:pre<+:qCl g)(x:Nat):qBT pre x<=qDq g x:=by
 obtain⟨r,hr⟩:=h
 unfold qDq
 rw[<- hr,qBX]
 omega
theorem qIv(n:Nat):n<=57*nW n:=by unfold nW;omega
def qIw(g:Grid)(n:Nat)(C:List PV):List (Nat×List PV):=[(2,quX false g),(4,[.nil,.nil,.nil,.nil]),(8,[.bv 31 1 n]),(16,[.view 109 0 (cN g),.view 111 0 g.kind.length,.view 113 0 g.kind.length,.view 115 0 g.kind.length]),(17,[.view 74 0 n]),(18,[.clo 57 [8,17]]),(31,C)]
def qIx(g:Grid)(n:Nat)(C:List PV):List (Nat×List PV):=qIw g n C++[(102,quX false g),(103,[.ptr 16 0]),(105,[.int (qv1 g)])]
def qIy(g:Grid)(n:Nat)(C:List PV):List (Nat×List PV):=qIx g n C++[(204,[.yl 999])]
def qIz(g:Grid)(n:Nat)(C:List PV):List (Nat×List PV):=qIx g n C++[(204,[.bot])]
def decS(l:List (List Nat))(f:Int):List (Nat×PV):=[(1,.sl false 1 (rows (frmC false) l)),(2,.ptr 2 0),(4,.ptr 4 0),(7,.int f),(8,.ptr 8 0),(16,.ptr 16 0),(17,.ptr 17 0),(18,.ptr 18 0),(77,.clo 75 [103,102,105])]
theorem qIA{id n:Nat}(h:id<1000):farV (.view id 0 n):=⟨fun j hj=>⟨rfl,beq_false_of_ne oM⟩,fun _ j hj=>⟨rfl,beq_false_of_ne oM⟩⟩
set_option maxHeartbeats 4000000 in
theorem qIB (g : Grid) (hg : GOk g) (l : List (List Nat)) (n : Nat) (hn : n = wN g + 1) (f : Int) (Q : Exit -> St -> Prop) (hs : ∀ x, x <= wN g -> (datD l x).length = nW (qDq g x)) (h75 : PV)
  (h29:awp (Env.of Tryd.prog) ac34_r29 Q ⟨decS l f,qIz g n (outC datW n (datD l) n),datA (qDO g (qCl g)) (cfP g l (qCl g)),[]⟩):
  awp (Env.of Tryd.prog) ac34_r21 Q ⟨[(1,.sl false 1 (rows (frmC false) l)),(2,.ptr 2 0),(4,.ptr 4 0),(7,.int f),(8,.ptr 8 0),(16,.ptr 16 0),(17,.ptr 17 0),(18,.ptr 18 0),(75,.clo 57 [8,17])],qIw g n (outC datW n (datD l) n),datA (List.replicate n 0) (qxc g),[]⟩:=by
 have hn' :=hg.n
 have hw2:=hn'.w2
 simp only[ac34_r21,qIw,push_cast,reduceIte,zA,zB,zC,zD,zE,zF,zG,reduceCtorEq,zH,zJ,cNI]
 have hF : FnM (Env.of Tryd.prog) 53 [.agg (quX false g), .ptr 16 0] ⟨[(1, .sl false 1 (rows (frmC false) l)), (2, .ptr 2 0), (4, .ptr 4 0), (7, .int f), (8, .ptr 8 0), (16, .ptr 16 0), (17, .ptr 17 0), (18, .ptr 18 0), (76, .agg (quX false g))], qIw g n (outC datW n (datD l) n), datA (List.replicate n 0) (qxc g), []⟩
   (fun v st' =>v= .clo 75 [103,102,105]/\st' =⟨[(1,.sl false 1 (rows (frmC false) l)),(2,.ptr 2 0),(4,.ptr 4 0),(7,.int f),(8,.ptr 8 0),(16,.ptr 16 0),(17,.ptr 17 0),(18,.ptr 18 0),(76,.agg (quX false g))],qIx g n (outC datW n (datD l) n),datA (List.replicate n 0) (qxc g),[]⟩):=by
  refine quf 100 Tryd.func53 ok53_100 (by show 2<=_;decide) rfl (by decide) ?_
  have ht:=hg.tracks
  simp only[ac53_100,rv53_100,qIw,qGf,push_cast,reduceIte,zA,zB,zC,zD,zE,zF,zG,reduceCtorEq,zH,zJ,cNI]
  exact⟨⟨oM,oM⟩,⟨oM,oM⟩,rfl⟩
 refine qsP hF ?_
 refine sB ?_
 have hv:=fun pre=>qIf (k:=0) (qDO g pre) (cfP g l pre)
 refine qud (st1:=⟨decS l f,qIx g n (outC datW n (datD l) n),datA (qDO g []) (cfP g l []),[]⟩) (Env.of_noY _) rfl ?_
  (qDb (s:=decS l f) rfl (by show 126<=200;decide) (fun _ _ h=>h) rfl g hg 103 102 105 16 (.view 109 0 (cN g)) (.view 111 0 g.kind.length) (.view 113 0 g.kind.length) (.view 115 0 g.kind.length) (qIx g n (outC datW n (datD l) n)) (fun _=>qIy g n (outC datW n (datD l) n)) (fun pre=>datA (qDO g pre) (cfP g l pre)) rfl rfl rfl (by simp only[decS,push_cast,reduceIte,zA,zB,zC,zD,zE,zF,zG,reduceCtorEq,zH,zJ,cNI]) ?_ (fun pre hp=>⟨rfl,rfl,rfl,rfl,rfl⟩) (fun pre hp=>⟨⟨_,_,rfl⟩,⟨_,_,rfl⟩,⟨_,_,rfl⟩,⟨_,_,rfl⟩⟩) ?_ ⟨by decide,by decide,by decide,by decide⟩ ⟨qIA (by decide),qIA (by decide),qIA (by decide),qIA (by decide)⟩ ?_) ?_
 ·simp only[qIx,qIw,qGf,decS,push_cast,reduceIte,zA,zB,zC,zD,zE,zF,zG,reduceCtorEq,zH,zJ,cNI]
  rw[qE0,<- hn]
  rfl
 ·simp only[qIx,qIw,qIy,qGf,List.cons_append,List.nil_append,push_cast,reduceIte,zA,zB,zC,zD,zE,zF,zG,reduceCtorEq,zH,zJ,cNI]
 ·have hc:=hn'.c
  have hk:=hn'.k
  exact⟨rfl,hk,hk,hk⟩
 ·intro pre fl hpf t ht h4 hft
  have hm:midL 0 126 (decS l f++t)=decS l f:=by
   simp only[decS,List.cons_append,List.nil_append,qtU]
   rw[qCO fun x hx=>by have:=h4 x hx;omega]
   rfl
  have hsl:qtX 1000 (decS l f++t)=true:=by simpa[qtX,decS]using ht
  refine qCA rfl rfl hsl ?_
  rw[hm]
  have hS: ∀j,1000<=j->farL j (decS l f++t):=by
   intro j hj
   have n1: ∀i,i<1000->(i==j)=false:=fun i hi=>beq_false_of_ne oM
   simp only[decS,qCV,n1 2 (by decide),n1 4 (by decide),n1 8 (by decide),n1 16 (by decide),n1 17 (by decide),n1 18 (by decide),n1 103 (by decide),n1 102 (by decide),n1 105 (by decide),hft j hj,push_cast,reduceIte,zA,zB,zC,zD,zE,zF,zG,reduceCtorEq,zH,zJ,cNI]
  have hg1:getL (decS l f++t) 1= .sl false 1 (rows (frmC false) l):=rfl
  have hg2:getL (decS l f++t) 2= .ptr 2 0:=rfl
  have hg4:getL (decS l f++t) 4= .ptr 4 0:=rfl
  have hg7:getL (decS l f++t) 7= .int f:=rfl
  have hg8:getL (decS l f++t) 8= .ptr 8 0:=rfl
  have hg16:getL (decS l f++t) 16= .ptr 16 0:=rfl
  have hg17:getL (decS l f++t) 17= .ptr 17 0:=rfl
  have hg18:getL (decS l f++t) 18= .ptr 18 0:=rfl
  have hg77:getL (decS l f++t) 77= .clo 75 [103,102,105]:=rfl
  have hdS:decS l f=[(1,.sl false 1 (rows (frmC false) l)),(2,.ptr 2 0),(4,.ptr 4 0),(7,.int f),(8,.ptr 8 0),(16,.ptr 16 0),(17,.ptr 17 0),(18,.ptr 18 0),(77,.clo 75 [103,102,105])]:=rfl
  clear hm ht h4
  generalize decS l f++t=S at *
  rw[hdS]
  unfold qua
  have hfi:=qD3 hg (hpf.subset (List.mem_append_right _ zX))
  have hfx:=hfi.x
  have hfn:=qId hg hfi
  have hbd:=qDV hg hpf fl.x
  have hnp:=qIu hpf fl.x
  rw[qBX]at hbd hnp
  simp only[qBT,if_true]at hbd hnp
  obtain⟨hcl,hc0⟩:=qIt hg l hpf
  have hD:=hs fl.x hfx
  have hnw:=qIv (qDq g fl.x)
  have hpt:qCP (cfK (.view 109 0 (cN g)) (.view 111 0 g.kind.length) (.view 113 0 g.kind.length) (.view 115 0 g.kind.length) fl.kind) fl.i= .eptr (kA fl.kind) fl.i 0:=by
   rcases hfi.key with h|h|h|h<;>rw[h.1]<;>simp[cfK,qCP,kA]
  have hkb:(kA fl.kind==1020)=false:=by
   rcases hfi.key with h|h|h|h<;>rw[h.1]<;>rfl
  rw[hpt]
  simp only[qIy,qIx,qIw,qGf,List.cons_append,List.nil_append,hg1,hg2,hg4,hg7,hg8,hg16,hg17,hg18,hg77,qCv hsl,qCu hsl,qCw hsl,qCx hsl,qCy hsl,qCZ,qCW (hS 1020 (by decide)),push_cast,reduceIte,zA,zB,zC,zD,zE,zF,zG,reduceCtorEq,zH,zJ,cNI]
  refine qIn g hsl fl.kind fl.i fl.x fl.n n l (qDO g pre) (qBT pre fl.x) _ (cfP g l pre) rfl rfl rfl rfl rfl (by rw[qDW,hn]) (qDX hfx pre) oM oM (by rw[hD];omega) oM hcl hfi.keyIn hc0 hfn [(1079,.agg [.eptr (kA fl.kind) fl.i 0,.int fl.n])] sC _ ?_
  simp only[qCv hsl,qCu hsl,qCw hsl,qCx hsl,qCy hsl,push_cast,reduceIte,zA,zB,zC,zD,zE,zF,zG,reduceCtorEq,zH,zJ,cNI]
  refine⟨_,SWk.drop (fun i=>i !=1020) (fun _=>true),hsl,?_⟩
  rw[qIq,qDY]
  rfl
 ·rintro _ _ rfl
  simp only[decS,qIz,qIy,qIx,qIw,qGf,List.cons_append,List.nil_append,push_cast,reduceIte,zA,zB,zC,zD,zE,zF,zG,reduceCtorEq,zH,zJ,cNI]at h29 ⊢
  exact h29
set_option maxHeartbeats 4000000 in
theorem qIC (g : Grid) (hg : GOk g) (l : List (List Nat)) (n : Nat) (hn : n = wN g + 1) (hl : l.length = n) (f : Int) (T : List (Nat × PV)) (hT : qhn [0, 126, 1, 2, 4, 7, 8] T = []) (Q : Exit -> St -> Prop)
  (hs: ∀x,x<=wN g->(datD l x).length=nW (qDq g x))
  (h29:awp (Env.of Tryd.prog) ac34_r29 Q ⟨decS l f,qIz g n (outC datW n (datD l) n),datA (qDO g (qCl g)) (cfP g l (qCl g)),[]⟩):
  awp (Env.of Tryd.prog) ac34_r18 Q ⟨[(1,.sl false 1 (rows (frmC false) l)),(2,.ptr 2 0),(4,.ptr 4 0),(7,.int f),(8,.ptr 8 0)]++T,decB g n (outC datW n (datD l) n),[],[]⟩:=by
 have hn' :=hg.n
 have hw2:=hn'.w2
 have hgw:=hg.w
 simp only[ac34_r18,hT,decB,push_cast,reduceIte,zA,zB,zC,zD,zE,zF,zG,reduceCtorEq,zH,zJ,cNI]
 refine qDN [] [109,111,113,115] (qIo g hg) rfl (by simp only[qDK,St.noTo,List.all_cons,List.all_nil,qhK,qGf];rfl) rfl ?_
 simp only[cfA,qGf,hl,List.cons_append,List.nil_append,List.length_replicate,push_cast,reduceIte,zA,zB,zC,zD,zE,zF,zG,reduceCtorEq,zH,zJ,cNI]
 refine⟨⟨oM,oM,oM⟩,?_⟩
 exact qIB g hg l n hn f Q hs .bot h29
end Go.Proofs.YtecoaapkcnhlhaaDoor
namespace Go.Proofs.YtecoaapkcnhlhaaDoor
open Go Go.Vc Go.Ham Txt
def qID:PV:= .tup [.agg (cfgC true cfg0),.int 0,.int 380]
def cfV(g:Grid):List PV:=[.view 109 0 (cN g),.view 111 0 g.kind.length,.view 113 0 g.kind.length,.view 115 0 g.kind.length]
def qIE(g:Grid)(n:Nat)(C:List PV):List (Nat×List PV):=[(2,quX false g),(4,cfV g),(8,[.bv 31 1 n]),(16,cfV g),(17,[.view 74 0 n]),(18,[.clo 57 [8,17]]),(31,C),(102,quX false g),(103,[.ptr 16 0]),(105,[.int (qv1 g)]),(204,[.bot])]
theorem qIF{l:List Int}{n:Nat}(h:l.length=n):l.take n=l:=zY oM
set_option maxHeartbeats 4000000 in
theorem qIG (g : Grid) (hg : GOk g) (c : Cfg) (hc : CfgLn g c) (f : Int) (T : List (Nat × PV)) (hT : qhn [0, 126, 2, 4, 7, 16] T = []) (n : Nat) (C : List PV) (hC : ∀ pb pa, anyT pb pa C = false) (L : List Int) (Q : Exit -> St -> Prop)
  (hE:validE g c≠0-> ∀T B A,lk B 4=some [.nil,.nil,.nil,.nil]->Q .ret ⟨(4,.ptr 4 0)::(5,.int 0)::(6,.int 380)::T,B,A,[]⟩)
  (hQ:validE g c=0->Q .ret ⟨[(4,.ptr 4 0),(5,.int f),(6,.int 0),(7,.int f),(16,.ptr 16 0),(124,.agg (cfV g)),(125,.int f)],qIE g n C,datA L c,[]⟩):
  awp (Env.of Tryd.prog) ac34_r36 Q ⟨[(2,.ptr 2 0),(4,.ptr 4 0),(7,.int f),(8,.ptr 8 0),(16,.ptr 16 0)]++T,qIz g n C,datA L c,[]⟩:=by
 obtain⟨l1,l2,l3,l4⟩:=hc.lens
 have hv:=qyy g hg c (by have hw:=hg.wh;have hk:=hg.kind;have hc0:=hg.count;have hn:=hg.n;have hcc:=hn.c;exact⟨oM,oM,oM,oM⟩)
 simp only[ac34_r36,hT,qIz,qIx,qIw,datA,qIF l1,qIF l2,qIF l3,qIF l4,push_cast,reduceIte,zA,zB,zC,zD,zE,zF,zG,reduceCtorEq,zH,zJ,cNI]
 refine qrv hv (by exact⟨.refl _,.refl _,trivial⟩) ?_
 refine sB ?_
 refine qnY (fun h=> ?_) fun h=> ?_
 ·exact hE h _ _ _ rfl
 ·exact hQ (Classical.not_not.1 h)
set_option maxHeartbeats 4000000 in
theorem qII (g : Grid) (hg : GOk g) (l : List (List Nat)) (n x : Nat) (hn : n = wN g + 1) (hx : x < n) (f : Int) (c : Cfg) (L : List Int) (hL : L.length = n) (hLx : L.getD x default = qDq g x) (hs : (datD l x).length = nW (qDq g x)) (Q : Exit -> St -> Prop)
  (hE: ¬qC8 (datF l x) (qDq g x)-> ∀T B A,lk B 4=some [.nil,.nil,.nil,.nil]->Q .ret ⟨(4,.ptr 4 0)::(5,.int 0)::(6,.int 380)::T,B,A,[]⟩)
  (hQ:qC8 (datF l x) (qDq g x)-> ∀T y,qhn [0,126,2,4,7,8,16,17,18,98,99] T=[]->Q .normal ⟨[(2,.ptr 2 0),(4,.ptr 4 0),(7,.int f),(8,.ptr 8 0),(16,.ptr 16 0),(17,.ptr 17 0),(18,.ptr 18 0),(22,.int x),(98,.int n),(99,.int x)]++T,qIz g n (outC datW n (datD l) n),datA (L.set x y) c,[]⟩) (T:List (Nat×PV)) (hT:qhn [0,126,2,4,7,8,16,17,18,98,99] T=[]):
  awp (Env.of Tryd.prog) ac34_r31 Q ⟨[(2,.ptr 2 0),(4,.ptr 4 0),(7,.int f),(8,.ptr 8 0),(16,.ptr 16 0),(17,.ptr 17 0),(18,.ptr 18 0),(98,.int n),(99,.int x)]++T,qIz g n (outC datW n (datD l) n),datA L c,[]⟩:=by
 have hw2:=hg.n.w2
 have hbd:qDq g x<=1000000000:=qDV hg List.prefix_rfl x
 have hnw:=qIv (qDq g x)
 have hnw2:nW (qDq g x)<=100000000:=by unfold nW;omega
 have hnw3:57*nW (qDq g x)<=1000000056:=by unfold nW;omega
 have hcl:(outC datW n (datD l) n).length=n:=qG9 _ _ _
 have hLs: ∀y,(L.set x y).getD x default=y:=fun y=>by rw[zK,List.getElem?_set_self oM];rfl
 have hLset: ∀y z,(L.set x y).set x z=L.set x z:=fun y z=>List.set_set ..
 have hL0:L.set x ((qDq g x:Nat):Int)=L:=by
  rw[<- hLx]
  apply List.ext_getElem (by simp)
  intro j h1 h2
  rw[List.getElem_set]
  split
  ·next e=>subst e;simp[zK,h2]
  ·rfl
 simp only[ac34_r31,hT,push_cast,reduceIte,zA,zB,zC,zD,zE,zF,zG,reduceCtorEq,zH,zJ,cNI]
 refine qoO (fun j st=> ∃p:Nat,qDq g x<=p/\p<=57*nW (qDq g x)/\j=57*nW (qDq g x)-p/\(∀q,qDq g x<=q->q<p->(unW (datF l x)).getD q false=false)/\st=⟨[(2,.ptr 2 0),(4,.ptr 4 0),(7,.int f),(8,.ptr 8 0),(16,.ptr 16 0),(17,.ptr 17 0),(18,.ptr 18 0),(22,.int x),(98,.int n),(99,.int x)],qIz g n (outC datW n (datD l) n),datA (L.set x p) c,[]⟩) (57*nW (qDq g x)-qDq g x) ⟨_,SWk.refl _,qDq g x,oM,oM,rfl,fun q h1 h2=>by omega,by simp only[push_cast,reduceIte,zA,zB,zC,zD,zE,zF,zG,reduceCtorEq,zH,zJ,cNI];rw[hL0]⟩ ?_
 rintro j st ⟨p,hp1,hp2,rfl,hz,rfl⟩
 have hcell:(outC datW n (datD l) n).getD x .bot=outP datW (datD l) x:=by
  simp only[outC,zK,zS,List.getElem?_range hx,Option.map_some,Option.getD_some,if_pos hx]
 have hlenV:lenV (outP datW (datD l) x)=(True,.int (nW (qDq g x):Nat)):=by
  unfold outP
  split
  ·next h=>rw[<- hs,h];rfl
  ·rw[<- hs];simp only[qEY,yG,push_cast,reduceIte,zA,zB,zC,zD,zE,zF,zG,reduceCtorEq,zH,zJ,cNI]
 simp only[qIz,qIx,qIw,datA,hcl,hcell,hlenV,hLs,hL,yF,List.cons_append,List.nil_append,Nat.mul_one,qFf,push_cast,reduceIte,zA,zB,zC,zD,zE,zF,zG,reduceCtorEq,zH,zJ,cNI]
 refine⟨⟨oM,oM⟩,hx,⟨oM,oM⟩,oM,⟨oM,oM⟩,qnY (fun h=> ?_) fun h=> ?_⟩
 ·have hp3:p<57*nW (qDq g x):=by omega
  have hq57:p/57<(datD l x).length:=by omega
  have hbit:(datW ((datD l x).getD (p/57) 0)).testBit (p%57)=(unW (datF l x)).getD p false:=(qIl l x p).resolve_right oM
  have hnx:=qI8 (E:=Env.of Tryd.prog) rfl (Nat.zero_le _) (fun _ _ h=>h) (s:=[(2,.ptr 2 0),(4,.ptr 4 0),(7,.int f),(8,.ptr 8 0),(16,.ptr 16 0),(17,.ptr 17 0),(18,.ptr 18 0),(22,.int x),(98,.int n),(99,.int x),(113,.clo 57 [8,17]),(114,.int x)]) rfl n x hx oM (datD l) (qIz g n (outC datW n (datD l) n)) (datA (L.set x p) c) (L.set x p) [] rfl rfl rfl rfl (by rw[yF,hL]) p (hLs _) hq57 oM
  rw[hbit,hLset]at hnx
  refine qsP hnx ?_
  cases hv:(unW (datF l x)).getD p false with
  |false=>
    simp only[Bool.toNat_false,push_cast,reduceIte,zA,zB,zC,zD,zE,zF,zG,reduceCtorEq,zH,zJ,cNI]
    refine qnY (fun h=>absurd rfl h) fun _=> ?_
    refine⟨_,SWk.refl _,57*nW (qDq g x)-(p+1),oM,p+1,oM,oM,rfl,fun q h1 h2=> ?_,rfl⟩
    by_cases e:q=p
    ·rw[e];exact hv
    ·exact hz q h1 oM
  |true=>
    simp only[Bool.toNat_true,qIz,qIx,qIw,List.cons_append,List.nil_append,push_cast,reduceIte,zA,zB,zC,zD,zE,zF,zG,reduceCtorEq,zH,zJ,cNI]
    refine qnY (fun _=> ?_) fun h=>absurd (by decide) h
    refine hE (fun hr=> ?_) _ _ _ rfl
    have:=hr p hp1
    rw[hv]at this
    cases this
 ·obtain rfl:p=57*nW (qDq g x):=by omega
  refine hQ (fun q hq=> ?_) [(102,.view 74 0 n),(103,.int x),(104,.eptr 74 x 0),(105,.int (57*nW (qDq g x):Nat)),(106,.bv 31 1 n),(107,.int x),(108,.ptr 31 x),(109,outP datW (datD l) x),(110,.int (nW (qDq g x):Nat)),(111,.int (57*(nW (qDq g x):Nat))),(112,.bool (decide (((57*nW (qDq g x):Nat):Int)<57*(nW (qDq g x):Nat))))] _ rfl
  by_cases h2:q<57*nW (qDq g x)
  ·exact hz q hq h2
  ·rw[zK,List.getElem?_eq_none (by rw[qBM];unfold datF;rw[yG];have:(l.getD x []).length=nW (qDq g x):=hs;omega)]
   rfl
end Go.Proofs.YtecoaapkcnhlhaaDoor
namespace Go.Proofs.YtecoaapkcnhlhaaDoor
open Go Go.Vc Go.Ham Txt
set_option maxHeartbeats 400000 in
theorem qIJ (g : Grid) (hg : GOk g) (l : List (List Nat)) (n : Nat) (hn : n = wN g + 1) (hl : l.length = n) (f : Int) (c : Cfg) (hc : CfgLn g c) (L : List Int) (hL : L.length = n) (hLx : ∀ x, x < n -> L.getD x default = qDq g x) (hs : ∀ x, x <= wN g -> (datD l x).length = nW (qDq g x)) (Q : Exit -> St -> Prop)
  (hE: ¬((∀x,x<wN g+1->qC8 (datF l x) (qDq g x))/\validE g c=0)-> ∀T B A,lk B 4=some [.nil,.nil,.nil,.nil]->Q .ret ⟨(4,.ptr 4 0)::(5,.int 0)::(6,.int 380)::T,B,A,[]⟩)
  (hQ:(∀x,x<wN g+1->qC8 (datF l x) (qDq g x))->validE g c=0-> ∀L',Q .ret ⟨[(4,.ptr 4 0),(5,.int f),(6,.int 0),(7,.int f),(16,.ptr 16 0),(124,.agg (cfV g)),(125,.int f)],qIE g n (outC datW n (datD l) n),datA L' c,[]⟩):
  awp (Env.of Tryd.prog) ac34_r29 Q ⟨decS l f,qIz g n (outC datW n (datD l) n),datA L c,[]⟩:=by
 have hw2:=hg.n.w2
 simp only[ac34_r29,decS,hl,push_cast,reduceIte,zA,zB,zC,zD,zE,zF,zG,reduceCtorEq,zH,zJ,cNI]
 refine qoO (fun j st=> ∃(k:Nat) (L' :List Int),k<=n/\j=n-k/\L'.length=n/\(∀x,k<=x->x<n->L'.getD x default=qDq g x)/\(∀x,x<k->qC8 (datF l x) (qDq g x))/\st=⟨[(2,.ptr 2 0),(4,.ptr 4 0),(7,.int f),(8,.ptr 8 0),(16,.ptr 16 0),(17,.ptr 17 0),(18,.ptr 18 0),(98,.int n),(99,.int k)],qIz g n (outC datW n (datD l) n),datA L' c,[]⟩) n ⟨_,SWk.refl _,0,L,oM,oM,hL,fun x _ h=>hLx x h,fun x h=>absurd h (Nat.not_lt_zero _),by simp only[push_cast,reduceIte,zA,zB,zC,zD,zE,zF,zG,reduceCtorEq,zH,zJ,cNI]⟩ ?_
 rintro j st ⟨k,L',hk,rfl,hL',hLk,hz,rfl⟩
 refine sB ?_
 refine qnY (fun h=> ?_) fun h=> ?_
 ·have hk' :k<n:=by omega
  have e1:=hLk k oM hk'
  have e2:=hs k oM
  refine qII g hg l n k hn hk' f c L' hL' e1 e2 _ ?_ ?_ [(100,.bool (decide ((k:Int)<n)))] ?_
  ·exact fun hr T B A h=>hE (fun hh=>hr (hh.1 k oM)) T B A h
  ·intro hr T y hT
   simp only[List.cons_append,List.nil_append,qhr,hT,push_cast,reduceIte,zA,zB,zC,zD,zE,zF,zG,reduceCtorEq,zH,zJ,cNI]
   refine⟨⟨oM,oM⟩,_,SWk.refl _,n-(k+1),oM,k+1,L'.set k y,oM,rfl,by rw[yF,hL'],fun x h1 h2=> ?_,fun x h1=> ?_,rfl⟩
   ·have:=hLk x oM h2
    rw[zK,List.getElem?_set_ne oM,<- zK]
    exact this
   ·by_cases e:x=k
    ·rw[e];exact hr
    ·exact hz x oM
  ·exact sC
 ·obtain rfl:k=n:=by omega
  refine qIG g hg c hc f [(17,.ptr 17 0),(18,.ptr 18 0),(98,.int k),(99,.int k),(100,.bool (decide ((k:Int)<k)))] sC k _ (fun _ _=>qGf _ _ _ _) L' Q (fun hv T B A h=>hE (fun hh=>hv hh.2) T B A h) fun hv=> ?_
  exact hQ (fun x hx=>hz x oM) hv L'
end Go.Proofs.YtecoaapkcnhlhaaDoor
namespace Go.Proofs.YtecoaapkcnhlhaaDoor
open Go Go.Vc Go.Ham Txt
def qIK(g:Grid)(l:List (List Nat)):PV:= .tup [.agg (cfgC true (decC g fun x=>unW (datF l x))),.int (cntF l:Nat),.int 0]
theorem qIL(g:Grid)(l:List (List Nat)):qGO l=(qDr g).map Int.ofNat ↔ l.map List.length=qDr g:=by
 have e:qGO l=(l.map List.length).map Int.ofNat:=by unfold qGO;rw[List.map_map];rfl
 rw[e]
 constructor
 ·intro h
  have hi:Function.Injective Int.ofNat:=fun a b h=>Int.ofNat.inj h
  exact(List.map_inj_right fun a b h=>hi h).1 h
 ·intro h;rw[h]
theorem qIM(g:Grid):(qDr g).length=wN g+1:=by simp[qDr]
theorem qIN{g:Grid}{l:List (List Nat)}(h:l.map List.length=qDr g){x:Nat}(hx:x<=wN g):(datD l x).length=nW (qDq g x):=by
 have hl:l.length=wN g+1:=by have:=congrArg List.length h;simpa[qDr]using this
 have:=congrArg (fun l=>l[x]?) h
 simp only[qDr,zS,List.getElem?_range (show x<wN g+1 by omega),Option.map_some]at this
 rw[zL oM]at this
 unfold datD
 rw[zK,zL oM]
 simpa using this
theorem qIO{g:Grid}(hg:GOk g)(l:List (List Nat)):CfgLn g (cfP g l (qCl g)):=(qDm hg (strB l)).1
set_option maxHeartbeats 1000000 in
theorem qIP(g:Grid)(hg:GOk g)(l:List (List Nat))(hl:FrmSm l)(r:PV)(hp:r=qIK g l\/r=qID)(h1:Dec38 g l->r=qIK g l)(h2: ¬Dec38 g l->r=qID):FnEq Tryd.prog 34 [.agg (quX false g),.sl false 1 (rows (frmC false) l)] r:=by
 have hsz:=qE8 g hg
 have hw2:=hg.n.w2
 have heq:=qGR l hl ((qDr g).map Int.ofNat) (by rw[yG,qIM];omega)
 have hP:Perm r:=by
  rcases hp with rfl|rfl
  ·unfold qIK;simp only[push_cast,reduceIte,zA,zB,zC,zD,zE,zF,zG,reduceCtorEq,zH,zJ,cNI];exact⟨fun _ _=>trivial,fun _ _=>trivial,fun _ _=>trivial,fun _ _=>trivial⟩
  ·unfold qID;simp only[cfg0,push_cast,reduceIte,zA,zB,zC,zD,zE,zF,zG,reduceCtorEq,zH,zJ,cNI];simp
 refine FnEq.of_awp Tryd.func34 ok34 (by show 2<=_;decide) hP ?_
 have hE: ¬Dec38 g l-> ∀T B A,lk B 4=some [.nil,.nil,.nil,.nil]->retK [RV.cell 4 true 4,RV.tmp 5,RV.tmp 6] (fun x=>Sub x r) .ret ⟨(4,.ptr 4 0)::(5,.int 0)::(6,.int 380)::T,B,A,[]⟩:=by
  intro hn T B A hB
  rw[h2 hn]
  unfold qID
  simp only[cfg0,hB,push_cast,reduceIte,zA,zB,zC,zD,zE,zF,zG,reduceCtorEq,zH,zJ,cNI]
  done
 simp only[ac34,rv34,push_cast,reduceIte,zA,zB,zC,zD,zE,zF,zG,reduceCtorEq,zH,zJ,cNI]
 refine qrv hsz sC ?_
 refine sB ?_
 refine qrv heq sC ?_
 refine sB ?_
 refine qnX (fun h=> ?_) fun h=> ?_
 ·have hne: ¬qGO l=(qDr g).map Int.ofNat:=by simpa using h
  rw[h2 fun h=>hne ((qIL g l).2 h.size)]
  unfold qID
  simp only[cfg0,push_cast,reduceIte,zA,zB,zC,zD,zE,zF,zG,reduceCtorEq,zH,zJ,cNI]
 ·have hss:l.map List.length=qDr g:=(qIL g l).1 (by simpa using h)
  have hlen:l.length=wN g+1:=by have:=congrArg List.length hss;simpa[qDr]using this
  have hat:=fun x hx=>qIN (g:=g) hss (x:=x) hx
  have hdn:=hlen
  refine qHO g l hl _ (fun hb C' A=> ?_) ?_ [(23,.sl false 1 (rows (frmC false) l)),(24,.agg (quX false g)),(25,.sl true 1 (ints ((qDr g).map Int.ofNat))),(26,.bool (decide (qGO l=(qDr g).map Int.ofNat))),(27,.bool (!decide (qGO l=(qDr g).map Int.ofNat)))] rfl
  ·refine hE (fun hd=> ?_) [(54,.agg [.nil,.nil,.nil,.nil])] _ _ ?_
   ·obtain⟨ws,hw,hx⟩:=List.all_eq_false.1 hb
    exact hx (hd.ok ws hw)
   ·rfl
  ·intro hok T hT
   rw[hlen]
   refine qIC g hg l (wN g+1) rfl hlen (cntF l:Nat) T hT _ (fun x hx=>hat x hx) ?_
   refine qIJ g hg l (wN g+1) rfl hlen (cntF l:Nat) (cfP g l (qCl g)) (qIO hg l) (qDO g (qCl g)) (qDW g _) (fun x hx=>qDX oM _) (fun x hx=>hat x hx) _ ?_ ?_
   ·intro hn T B A hB
    exact hE (fun hd=>hn ⟨hd.rest,hd.valid⟩) T B A hB
   ·intro hr hv L'
    have hD:Dec38 g l:=⟨hss,fun ws hw=>yE.1 hok ws hw,hr,hv⟩
    obtain⟨l1,l2,l3,l4⟩:=(qIO hg l).lens
    rw[h1 hD]
    unfold qIK
    rw[<- qIp]
    simp only[qIE,cfV,datA,qIF l1,qIF l2,qIF l3,qIF l4,qGf,push_cast,reduceIte,zA,zB,zC,zD,zE,zF,zG,reduceCtorEq,zH,zJ,cNI]
    exact⟨fun _ _=>trivial,fun _ _=>trivial,fun _ _=>trivial,fun _ _=>trivial⟩
end Go.Proofs.YtecoaapkcnhlhaaDoor
namespace Go.Proofs.YtecoaapkcnhlhaaDoor.Txt
open Go Go.Vc
set_option maxRecDepth 100000
def ac13:AC:=
 (.seq (.reg [0,16,0,1] [
 (aO 2 (.box (.t 0))),(aO 3 (.box (.t 1))),(aO 4 (.alc [.nil,zI]))])
 (.seq (.reg [0,16,2,3,4] [
 (aO 8 (.ld true 5 (.t 2))),(aO 9 (.ld true 4 (.t 3))),(aO 10 (.cal 33 [(.t 8),(.t 9)])),(aO 7 (.mv (.t 10))),(aO 11 (.ext (.t 7) 0)),(aO 12 (.ext (.t 7) 1)),(aO 5 (.mv (.t 11))),(aO 6 (.mv (.t 12)))])
 (.seq (.reg [0,16,4,5,6] [
 (aO 13 (.mv (.t 5))),(aO 14 (.mv (.t 6))),(aO 15 (.bld [.nil,zI] [(0,1,(.t 13)),(1,1,(.t 14))])),(aN (.sto 2 (.t 4) (.t 15)))])
 .ret)))
def rv13:List RV:=[.cell 4 true 2]
theorem ok13:fnOk Tryd.prog ac13 rv13 Tryd.f13=true:=by kernel_rfl

def ac14:AC:=
 (.seq (.reg [0,19,0,1] [
 (aO 2 (.box (.t 0))),(aO 4 (.alc [.nil,.nil,.nil,.nil,zI,zI]))])
 (.seq (.reg [0,19,1,2,4] [
 (aO 9 (.ld true 5 (.t 2))),(aO 10 (.mv (.t 1))),(aO 11 (.cal 34 [(.t 9),(.t 10)])),(aO 8 (.mv (.t 11))),(aO 12 (.ext (.t 8) 0)),(aO 13 (.ext (.t 8) 1)),(aO 14 (.ext (.t 8) 2)),(aO 5 (.alc [.nil,.nil,.nil,.nil])),(aN (.sto 4 (.t 5) (.t 12))),(aO 6 (.mv (.t 13))),(aO 7 (.mv (.t 14)))])
 (.seq (.reg [0,19,4,5,6,7] [
 (aO 15 (.ld true 4 (.t 5))),(aO 16 (.mv (.t 6))),(aO 17 (.mv (.t 7))),(aO 18 (.bld [.nil,.nil,.nil,.nil,zI,zI] [(0,4,(.t 15)),(4,1,(.t 16)),(5,1,(.t 17))])),(aN (.sto 6 (.t 4) (.t 18)))])
 .ret)))
def rv14:List RV:=[.cell 4 true 6]
theorem ok14:fnOk Tryd.prog ac14 rv14 Tryd.f14=true:=by kernel_rfl

def ac20:AC:=
 (.seq (.reg [0,16,0,1] [
 (aO 3 (.box (.t 1))),(aO 4 (.alc [.nil,zI]))])
 (.seq (.reg [0,16,0,3,4] [
 (aO 8 (.mv (.t 0))),(aO 9 (.ld true 3 (.t 3))),(aO 10 (.cal 43 [(.t 8),(.t 9)])),(aO 7 (.mv (.t 10))),(aO 11 (.ext (.t 7) 0)),(aO 12 (.ext (.t 7) 1)),(aO 5 (.mv (.t 11))),(aO 6 (.mv (.t 12)))])
 (.seq (.reg [0,16,4,5,6] [
 (aO 13 (.mv (.t 5))),(aO 14 (.mv (.t 6))),(aO 15 (.bld [.nil,zI] [(0,1,(.t 13)),(1,1,(.t 14))])),(aN (.sto 2 (.t 4) (.t 15)))])
 .ret)))
def rv20:List RV:=[.cell 4 true 2]
theorem ok20:fnOk Tryd.prog ac20 rv20 Tryd.f20=true:=by kernel_rfl

def ac21:AC:=
 (.seq (.reg [0,16,0] [
 (aO 2 (.alc [.nil,zI,.nil]))])
 (.seq (.reg [0,16,0,2] [
 (aO 7 (.mv (.t 0))),(aO 8 (.cal 44 [(.t 7)])),(aO 6 (.mv (.t 8))),(aO 9 (.ext (.t 6) 0)),(aO 10 (.ext (.t 6) 1)),(aO 11 (.ext (.t 6) 2)),(aO 3 (.mv (.t 9))),(aO 4 (.mv (.t 10))),(aO 5 (.mv (.t 11)))])
 (.seq (.reg [0,16,2,3,4,5] [
 (aO 12 (.mv (.t 3))),(aO 13 (.mv (.t 4))),(aO 14 (.mv (.t 5))),(aO 15 (.bld [.nil,zI,.nil] [(0,1,(.t 12)),(1,1,(.t 13)),(2,1,(.t 14))])),(aN (.sto 3 (.t 2) (.t 15)))])
 .ret)))
def rv21:List RV:=[.cell 2 true 3]
theorem ok21:fnOk Tryd.prog ac21 rv21 Tryd.f21=true:=by kernel_rfl

def ac9:AC:=
 (.seq (.reg [0,19,0] [
 (aO 1 (.box (.t 0))),(aO 2 (.mv (.c (.sc (.bool false)))))])
 (.seq (.rgs [
 ([0,19,1],[
 (aO 3 (.fa 0 (.t 1))),(aO 4 (.ld false 1 (.t 3))),(aO 5 (.dvd .rem true .u8 (.t 4) (.c (.sc (.int .u8 4))))),(aO 6 (.cmp .lss .u8 (.t 5) (.c (.sc (.int .u8 3))))),(aO 7 (.mv (.t 6))),⟨some 8,some (7,true),.fa 1 (.t 1)⟩,⟨some 9,some (7,true),.ld false 1 (.t 8)⟩,⟨some 10,some (7,true),.dvd .rem true .u8 (.t 9) (.c (.sc (.int .u8 4)))⟩,⟨some 11,some (7,true),.cmp .lss .u8 (.t 10) (.c (.sc (.int .u8 3)))⟩,(aO 12 (.pick (.t 7) (.t 11) (.c (.sc (.bool false))))),(aO 13 (.mv (.t 12))),⟨some 14,some (13,true),.fa 4 (.t 1)⟩]),([0,19,13,14],[
 ⟨some 15,some (13,true),.ld false 1 (.t 14)⟩,⟨some 16,some (13,true),.len (.t 15)⟩,⟨some 17,some (13,true),.cmp .leq .i64 (.t 16) (kI 40)⟩,(aO 18 (.pick (.t 13) (.t 17) (.c (.sc (.bool false))))),(aO 2 (.mv (.t 18)))])])
 .ret))
def rv9:List RV:=[.tmp 2]
theorem ok9:fnOk Tryd.prog ac9 rv9 Tryd.f9=true:=by kernel_rfl
end Go.Proofs.YtecoaapkcnhlhaaDoor.Txt
namespace Go.Proofs.YtecoaapkcnhlhaaDoor
open Go Go.Vc Go.Ham Txt
def fmdC(q:Bool)(L:List (List Nat))(e:Int):List PV:=[.sl q 1 (rows (frmC q) L),.int e]
@[push_cast] theorem qIQ(q:Bool)(L:List (List Nat))(e:Int):fmdC q L e=[.sl q 1 (rows (frmC q) L),.int e]:=rfl
noncomputable def encL (g:Grid) (c:Cfg):List (List Nat):=if validE g c=0 then qDs g c else[]
noncomputable def encE (g:Grid) (c:Cfg):Int:=if validE g c=0 then 0 else 310
theorem qIR(g:Grid)(hg:GOk g)(c:Cfg)(hs:CfgSm c):FnEq Tryd.prog 13 [.agg (quX false g),.agg (cfgC false c)] (.agg (fmdC true (encL g c) (encE g c))):=by
 unfold encL encE
 by_cases h:validE g c=0
 ·rw[if_pos h,if_pos h]
  have he:=qGq g hg c hs h
  refine FnEq.of_awp Tryd.func13 ok13 (by show 2<=_;decide) (by simp only[push_cast,reduceIte,zA,zB,zC,zD,zE,zF,zG,reduceCtorEq,zH,zJ,cNI];simp) ?_
  simp only[ac13,rv13,push_cast,reduceIte,zA,zB,zC,zD,zE,zF,zG,reduceCtorEq,zH,zJ,cNI]
  refine qrv he sC ?_
  refine sB ?_
  exact fun _ _ _ _=>trivial
 ·rw[if_neg h,if_neg h]
  have he:=qFA g hg c hs h
  refine FnEq.of_awp Tryd.func13 ok13 (by show 2<=_;decide) (by simp only[push_cast,reduceIte,zA,zB,zC,zD,zE,zF,zG,reduceCtorEq,zH,zJ,cNI];simp) ?_
  simp only[ac13,rv13,push_cast,reduceIte,zA,zB,zC,zD,zE,zF,zG,reduceCtorEq,zH,zJ,cNI]
  refine qrv he sC ?_
  simp only[rows,List.map_nil,push_cast,reduceIte,zA,zB,zC,zD,zE,zF,zG,reduceCtorEq,zH,zJ,cNI]
def fldF(l:List (List Nat))(f:FlipA):List (List Nat):=if qHw l f then qHb l f.x.toNat f.k.toNat f.b.toNat else[]
def fldE(l:List (List Nat))(f:FlipA):Int:=if qHw l f then 0 else 1
theorem qIS(l:List (List Nat))(hl:FrmSm l)(f:FlipA):FnEq Tryd.prog 20 [.sl false 1 (rows (frmC false) l),.agg (qHu f)] (.agg (fmdC true (fldF l f) (fldE l f))):=by
 have he:=qHy l hl f
 unfold qHx at he
 unfold fldF fldE
 refine FnEq.of_awp Tryd.func20 ok20 (by show 2<=_;decide) (by simp only[push_cast,reduceIte,zA,zB,zC,zD,zE,zF,zG,reduceCtorEq,zH,zJ,cNI];simp) ?_
 simp only[ac20,rv20,push_cast,reduceIte,zA,zB,zC,zD,zE,zF,zG,reduceCtorEq,zH,zJ,cNI]
 split at he
 ·next h=>
  simp only[if_pos h]
  refine qrv he sC ?_
  refine sB ?_
  exact fun _ _ _ _=>trivial
 ·next h=>
  simp only[if_neg h]
  refine qrv he sC ?_
  simp only[rows,List.map_nil,push_cast,reduceIte,zA,zB,zC,zD,zE,zF,zG,reduceCtorEq,zH,zJ,cNI]
def scdC(q:Bool)(L:List (List Nat))(n:Int)(bad:List Int):List PV:=[.sl q 1 (rows (frmC q) L),.int n,.sl q 1 (ints bad)]
@[push_cast] theorem qIT(q:Bool)(L:List (List Nat))(n:Int)(bad:List Int):scdC q L n bad=[.sl q 1 (rows (frmC q) L),.int n,.sl q 1 (ints bad)]:=rfl
theorem qIU(l:List (List Nat))(hl:FrmSm l):FnEq Tryd.prog 21 [.sl false 1 (rows (frmC false) l)] (.agg (scdC true (scrF l) (cntF l:Nat) (badN l l.length))):=by
 have he:=qI6 l hl
 unfold scrV at he
 refine FnEq.of_awp Tryd.func21 ok21 (by show 1<=_;decide) (by simp only[push_cast,reduceIte,zA,zB,zC,zD,zE,zF,zG,reduceCtorEq,zH,zJ,cNI];simp) ?_
 simp only[ac21,rv21,push_cast,reduceIte,zA,zB,zC,zD,zE,zF,zG,reduceCtorEq,zH,zJ,cNI]
 refine qrv he sC ?_
 refine sB ?_
 exact⟨fun _ _ _ _=>trivial,fun _ _=>trivial⟩
def dcdC(q:Bool)(c:Cfg)(n e:Int):List PV:=cfgC q c++[.int n,.int e]
@[push_cast] theorem qIV(q:Bool)(c:Cfg)(n e:Int):dcdC q c n e=[.sl q 1 (ints c.sel),.sl q 1 (ints c.mode),.sl q 1 (ints c.tab),.sl q 1 (ints c.ram),.int n,.int e]:=rfl
def decG(g:Grid)(l:List (List Nat)):Cfg:=decC g fun x=>unW (datF l x)
theorem qIW(g:Grid)(hg:GOk g)(l:List (List Nat))(hl:FrmSm l)(h:Dec38 g l):FnEq Tryd.prog 14 [.agg (quX false g),.sl false 1 (rows (frmC false) l)] (.agg (dcdC true (decG g l) (cntF l:Nat) 0)):=by
 have he:=qIP g hg l hl (qIK g l) (.inl rfl) (fun _=>rfl) (fun hn=>absurd h hn)
 unfold qIK at he
 refine FnEq.of_awp Tryd.func14 ok14 (by show 2<=_;decide) (by simp only[push_cast,reduceIte,zA,zB,zC,zD,zE,zF,zG,reduceCtorEq,zH,zJ,cNI];simp) ?_
 simp only[ac14,rv14,push_cast,reduceIte,zA,zB,zC,zD,zE,zF,zG,reduceCtorEq,zH,zJ,cNI]
 refine qrv he sC ?_
 refine sB ?_
 unfold decG
 exact⟨⟨fun _ _=>trivial,fun _ _=>trivial,fun _ _=>trivial,fun _ _=>trivial⟩,.refl _,.refl _,.refl _,.refl _⟩
theorem qIX(g:Grid)(hg:GOk g)(l:List (List Nat))(hl:FrmSm l)(h: ¬Dec38 g l):FnEq Tryd.prog 14 [.agg (quX false g),.sl false 1 (rows (frmC false) l)] (.agg (dcdC true cfg0 0 380)):=by
 have he:=qIP g hg l hl qID (.inr rfl) (fun hn=>absurd hn h) (fun _=>rfl)
 unfold qID at he
 refine FnEq.of_awp Tryd.func14 ok14 (by show 2<=_;decide) (by simp only[cfg0,push_cast,reduceIte,zA,zB,zC,zD,zE,zF,zG,reduceCtorEq,zH,zJ,cNI];simp) ?_
 simp only[ac14,rv14,push_cast,reduceIte,zA,zB,zC,zD,zE,zF,zG,reduceCtorEq,zH,zJ,cNI]
 refine qrv he (by simp only[cfg0,push_cast,reduceIte,zA,zB,zC,zD,zE,zF,zG,reduceCtorEq,zH,zJ,cNI]) ?_
 simp only[cfg0,push_cast,reduceIte,zA,zB,zC,zD,zE,zF,zG,reduceCtorEq,zH,zJ,cNI]
 exact fun _ _=>trivial
theorem qIY(x:RawG)(hx:x.By):FnEq Tryd.prog 9 [.agg (qyL false x)] (.bool (decide (x.w%4<3/\x.h%4<3/\x.kind.length<=40))):=by
 have h1:=hx.w
 have h2:=hx.h
 refine FnEq.of_awp Tryd.func9 ok9 (by show 1<=_;decide) (by simp only[push_cast,reduceIte,zA,zB,zC,zD,zE,zF,zG,reduceCtorEq,zH,zJ,cNI]<;>first|exact fun _ _=>trivial|simp) ?_
 simp only[ac9,rv9,push_cast,reduceIte,zA,zB,zC,zD,zE,zF,zG,reduceCtorEq,zH,zJ,cNI]
 refine⟨⟨h1.1,h1.2,by decide⟩,?_⟩
 refine qrz rfl (fun h3=> ?_) fun h3=> ?_<;>simp only[push_cast,reduceIte,zA,zB,zC,zD,zE,zF,zG,reduceCtorEq,zH,zJ,cNI]
 ·refine⟨⟨h2.1,h2.2,by decide⟩,?_⟩
  refine qrz rfl (fun h4=> ?_) fun h4=> ?_<;>simp only[push_cast,reduceIte,zA,zB,zC,zD,zE,zF,zG,reduceCtorEq,zH,zJ,cNI]
  ·congr 1;rw[decide_eq_decide];omega
  ·rw[decide_eq_false oM]
 ·rw[decide_eq_false oM]
end Go.Proofs.YtecoaapkcnhlhaaDoor
namespace Go.Proofs.YtecoaapkcnhlhaaDoor
open Go Go.Vc Go.Ham Txt
theorem qIZ{g:Grid}(hg:GOk g){c:Cfg}(hc:validE g c=0):Dec38 g (qDs g c)/\decG g (qDs g c)=c:=
 qDC hg hc (qDE g c) (fun ws hws=>yE.2 fun w hw=>by rw[qDH hws hw];rfl) fun x hx=>qDI hx
theorem qJ0{g:Grid}(hg:GOk g){c:Cfg}(hc:validE g c=0){m:List (List Nat)}(h:Near (qDs g c) m):Dec38 g m/\decG g m=c/\scrF m=qDs g c/\ ∀ws∈m,qDt ws=true:=by
 obtain⟨h1,h2,h3⟩:=qHt (qDG g c) (fun ws hws w hw=>qDH hws hw) h
 obtain⟨a,b⟩:=qDC hg hc (l:=m) (by rw[h.size];exact qDE g c) h1 fun x hx=>by rw[h2 x];exact qDI hx
 exact⟨a,b,h3,h1⟩
theorem qJ1{l:List (List Nat)}(h: ∀ws∈l,qDt ws=true):badN l l.length=[]:=by
 unfold badN
 have:(List.range l.length).filter (fun x=> !qDt (l.getD x []))=[]:=by
  rw[List.filter_eq_nil_iff]
  intro x hx
  have hx:=List.mem_range.1 hx
  rw[zK,zL hx]
  simp[h _ (List.getElem_mem hx)]
 rw[this];rfl
def gE:Grid:=⟨1,1,1,0,[1]⟩
def cE0:Cfg:=⟨[0,0,0,0,0,0,0,0],[0],[0],[0]⟩
def cE1:Cfg:=⟨[0,0,1,0,0,0,0,0],[0],[0],[0]⟩
theorem qJ2:GOk gE:=⟨by decide,by decide,by decide,by decide,by decide⟩
theorem rE:(List.range 8).map (fun n:Nat=>(rdrF gE (n:Int)).length)=[0,0,2,2,2,2,3,3]:=by decide+kernel
theorem nbE:(List.range 8).map (fun n:Nat=>qCe gE n)=[0,0,2,2,2,2,2,2]:=by
 have h:(fun n:Nat=>qCe gE n)=fun n:Nat=>Go.Lib.bitLen (rdrF gE (n:Int)).length:=by
  funext n;unfold qCe;rw[qy3 qJ2]
 rw[h,show(fun n:Nat=>Go.Lib.bitLen (rdrF gE (n:Int)).length)=Go.Lib.bitLen ∘ fun n:Nat=>(rdrF gE (n:Int)).length from rfl,<- List.map_map,rE]
 decide
def fE:List Fld:=[⟨0,0,0,0⟩,⟨0,0,1,0⟩,⟨0,0,2,2⟩,⟨0,0,3,2⟩,⟨0,0,4,2⟩,⟨0,0,5,2⟩,⟨0,0,6,2⟩,⟨0,0,7,2⟩,⟨0,1,0,2⟩,⟨0,2,0,16⟩,⟨0,3,0,8⟩]
theorem qJ3:qCf gE 0 0 8=[⟨0,0,0,0⟩,⟨0,0,1,0⟩,⟨0,0,2,2⟩,⟨0,0,3,2⟩,⟨0,0,4,2⟩,⟨0,0,5,2⟩,⟨0,0,6,2⟩,⟨0,0,7,2⟩]:=by
 have h:=nbE
 simp only[List.range,List.range.loop,zW,List.map_nil,List.cons.injEq]at h
 obtain⟨h0,h1,h2,h3,h4,h5,h6,h7,-⟩:=h
 simp only[qCf,List.range,List.range.loop,zW,List.map_nil,Nat.zero_add,h0,h1,h2,h3,h4,h5,h6,h7]
theorem qJ4:qCl gE=fE:=by
 have h:qCl gE=qCf gE 0 0 8++qCg 0 0:=by
  show qCj gE 1++qCf gE 1 8 0=_
  rw[show qCj gE 1=qCi gE 0 1 from by simp[qCj,List.range_succ,show hN gE=1 from rfl],show qCi gE 0 1=qCh gE 0 0 from by simp[qCi,List.range_succ],qCh]
  rfl
 rw[h,qJ3];rfl
theorem vE{c:Cfg}(h0:qyr gE c)(h1: ∀i,i<c.sel.length->c.sel.getD i 0≠0->i=2/\c.sel.getD 2 0=1)(h2: ∀t,t<gE.kind.length->qyt gE c t):validE gE c=0:=
 qyu h0 (fun i hi h=>by
  obtain⟨rfl,h3⟩:=h1 i hi h
  rw[h3,qy3 qJ2]
  decide+kernel) h2
theorem vE0:validE gE cE0=0:=vE (by decide+kernel) (by decide) (by decide)
theorem vE1:validE gE cE1=0:=vE (by decide+kernel) (by decide) (by decide)
theorem vEn:validE gE cfg0≠0:=by rw[qyv (by decide+kernel)];decide
theorem eE0:qDs gE cE0=[[0],[]]:=by
 unfold qDs
 rw[qJ4]
 decide+kernel
theorem eE1:qDs gE cE1=[[15],[]]:=by
 unfold qDs
 rw[qJ4]
 decide+kernel
theorem szE:qDr gE=[1,0]:=by
 unfold qDr qDq
 rw[qJ4]
 decide+kernel
theorem qJ5:Near [[15],[]] [[9223372036854775823],[]]:=by
 have h:=(Near.refl [[15],[]]).flip (x:=0) (k:=0) (b:=63) ⟨by decide,by decide⟩ (by decide) rfl
 exact h
theorem dgE:digF [[0],[]]≠digF [[15],[]]:=by decide+kernel
theorem dfE:qGu [[0],[]] [[15],[]]=[0]:=by decide
end Go.Proofs.YtecoaapkcnhlhaaDoor
namespace Go.Proofs.YtecoaapkcnhlhaaDoor.Txt
open Go Go.Vc
set_option maxRecDepth 100000
def ac8:AC:=
 (.seq (.reg [0,171] [
 (aO 0 (.mv (.c (.sc (.bool false)))))])
 (.seq (.reg [0,171] [
 (aO 10 (.bsl 1 3 [zI] 1 [(0,(kI 1))])),(aO 11 (.bld [zI,zI,zI,zI,.nil] [(0,1,(kI 1)),(1,1,(kI 1)),(2,1,(kI 1)),(4,1,(.t 10))])),(aO 1 (.alc [zI,zI,zI,zI,.nil])),(aN (.sto 5 (.t 1) (.t 11)))])
 (.seq (.reg [0,171,1] [
 (aO 12 (.mks 1 3 8 [zI] (kI 8) (kI 8))),(aO 13 (.bsl 1 3 [zI] 1 [(0,(kI 0))])),(aO 14 (.bsl 1 3 [zI] 1 [(0,(kI 0))])),(aO 15 (.bsl 1 3 [zI] 1 [(0,(kI 0))])),(aO 16 (.bld [.nil,.nil,.nil,.nil] [(0,1,(.t 12)),(1,1,(.t 13)),(2,1,(.t 14)),(3,1,(.t 15))])),(aO 2 (.alc [.nil,.nil,.nil,.nil])),(aN (.sto 4 (.t 2) (.t 16)))])
 (.seq (.reg [0,171,1,2] [
 (aO 17 (.ld true 5 (.t 1))),(aO 18 (.ld true 4 (.t 2))),(aO 19 (.cal 13 [(.t 17),(.t 18)])),(aO 3 (.alc [.nil,zI])),(aN (.sto 2 (.t 3) (.t 19)))])
 (.seq (.reg [0,171,1,2,3] [
 (aO 20 (.bsl 1 3 [zI] 8 [(0,(kI 0)),(1,(kI 0)),(2,(kI 1)),(3,(kI 0)),(4,(kI 0)),(5,(kI 0)),(6,(kI 0)),(7,(kI 0))])),(aO 21 (.fa 0 (.t 2))),(aN (.sto 1 (.t 21) (.t 20)))])
 (.seq (.reg [0,171,1,2,3] [
 (aO 22 (.ld true 5 (.t 1))),(aO 23 (.ld true 4 (.t 2))),(aO 24 (.cal 13 [(.t 22),(.t 23)])),(aO 4 (.alc [.nil,zI])),(aN (.sto 2 (.t 4) (.t 24)))])
 (.seq (.reg [0,171,1,2,3,4] [
 (aO 25 (.ld true 5 (.t 1))),(aO 26 (.fa 0 (.t 4))),(aO 27 (.ld false 1 (.t 26))),(aO 28 (.cal 14 [(.t 25),(.t 27)])),(aO 5 (.alc [.nil,.nil,.nil,.nil,zI,zI])),(aN (.sto 6 (.t 5) (.t 28)))])
 (.seq (.seq (.rgs [
 ([0,171,1,2,3,4,5],[
 (aO 29 (.fa 1 (.t 3))),(aO 30 (.ld false 1 (.t 29))),(aO 31 (.cmp .neq .i64 (.t 30) (kI 0))),(aO 32 (.mv (.t 31))),⟨some 33,some (32,false),.fa 0 (.t 3)⟩,⟨some 34,some (32,false),.ld false 1 (.t 33)⟩,⟨some 35,some (32,false),.bsl 1 54 [.sc (.int .u64 0)] 1 [(0,(.c (.sc (.int .u64 0))))]⟩,⟨some 36,some (32,false),.bld [.nil] [(0,1,(.t 35))]⟩,⟨some 37,some (32,false),.bld [.nil] []⟩,⟨some 38,some (32,false),.bsl 1 52 [.nil] 2 [(0,(.t 36)),(1,(.t 37))]⟩,⟨some 39,some (32,false),.cal 22 [(.t 34),(.t 38)]⟩,⟨some 40,some (32,false),.not (.t 39)⟩]),([0,171,1,2,3,4,5,32,40],[
 (aO 41 (.pick (.t 32) (.c (.sc (.bool true))) (.t 40))),(aO 42 (.mv (.t 41))),⟨some 43,some (42,false),.fa 1 (.t 4)⟩,⟨some 44,some (42,false),.ld false 1 (.t 43)⟩,⟨some 45,some (42,false),.cmp .neq .i64 (.t 44) (kI 0)⟩,(aO 46 (.pick (.t 42) (.c (.sc (.bool true))) (.t 45))),(aO 47 (.mv (.t 46))),⟨some 48,some (47,false),.fa 0 (.t 4)⟩,⟨some 49,some (47,false),.ld false 1 (.t 48)⟩,⟨some 50,some (47,false),.bsl 1 54 [.sc (.int .u64 0)] 1 [(0,(.c (.sc (.int .u64 15))))]⟩,⟨some 51,some (47,false),.bld [.nil] [(0,1,(.t 50))]⟩,⟨some 52,some (47,false),.bld [.nil] []⟩]),([0,171,1,2,3,4,5,47,49,51,52],[
 ⟨some 53,some (47,false),.bsl 1 52 [.nil] 2 [(0,(.t 51)),(1,(.t 52))]⟩,⟨some 54,some (47,false),.cal 22 [(.t 49),(.t 53)]⟩,⟨some 55,some (47,false),.not (.t 54)⟩,(aO 56 (.pick (.t 47) (.c (.sc (.bool true))) (.t 55))),(aO 57 (.mv (.t 56))),⟨some 58,some (57,false),.fa 5 (.t 5)⟩,⟨some 59,some (57,false),.ld false 1 (.t 58)⟩,⟨some 60,some (57,false),.cmp .neq .i64 (.t 59) (kI 0)⟩,(aO 61 (.pick (.t 57) (.c (.sc (.bool true))) (.t 60))),(aO 62 (.mv (.t 61))),⟨some 63,some (62,false),.fa 4 (.t 5)⟩,⟨some 64,some (62,false),.ld false 1 (.t 63)⟩]),([0,171,1,2,3,4,5,62,64],[
 ⟨some 65,some (62,false),.cmp .neq .i64 (.t 64) (kI 0)⟩,(aO 66 (.pick (.t 62) (.c (.sc (.bool true))) (.t 65))),(aO 67 (.mv (.t 66))),⟨some 68,some (67,false),.fa 0 (.t 5)⟩,⟨some 69,some (67,false),.ld true 4 (.t 68)⟩,⟨some 70,some (67,false),.ld true 4 (.t 2)⟩,⟨some 71,some (67,false),.cal 16 [(.t 69),(.t 70)]⟩,⟨some 72,some (67,false),.not (.t 71)⟩,(aO 73 (.pick (.t 67) (.c (.sc (.bool true))) (.t 72))),(aO 74 (.mv (.t 73))),⟨some 75,some (74,false),.ld true 5 (.t 1)⟩,⟨some 76,some (74,false),.cal 15 [(.t 75)]⟩]),([0,171,1,3,4,74,76],[
 ⟨some 77,some (74,false),.bsl 1 3 [zI] 2 [(0,(kI 1)),(1,(kI 0))]⟩,⟨some 78,some (74,false),.cal 23 [(.t 76),(.t 77)]⟩,⟨some 79,some (74,false),.not (.t 78)⟩,(aO 80 (.pick (.t 74) (.c (.sc (.bool true))) (.t 79)))])])
 (.cut [0,171,1,3,4,80] (.cond (.t 80)
 (.seq (.reg [0,171] [
 (aO 0 (.mv (.c (.sc (.bool false)))))])
 .ret)
 .skip)))
 (.seq (.reg [0,171,1,3,4] [
 (aO 81 (.fa 0 (.t 4))),(aO 82 (.ld false 1 (.t 81))),(aO 83 (.bld [zI,zI,zI] [(2,1,(kI 63))])),(aO 84 (.cal 20 [(.t 82),(.t 83)])),(aO 6 (.alc [.nil,zI])),(aN (.sto 2 (.t 6) (.t 84)))])
 (.seq (.reg [0,171,1,3,4,6] [
 (aO 85 (.fa 0 (.t 6))),(aO 86 (.ld false 1 (.t 85))),(aO 87 (.cal 21 [(.t 86)])),(aO 7 (.alc [.nil,zI,.nil])),(aN (.sto 3 (.t 7) (.t 87)))])
 (.seq (.reg [0,171,1,3,4,6,7] [
 (aO 88 (.ld true 5 (.t 1))),(aO 89 (.fa 0 (.t 6))),(aO 90 (.ld false 1 (.t 89))),(aO 91 (.cal 14 [(.t 88),(.t 90)])),(aO 8 (.alc [.nil,.nil,.nil,.nil,zI,zI])),(aN (.sto 6 (.t 8) (.t 91)))])
 (.seq (.reg [0,171,1,3,4,6,7,8] [
 (aO 92 (.ld true 5 (.t 1))),(aO 93 (.bld [.nil,.nil,.nil,.nil] [])),(aO 94 (.cal 13 [(.t 92),(.t 93)])),(aO 9 (.alc [.nil,zI])),(aN (.sto 2 (.t 9) (.t 94)))])
 (.seq (.drw [0,171,1,3,4,6,7,8,9] [
 (eF 95 (.fa 1 (.t 6))),(eF 96 (.ld false 1 (.t 95))),(eF 97 (.cmp .eql .i64 (.t 96) (kI 0))),(eF 98 (.mv (.t 97))),⟨⟨some 99,some (98,true),.fa 5 (.t 8)⟩,[],[],false⟩,⟨⟨some 100,some (98,true),.ld false 1 (.t 99)⟩,[],[],false⟩,⟨⟨some 101,some (98,true),.cmp .eql .i64 (.t 100) (kI 0)⟩,[],[],false⟩,(eF 102 (.pick (.t 98) (.t 101) (.c (.sc (.bool false))))),(eF 103 (.mv (.t 102))),⟨⟨some 104,some (103,true),.fa 4 (.t 8)⟩,[],[],false⟩,⟨⟨some 105,some (103,true),.ld false 1 (.t 104)⟩,[],[],false⟩,⟨⟨some 106,some (103,true),.cmp .eql .i64 (.t 105) (kI 1)⟩,[],[],false⟩,(eF 107 (.pick (.t 103) (.t 106) (.c (.sc (.bool false))))),(eF 108 (.mv (.t 107))),⟨⟨some 109,some (108,true),.fa 1 (.t 7)⟩,[],[],false⟩,⟨⟨some 110,some (108,true),.ld false 1 (.t 109)⟩,[],[],false⟩,⟨⟨some 111,some (108,true),.cmp .eql .i64 (.t 110) (kI 1)⟩,[],[],false⟩,(eF 112 (.pick (.t 108) (.t 111) (.c (.sc (.bool false))))),(eF 113 (.mv (.t 112))),⟨⟨some 114,some (113,true),.fa 2 (.t 7)⟩,[],[],false⟩,⟨⟨some 115,some (113,true),.ld false 1 (.t 114)⟩,[],[],false⟩,⟨⟨some 116,some (113,true),.len (.t 115)⟩,[],[],false⟩,⟨⟨some 117,some (113,true),.cmp .eql .i64 (.t 116) (kI 0)⟩,[],[],false⟩,(eF 118 (.pick (.t 113) (.t 117) (.c (.sc (.bool false))))),(eF 119 (.mv (.t 118))),⟨⟨some 120,some (119,true),.fa 0 (.t 7)⟩,[],[],true⟩,⟨⟨some 121,some (119,true),.ld false 1 (.t 120)⟩,[],[],true⟩,⟨⟨some 122,some (119,true),.fa 0 (.t 4)⟩,[],[],true⟩,⟨⟨some 123,some (119,true),.ld false 1 (.t 122)⟩,[],[],true⟩,⟨⟨some 124,some (119,true),.cal 22 [(.t 121),(.t 123)]⟩,[],[],false⟩,(eF 125 (.pick (.t 119) (.t 124) (.c (.sc (.bool false))))),(eF 126 (.mv (.t 125))),⟨⟨some 127,some (126,true),.fa 1 (.t 9)⟩,[],[],false⟩,⟨⟨some 128,some (126,true),.ld false 1 (.t 127)⟩,[],[],false⟩,⟨⟨some 129,some (126,true),.cmp .eql .i64 (.t 128) (kI 310)⟩,[],[],false⟩,(eF 130 (.pick (.t 126) (.t 129) (.c (.sc (.bool false))))),(eF 131 (.mv (.t 130))),⟨⟨some 132,some (131,true),.ld true 5 (.t 1)⟩,[],[],true⟩,⟨⟨some 133,some (131,true),.fa 0 (.t 4)⟩,[],[],true⟩,⟨⟨some 134,some (131,true),.ld false 1 (.t 133)⟩,[],[],true⟩,⟨⟨some 135,some (131,true),.slc 1 (.t 134) none (some (kI 1))⟩,[],[],true⟩,⟨⟨some 136,some (131,true),.cal 14 [(.t 132),(.t 135)]⟩,[],[],false⟩,⟨⟨some 137,some (131,true),.fl false 5 1 (.t 136)⟩,[],[],false⟩,⟨⟨some 138,some (131,true),.cmp .eql .i64 (.t 137) (kI 380)⟩,[],[],false⟩,(eF 139 (.pick (.t 131) (.t 138) (.c (.sc (.bool false))))),(eF 140 (.mv (.t 139))),⟨⟨some 141,some (140,true),.fa 0 (.t 4)⟩,[],[],true⟩,⟨⟨some 142,some (140,true),.ld false 1 (.t 141)⟩,[],[],true⟩,⟨⟨some 143,some (140,true),.bld [zI,zI,zI] [(0,1,(kI 1))]⟩,[],[],true⟩,⟨⟨some 144,some (140,true),.cal 20 [(.t 142),(.t 143)]⟩,[],[],false⟩,⟨⟨some 145,some (140,true),.fl false 1 1 (.t 144)⟩,[],[],false⟩,⟨⟨some 146,some (140,true),.cmp .eql .i64 (.t 145) (kI 1)⟩,[],[],false⟩,(eF 147 (.pick (.t 140) (.t 146) (.c (.sc (.bool false))))),(eF 148 (.mv (.t 147))),⟨⟨some 149,some (148,true),.ld true 5 (.t 1)⟩,[],[],false⟩,⟨⟨some 150,some (148,true),.cal 29 [(.t 149),(kI 8)]⟩,[],[],false⟩,⟨⟨some 151,some (148,true),.cmp .eql .i64 (.t 150) (kI (-1))⟩,[],[],false⟩,(eF 152 (.pick (.t 148) (.t 151) (.c (.sc (.bool false))))),(eF 153 (.mv (.t 152))),⟨⟨some 154,some (153,true),.fa 0 (.t 3)⟩,[],[159],true⟩,⟨⟨some 155,some (153,true),.ld false 1 (.t 154)⟩,[],[159],true⟩,⟨⟨some 156,some (153,true),.fa 0 (.t 4)⟩,[],[159],true⟩,⟨⟨some 157,some (153,true),.ld false 1 (.t 156)⟩,[],[159],true⟩,⟨⟨some 158,some (153,true),.cal 27 [(.t 155),(.t 157)]⟩,[],[159],true⟩,⟨⟨some 159,some (153,true),.bsl 1 3 [zI] 1 [(0,(kI 0))]⟩,[159],[],true⟩,⟨⟨some 160,some (153,true),.cal 23 [(.t 158),(.t 159)]⟩,[],[],false⟩,(eF 161 (.pick (.t 153) (.t 160) (.c (.sc (.bool false))))),(eF 162 (.mv (.t 161))),⟨⟨some 163,some (162,true),.fa 0 (.t 3)⟩,[],[],true⟩,⟨⟨some 164,some (162,true),.ld false 1 (.t 163)⟩,[],[],true⟩,⟨⟨some 165,some (162,true),.cal 28 [(.t 164)]⟩,[],[],true⟩,⟨⟨some 166,some (162,true),.fa 0 (.t 4)⟩,[],[],true⟩,⟨⟨some 167,some (162,true),.ld false 1 (.t 166)⟩,[],[],true⟩,⟨⟨some 168,some (162,true),.cal 28 [(.t 167)]⟩,[],[],false⟩,⟨⟨some 169,some (162,true),.cmp .neq .u64 (.t 165) (.t 168)⟩,[],[],false⟩,(eF 170 (.pick (.t 162) (.t 169) (.c (.sc (.bool false))))),(eF 0 (.mv (.t 170)))])
 .ret)))))))))))))
def rv8:List RV:=[.tmp 0]
theorem ok8:fnOk Tryd.prog ac8 rv8 Tryd.f8=true:=by kernel_rfl
end Go.Proofs.YtecoaapkcnhlhaaDoor.Txt
namespace Go.Proofs.YtecoaapkcnhlhaaDoor
open Go Go.Vc Go.Ham Txt
theorem frm2(w:Nat)(h:w<2^64):FrmSm [[w],[]]:=by
 refine⟨fun ws hws v hv=> ?_,by simp,fun ws hws=> ?_⟩
 ·rcases List.mem_cons.1 hws with rfl|hws
  ·obtain rfl:v=w:=by simpa using hv
   exact h
  ·obtain rfl:ws=[]:=by simpa using hws
   cases hv
 ·rcases List.mem_cons.1 hws with rfl|hws
  ·simp
  ·obtain rfl:ws=[]:=by simpa using hws
   simp
theorem smE(c:Cfg)(h:c.sel.length<=10/\c.mode.length<=10/\c.tab.length<=10/\c.ram.length<=10):CfgSm c:=⟨oM,oM,oM,oM⟩
theorem frm1(w:Nat)(h:w<2^64):FrmSm [[w]]:=by
 refine⟨fun ws hws v hv=> ?_,by simp,fun ws hws=> ?_⟩
 ·obtain rfl:ws=[w]:=by simpa using hws
  obtain rfl:v=w:=by simpa using hv
  exact h
 ·obtain rfl:ws=[w]:=by simpa using hws
  simp
theorem qJ6(q:Bool)(l:List (List Nat)):Sub (.sl q 1 (rows (frmC q) l)) (.sl false 1 (rows (frmC false) l)):=by
 unfold rows
 exact qG1 _ _ (fun h=>by cases h) (fun _ _=>rfl) fun ws _=>⟨.slp _ _ _ _ (fun h=>by cases h),trivial⟩
theorem qJ7{p:Bool}{a b c d:PV}(h1:Sub a c)(h2:Sub b d):Sub (.sl p 1 [[a],[b]]) (.sl false 1 [[c],[d]]):=by
 refine .sl _ _ _ _ _ (fun h=>by cases h) rfl (fun i x y hx hy=> ?_) fun i x y j u v hx hy hu hv=> ?_
 ·match i,hx,hy with
  |0,hx,hy=>simp at hx hy;subst hx;subst hy;rfl
  |1,hx,hy=>simp at hx hy;subst hx;subst hy;rfl
  |i+2,hx,hy=>simp at hx
 ·match i,hx,hy with
  |0,hx,hy=>
    simp at hx hy;subst hx;subst hy
    match j,hu,hv with
    |0,hu,hv=>simp at hu hv;subst hu;subst hv;exact h1
    |j+1,hu,hv=>simp at hu
  |1,hx,hy=>
    simp at hx hy;subst hx;subst hy
    match j,hu,hv with
    |0,hu,hv=>simp at hu hv;subst hu;subst hv;exact h2
    |j+1,hu,hv=>simp at hu
  |i+2,hx,hy=>simp at hx
def qJ8:List DO:=[⟨⟨some 160,some (153,true),.cal 23 [(.t 158),(.t 159)]⟩,[],[],false⟩,
 ⟨⟨some 161,none,.pick (.t 153) (.t 160) (.c (.sc (.bool false)))⟩,[],[],false⟩,
 ⟨⟨some 162,none,.mv (.t 161)⟩,[],[],false⟩,
 ⟨⟨some 163,some (162,true),.fa 0 (.t 3)⟩,[],[],true⟩,
 ⟨⟨some 164,some (162,true),.ld false 1 (.t 163)⟩,[],[],true⟩,
 ⟨⟨some 165,some (162,true),.cal 28 [(.t 164)]⟩,[],[],true⟩,
 ⟨⟨some 166,some (162,true),.fa 0 (.t 4)⟩,[],[],true⟩,
 ⟨⟨some 167,some (162,true),.ld false 1 (.t 166)⟩,[],[],true⟩,
 ⟨⟨some 168,some (162,true),.cal 28 [(.t 167)]⟩,[],[],false⟩,
 ⟨⟨some 169,some (162,true),.cmp .neq .u64 (.t 165) (.t 168)⟩,[],[],false⟩,
 ⟨⟨some 170,none,.pick (.t 162) (.t 169) (.c (.sc (.bool false)))⟩,[],[],false⟩,
 ⟨⟨some 0,none,.mv (.t 170)⟩,[],[],false⟩]
def qJ9:List DO:=⟨⟨some 159,some (153,true),.bsl 1 3 [.sc (.int .i64 0)] 1 [(0,(.c (.sc (.int .i64 0))))]⟩,[159],[],true⟩::qJ8
def qJa:List DO:=⟨⟨some 158,some (153,true),.cal 27 [(.t 155),(.t 157)]⟩,[],[159],true⟩::qJ9
def qJb:List DO:=⟨⟨some 157,some (153,true),.ld false 1 (.t 156)⟩,[],[159],true⟩::qJa
def qJc:List DO:=⟨⟨some 156,some (153,true),.fa 0 (.t 4)⟩,[],[159],true⟩::qJb
def qJd:List DO:=⟨⟨some 155,some (153,true),.ld false 1 (.t 154)⟩,[],[159],true⟩::qJc
set_option maxRecDepth 8000 in
set_option maxHeartbeats 1000000 in
theorem qJe:FnEq Tryd.prog 8 [] (.bool true):=by
 have h1:=qIR gE qJ2 cE0 (smE _ (by decide))
 have h2:=qIR gE qJ2 cE1 (smE _ (by decide))
 have h3:=qIR gE qJ2 cfg0 (smE _ (by decide))
 obtain⟨d1,d2⟩:=qIZ qJ2 vE1
 obtain⟨n1,n2,n3,n4⟩:=qJ0 qJ2 vE1 (m:=[[9223372036854775823],[]]) (by rw[eE1];exact qJ5)
 unfold encL encE at h1 h2 h3
 rw[if_pos vE0,if_pos vE0,eE0]at h1
 rw[if_pos vE1,if_pos vE1,eE1]at h2
 rw[if_neg vEn,if_neg vEn]at h3
 rw[eE1]at d1 d2 n3
 have f15:=frm2 15 (by decide)
 have f0:=frm2 0 (by decide)
 have fb:=frm2 9223372036854775823 (by decide)
 have h4:=qIW gE qJ2 [[15],[]] f15 d1
 rw[d2,show cntF [[15],[]]=0 from by decide+kernel]at h4
 have h5:=qGA [[0],[]] [[0],[]] f0 f0
 have h6:=qGA [[15],[]] [[15],[]] f15 f15
 have h7:=qyE cE1 cE1 (smE _ (by decide)) (smE _ (by decide))
 have h8:=qE8 gE qJ2
 rw[szE]at h8
 have h9:=qGt [1,0] [1,0] (by decide) (by decide)
 have h10:=qIS [[15],[]] f15 ⟨0,0,63⟩
 rw[show fldF [[15],[]] ⟨0,0,63⟩=[[9223372036854775823],[]]from by decide,show fldE [[15],[]] ⟨0,0,63⟩=0 from by decide]at h10
 have h11:=qIU [[9223372036854775823],[]] fb
 rw[n3,show cntF [[9223372036854775823],[]]=1 from by decide+kernel,qJ1 n4]at h11
 have h12:=qIW gE qJ2 [[9223372036854775823],[]] fb n1
 rw[n2,show cntF [[9223372036854775823],[]]=1 from by decide+kernel]at h12
 have h13:=qIX gE qJ2 [[15]] (frm1 15 (by decide)) (fun h=>by have:=h.size;rw[szE]at this;revert this;decide)
 have h14:=qIS [[15],[]] f15 ⟨1,0,0⟩
 rw[show fldF [[15],[]] ⟨1,0,0⟩=[]from by decide,show fldE [[15],[]] ⟨1,0,0⟩=1 from by decide]at h14
 have h15:=qF1 gE qJ2 8 (by decide)
 rw[show colF gE 8= -1 from by decide]at h15
 have h16:=qGF [[0],[]] [[15],[]] f0 f15
 rw[dfE]at h16
 have h17:=qGt [0] [0] (by decide) (by decide)
 have h18:=qF0 [[0],[]] f0
 have h19:=qF0 [[15],[]] f15
 have hdg:=dgE
 generalize digF [[0],[]]=D0 at *
 generalize digF [[15],[]]=D1 at *
 refine FnEq.of_awp Tryd.func8 ok8 (by show 0<=_;decide) sC ?_
 simp only[ac8,rv8,push_cast,reduceIte,zA,zB,zC,zD,zE,zF,zG,reduceCtorEq,zH,zJ,cNI]
 repeat (refine And.intro (by decide) ?_)
 refine qrv h1 (by exact⟨.refl _,.refl _,trivial⟩) ?_
 refine sB ?_
 repeat (refine And.intro (by decide) ?_)
 refine qrv h2 (by exact⟨.refl _,.refl _,trivial⟩) ?_
 refine sB ?_
 repeat (refine And.intro (by decide) ?_)
 refine qrv h4 (by exact⟨.refl _,qJ6 true _,trivial⟩) ?_
 refine sB ?_
 repeat (refine And.intro (by decide) ?_)
 refine qrA rfl (fun e=>absurd e (by decide)) fun _=> ?_
 refine sB ?_
 repeat (refine And.intro (by decide) ?_)
 refine qrv h5 (by exact⟨qJ6 true _,qJ7 (.slp _ _ _ _ (fun h=>by cases h)) (.nil _ _),trivial⟩) ?_
 refine sB ?_
 repeat (refine And.intro (by decide) ?_)
 refine qrA rfl (fun e=>absurd e (by decide)) fun _=> ?_
 refine sB ?_
 repeat (refine And.intro (by decide) ?_)
 refine qrv h6 (by exact⟨qJ6 true _,qJ7 (.slp _ _ _ _ (fun h=>by cases h)) (.nil _ _),trivial⟩) ?_
 refine sB ?_
 repeat (refine And.intro (by decide) ?_)
 refine qrA rfl (fun e=>absurd e (by decide)) fun _=> ?_
 refine sB ?_
 repeat (refine And.intro (by decide) ?_)
 refine qrA rfl (fun e=>absurd e (by decide)) fun _=> ?_
 refine sB ?_
 repeat (refine And.intro (by decide) ?_)
 refine qrv h7 (by exact⟨Sub.aggL ⟨.slp _ _ _ _ (fun h=>by cases h),.slp _ _ _ _ (fun h=>by cases h),.slp _ _ _ _ (fun h=>by cases h),.slp _ _ _ _ (fun h=>by cases h),trivial⟩,.refl _,trivial⟩) ?_
 refine sB ?_
 repeat (refine And.intro (by decide) ?_)
 refine qrv h8 (by exact⟨.refl _,trivial⟩) ?_
 refine sB ?_
 repeat (refine And.intro (by decide) ?_)
 refine qrv h9 (by exact⟨.slp _ _ _ _ (fun h=>by cases h),.slp _ _ _ _ (fun h=>by cases h),trivial⟩) ?_
 refine sB ?_
 repeat (refine And.intro (by decide) ?_)
 refine qrv h10 (by exact⟨qJ6 true _,.refl _,trivial⟩) ?_
 refine sB ?_
 repeat (refine And.intro (by decide) ?_)
 refine qrv h11 (by exact⟨qJ6 true _,trivial⟩) ?_
 refine sB ?_
 repeat (refine And.intro (by decide) ?_)
 refine qrv h12 (by exact⟨.refl _,qJ6 true _,trivial⟩) ?_
 refine sB ?_
 repeat (refine And.intro (by decide) ?_)
 refine qrv h3 (by exact⟨.refl _,Sub.aggL ⟨.nil _ _,.nil _ _,.nil _ _,.nil _ _,trivial⟩,trivial⟩) ?_
 refine sB ?_
 repeat (refine And.intro (by decide) ?_)
 refine qrv h6 (by exact⟨qJ6 true _,qJ6 true _,trivial⟩) ?_
 refine sB ?_
 repeat (refine And.intro (by decide) ?_)
 refine qrv h13 (by exact⟨.refl _,qJ6 true [[15]],trivial⟩) ?_
 refine sB ?_
 repeat (refine And.intro (by decide) ?_)
 refine qrv h14 (by exact⟨qJ6 true _,.refl _,trivial⟩) ?_
 refine sB ?_
 repeat (refine And.intro (by decide) ?_)
 refine qrv h15 (by exact⟨.refl _,.refl _,trivial⟩) ?_
 generalize hKK:(fun st' :St=>dsK _ _ (st'.put (some 153) (st'.get 152)) _)=KK
 refine sB ?_
 subst hKK
 show dsK _ (⟨⟨some 154,some (153,true),.fa 0 (.t 3)⟩,[],[159],true⟩::qJd) _ _
 refine sB ?_
 rw[qJd]
 refine sB ?_
 rw[qJc]
 refine sB ?_
 rw[qJb]
 refine sB ?_
 rw[qJa]
 refine sB ?_
 refine qrx h16 (by exact⟨qJ6 true _,qJ6 true _,trivial⟩) rfl ?_
 rw[qJ9]
 refine sB ?_
 repeat (refine And.intro (by decide) ?_)
 rw[qJ8]
 refine sB ?_
 refine qrv h17 (by exact⟨.slp _ _ _ _ (fun h=>by cases h),.refl _,trivial⟩) ?_
 refine sB ?_
 refine qrx h18 (by exact⟨qJ6 true _,trivial⟩) rfl ?_
 refine sB ?_
 first|refine qrx h19 (by exact⟨qJ6 true _,trivial⟩) rfl ?_|refine qrv h19 (by exact⟨qJ6 true _,trivial⟩) ?_
 refine sB ?_
 exact congrArg Value.bool (decide_eq_true (fun e:(D0:Int)=D1=>hdg (Int.ofNat.inj e)))
end Go.Proofs.YtecoaapkcnhlhaaDoor
namespace Go.Proofs.YtecoaapkcnhlhaaDoor
open Go Go.Vc Go.Ham Txt
theorem qJf{g:Grid}(hg:GOk g){c:Cfg}(h:qyr g c):CfgSm c:=by
 have hw:=hg.wh
 have hk:=hg.kind
 have hc0:=hg.count
 obtain⟨h1,h2,h3,h4⟩:=h
 exact⟨oM,oM,oM,oM⟩
set_option maxHeartbeats 1000000 in
theorem qJg(g:Grid)(hg:GOk g)(c:Cfg)(h: ¬qyr g c):FnEq Tryd.prog 18 [.agg (quX false g),.agg (cfgC false c)] (.int 310):=by
 have hc:=hg.count
 refine FnEq.of_awp Tryd.func18 ok18 (by show 2<=_;decide) (by simp only[push_cast,reduceIte,zA,zB,zC,zD,zE,zF,zG,reduceCtorEq,zH,zJ,cNI]<;>first|exact fun _ _=>trivial|simp) ?_
 simp only[ac18,rv18,push_cast,reduceIte,zA,zB,zC,zD,zE,zF,zG,reduceCtorEq,zH,zJ,cNI]
 refine qrx (qv5 g hg) sC rfl ?_
 refine sB ?_
 refine qrI ⟨[(2,.ptr 2 0),(3,.ptr 3 0),(39,.bool true)],[(2,quX false g),(3,cfgC false c)],[],[]⟩ ?_ ?_
 ·unfold qyr at h
  repeat' (first
   |(refine qrE rfl (fun _=> ?_) fun _=> ?_<;>simp only[push_cast,reduceIte,zA,zB,zC,zD,zE,zF,zG,reduceCtorEq,zH,zJ,cNI])
   |(refine qrD rfl (fun _=> ?_) fun _=> ?_<;>simp only[push_cast,reduceIte,zA,zB,zC,zD,zE,zF,zG,reduceCtorEq,zH,zJ,cNI]))
  all_goals (rw[decide_eq_true oM])
 ·exact sC
theorem qJh(g:Grid)(hg:GOk g)(c:Cfg):FnEq Tryd.prog 18 [.agg (quX false g),.agg (cfgC false c)] (.int (validE g c)):=by
 by_cases h:qyr g c
 ·exact qyy g hg c (qJf hg h)
 ·rw[qyv h];exact qJg g hg c h
theorem qJi(g:Grid)(hg:GOk g)(c:Cfg)(h: ¬qyr g c):FnEq Tryd.prog 33 [.agg (quX false g),.agg (cfgC false c)] (.tup [.nil,.int 310]):=by
 have hv:=qJg g hg c h
 refine FnEq.of_awp Tryd.func33 ok33 (by show 2<=_;decide) (by simp only[push_cast,reduceIte,zA,zB,zC,zD,zE,zF,zG,reduceCtorEq,zH,zJ,cNI]<;>first|exact fun _ _=>trivial|simp) ?_
 simp only[ac33,rv33,push_cast,reduceIte,zA,zB,zC,zD,zE,zF,zG,reduceCtorEq,zH,zJ,cNI]
 refine qrv hv (by exact⟨.refl _,.refl _,trivial⟩) ?_
 simp only[qFy,push_cast,reduceIte,zA,zB,zC,zD,zE,zF,zG,reduceCtorEq,zH,zJ,cNI]
 exact qnY (fun _=>trivial) fun h=>absurd (by decide) h
theorem qJj(g:Grid)(hg:GOk g)(c:Cfg):FnEq Tryd.prog 13 [.agg (quX false g),.agg (cfgC false c)] (.agg (fmdC true (encL g c) (encE g c))):=by
 by_cases h:qyr g c
 ·exact qIR g hg c (qJf hg h)
 ·have hn:validE g c≠0:=by rw[qyv h];decide
  unfold encL encE
  rw[if_neg hn,if_neg hn]
  have he:=qJi g hg c h
  refine FnEq.of_awp Tryd.func13 ok13 (by show 2<=_;decide) (by simp only[push_cast,reduceIte,zA,zB,zC,zD,zE,zF,zG,reduceCtorEq,zH,zJ,cNI];simp) ?_
  simp only[ac13,rv13,push_cast,reduceIte,zA,zB,zC,zD,zE,zF,zG,reduceCtorEq,zH,zJ,cNI]
  refine qrv he sC ?_
  simp only[rows,List.map_nil,push_cast,reduceIte,zA,zB,zC,zD,zE,zF,zG,reduceCtorEq,zH,zJ,cNI]
def k3C(x:Int×Int×Int):List PV:=[.sc (.int .u8 x.1),.sc (.int .u8 x.2.1),.sc (.int .u8 x.2.2)]
@[push_cast] theorem qJk(x:Int×Int×Int):k3C x=[.sc (.int .u8 x.1),.sc (.int .u8 x.2.1),.sc (.int .u8 x.2.2)]:=rfl
structure Odd38 where
 L:List (List Nat)
 c:Cfg
 f:FlipA
 n:Int
 K:List (Int×Int×Int)
def qJl(q:Bool)(z:Odd38):List PV:=[.sl q 1 (rows (frmC q) z.L),.sl q 1 (ints z.c.sel),.sl q 1 (ints z.c.mode),.sl q 1 (ints z.c.tab),.sl q 1 (ints z.c.ram),.int z.f.x,.int z.f.k,.int z.f.b,.int z.n,.sl q 3 (rows k3C z.K)]
@[push_cast] theorem qJm(q:Bool)(z:Odd38):qJl q z=[.sl q 1 (rows (frmC q) z.L),.sl q 1 (ints z.c.sel),.sl q 1 (ints z.c.mode),.sl q 1 (ints z.c.tab),.sl q 1 (ints z.c.ram),.int z.f.x,.int z.f.k,.int z.f.b,.int z.n,.sl q 3 (rows k3C z.K)]:=rfl
end Go.Proofs.YtecoaapkcnhlhaaDoor
namespace Go.Proofs.YtecoaapkcnhlhaaDoor
open Go Go.Vc Txt
theorem qJo{g:Grid}{c:Cfg}(hl:CfgLn g c){t0:Nat}{b:Int}(hb:0<=b/\b<=255)(h: ∀t,t<g.kind.length->qyt g c t): ∀t,t<g.kind.length->qyt g (qyR g c t0 b) t:=by
 obtain⟨l1,l2,l3,l4⟩:=hl
 intro t ht
 have h0:=h t ht
 unfold qyR
 split
 ·exact h0
 ·rename_i hk
  split
  ·unfold qyt
   simp only[qz0]
   by_cases e:t0=t
   ·subst e
    rw[if_pos ⟨rfl,oM⟩,if_pos ⟨rfl,oM⟩,if_pos ⟨rfl,oM⟩]
    refine⟨oM,?_,by simp;omega,by simp⟩
    unfold qwY
    rw[if_neg hk]
    split<;>simp
   ·rw[if_neg (fun q=>e q.1),if_neg (fun q=>e q.1),if_neg (fun q=>e q.1)]
    exact h0
  ·split
   ·unfold qyt
    simp only[qz0]
    by_cases e:t0=t
    ·subst e
     rw[if_pos ⟨rfl,oM⟩,if_pos ⟨rfl,oM⟩,if_pos ⟨rfl,oM⟩]
     refine⟨oM,?_,by simp;omega,by simp;omega⟩
     unfold qwY
     rw[if_neg hk]
     split<;>simp
    ·rw[if_neg (fun q=>e q.1),if_neg (fun q=>e q.1),if_neg (fun q=>e q.1)]
     exact h0
   ·exact h0
theorem qJp{g:Grid}{l:List Int}(hb: ∀x∈l,0<=x/\x<=255): ∀j t,t<g.kind.length->qyt g (qyT g l j) t
 | 0, t, ht => by
   have e: ∀n i,(List.replicate n (0:Int)).getD i 0=0:=fun n i=>by
    rw[zK,List.getElem?_replicate]
    split<;>rfl
   unfold qyt
   simp only[qyT,qxc,e]
   refine⟨oM,?_,by simp,by simp⟩
   unfold qwY
   split
   ·simp
   ·split<;>simp
 | j + 1, t, ht => by
   have hx: ∀i,0<=l.getD i 0/\l.getD i 0<=255:=fun i=>by
    by_cases h:i<l.length
    ·exact hb _ (qyD h)
    ·rw[zK,List.getElem?_eq_none oM];decide
   have hs: ∀t,t<g.kind.length->qyt g (selW g (qyT g l j) ((7*((2*j:Nat):Int)+l.getD (2*j) 0)%((qyT g l j).sel.length:Int)) (l.getD (2*j+1) 0)) t:=fun t ht=>by
    have:=qJp hb j t ht
    unfold selW
    split
    ·exact this
    ·exact this
   exact qJo (qyV (qyY g l j)) (hx _) hs t ht
theorem qJq{g:Grid}(hg:GOk g){l:List Int}(hb: ∀x∈l,0<=x/\x<=255):validE g (qyU g l)=0:=
 qyu (qyY g l _) (qz4 hg l).sel (qJp hb _)
end Go.Proofs.YtecoaapkcnhlhaaDoor
namespace Go.Proofs.YtecoaapkcnhlhaaDoor
open Go Go.Vc Go.Ham Txt
theorem qJr(x:RawG)(c:Cfg):FrmSm (qDs (qyN x) c):=by
 have hg:=(qyP x).1
 have hn:=hg.n
 have hw:wN (qyN x)<=5:=by unfold wN qyN;simp only;omega
 have hh:hN (qyN x)<=5:=by unfold hN qyN;simp only;omega
 have he:eN (qyN x)<=14:=by unfold eN qv1 qyN;simp only;omega
 refine⟨qDG _ c,by rw[qDs,yG,List.length_range];omega,fun ws hws=> ?_⟩
 obtain⟨y,hy,rfl⟩:=List.mem_map.1 hws
 rw[qDD]
 have h1:hN (qyN x)*(eN (qyN x)+3)<=5*17:=Nat.mul_le_mul hh oM
 have h2:wN (qyN x)*(hN (qyN x)*(eN (qyN x)+3))<=5*(5*17):=Nat.mul_le_mul hw h1
 have h3:(qCl (qyN x)).length<=473:=by
  rw[qCl,zU,qDS,qCk,qDQ]
  have:=hn.ce
  have hp:(2*(qyN x).pads).toNat=48:=rfl
  omega
 have h4:=qDP (m:=64) y (qCl (qyN x)) fun f hf=>qG8 (qD3 hg hf)
 unfold nW
 omega
theorem qJs(g:Grid)(c:Cfg):(qDs g c).length=wN g+1:=by simp[qDs]
end Go.Proofs.YtecoaapkcnhlhaaDoor
