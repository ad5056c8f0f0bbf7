/- IU HT IV TxtQ IJa IK IL IW IX IN IO: lemmas -/
import Derived.Test.YtecoaapkcnhlhaaGreatDoorPart13
import Derived.Test.YtecoaapkcnhlhaaGreatDoorPart11
import Derived.Test.YtecoaapkcnhlhaaGreatDoorPart05
import Derived.Test.YtecoaapkcnhlhaaGreatDoorChecked
import Derived.Test.YtecoaapkcnhlhaaGreatDoorPart12
set_option linter.unusedSimpArgs false
set_option linter.unusedVariables false
open Bool renaming and_eq_true->zN,false_ne_true->zQ
open List renaming getD_eq_getElem?_getD->zK,getElem?_eq_getElem->zL,mem_of_getElem? ->zP,getElem?_map->zS,mem_cons_of_mem->zT,length_append->zU,length_cons->zV,map_cons->zW,mem_cons_self->zX,take_of_length_le->zY,take_succ_eq_append_getElem->zZ,getElem?_append_left->yA,getElem?_append_right->yB,all_eq_true->yE,length_set->yF,length_map->yG,map_append->yH
open Int renaming reduceToNat->zH,reduceNeg->zJ
open Nat renaming reduceEqDiff->zA,reduceAdd->zB,reduceSub->zC,reduceMul->zD,reduceBEq->zE,reduceLT->zF,reduceLeDiff->zG
namespace Go.Proofs.YtecoaapkcnhlhaaGreatDoor
open Go Go.Vc Go.Ham Txt
def rsK(l:List (List Nat))(k:Nat):List (Option (List (List PV))):=(List.range l.length).map fun x=>if x<k then some (rows u64C (nats (l.getD x [])))else none
theorem qGU(l:List (List Nat))(k:Nat):(rsK l k).length=l.length:=by simp[rsK]
theorem qGV{l:List (List Nat)}{x:Nat}(h:x<l.length)(k:Nat):(rsK l k)[x]? =some (if x<k then some (rows u64C (nats (l.getD x [])))else none):=by
 rw[rsK,zS,List.getElem?_range h];rfl
theorem qGW(l:List (List Nat)):rsK l 0=List.replicate l.length none:=by
 rw[List.eq_replicate_iff]
 exact⟨qGU _ _,fun b hb=>by obtain⟨x,_,rfl⟩:=List.mem_map.1 hb;rfl⟩
theorem qGX(l:List (List Nat))(k:Nat):(rsK l k).set k (some (rows u64C (nats (l.getD k []))))=rsK l (k+1):=by
 refine List.ext_getElem (by simp[rsK]) fun i h1 h2=> ?_
 rw[List.getElem_set]
 simp only[rsK,List.getElem_map,List.getElem_range]
 split
 ·next h=>rw[h,if_pos oM]
 ·next h=>
  by_cases h3:i<k
  ·rw[if_pos h3,if_pos oM]
  ·rw[if_neg h3,if_neg oM]
set_option maxHeartbeats 400000 in
theorem qGY(l:List (List Nat))(hl:FrmSm l):FnM (Env.of Tryz.prog) 73 [.sl false 1 (rows (frmC false) l)] ⟨[],[],[],[]⟩ (fun v st' =>v= .bv 2507 1 l.length/\st' =⟨[],[(2507,qB0 3000 (rsK l l.length))],qB1 1 59 3000 (rsK l l.length),[]⟩):=by
 have h1:=hl.n
 refine quf 2500 Tryz.func73 ok73_2500 (by show 1<=_;decide) rfl (by decide) ?_
 simp only[ac73_2500,rv73_2500,qFA,push_cast,reduceIte,zA,zB,zC,zD,zE,zF,zG,reduceCtorEq,zH,zJ,cNI]
 refine⟨⟨oM,oM,oM⟩,?_⟩
 refine qoO (fun j st=> ∃k:Nat,k<=l.length/\j=l.length-k/\st=⟨[(2500,.sl false 1 (rows (frmC false) l)),(2503,.bv 2507 1 l.length),(2509,.int l.length),(2510,.int k)],[(2507,qB0 3000 (rsK l k))],qB1 1 59 3000 (rsK l k),[]⟩) l.length ⟨_,SWk.refl _,0,oM,oM,?_⟩ ?_
 ·rw[qGW,qFy,qFz]
  exact sC
 rintro j st ⟨k,hk,rfl,rfl⟩
 refine sB ?_
 refine qnY (fun h=> ?_) fun h=> ?_
 ·have hk' :k<l.length:=by omega
  obtain⟨ws,hws⟩: ∃ws,ws=l.getD k default:=⟨_,rfl⟩
  have hmem:ws∈l:=by rw[hws,zK,zL hk'];exact List.getElem_mem hk'
  have hln:=hl.len ws hmem
  have hcl:(qB0 3000 (rsK l k)).length=l.length:=by rw[qB2,qGU]
  have hfar:anyT nul (isId 2521) (qB0 3000 (rsK l k))=false:=qFf _ _ _ fun y r _=>beq_false_of_ne oM
  have hup: ∀A,up (qB1 1 59 3000 (rsK l k)) 2521 A=(2521,A)::qB1 1 59 3000 (rsK l k):=fun A=>qBb _ _ _ fun y hy=>by have:=qBc 1 59 3000 _ y hy;omega
  have hspl: ∀v,spl (qB0 3000 (rsK l k)) k [v]=(qB0 3000 (rsK l k)).set k v:=fun v=>qFi _ _ _ oM
  have hcx: ∀v,((qB0 3000 (rsK l k)).set k v).getD k .bot=v:=fun v=>by rw[zK,List.getElem?_set_self oM];rfl
  have hcl2: ∀v,((qB0 3000 (rsK l k)).set k v).length=l.length:=fun v=>by rw[yF,hcl]
  have hqc:=fun v off d r st K=>qFh (P:=Env.of Tryz.prog) ((qB0 3000 (rsK l k)).set k v) off d r st K
  have hcp:cpyF (rows u64C (List.replicate ws.length (0:Int))) 0 (rows u64C (List.take ws.length (nats ws)))=rows u64C (nats ws):=by
   rw[zY (by rw[qF0];exact Nat.le_refl _)]
   unfold cpyF
   rw[List.take_zero,List.nil_append,qkk,qF0,List.drop_of_length_le (by rw[qkk,List.length_replicate];omega),List.append_nil]
  simp only[<- hws,qF0,Nat.mul_one,hcl,hfar,hup,hspl,hqc,hcx,hcl2,hcp,List.length_replicate,push_cast,reduceIte,zA,zB,zC,zD,zE,zF,zG,reduceCtorEq,zH,zJ,cNI]
  refine⟨⟨oM,oM⟩,hk',⟨oM,oM,oM,oM⟩,⟨oM,oM⟩,oM,⟨oM,oM⟩,oM,⟨oM,oM⟩,hk',⟨oM,oM⟩,?_⟩
  have hdk:l.getD k []=ws:=hws.symm
  have hset:=qGX l k
  have h07:PV.toV (isId (3000+k)) nul (.bv 2507 1 l.length)=false:=beq_false_of_ne (show 2507≠3000+k by omega)
  rw[hdk]at hset
  refine⟨_,SWk.renEq (A:=⟨1,59,rows u64C (nats ws)⟩) (b' :=[(2507,qB0 3000 (rsK l (k+1)))]) (a' :=qB1 1 59 3000 (rsK l (k+1))) 2521 (3000+k) rfl ?_ ⟨⟨rfl,rfl⟩,⟨rfl,rfl⟩,⟨rfl,rfl⟩,⟨rfl,rfl⟩,trivial⟩ ⟨⟨rfl,rfl⟩,⟨h07,rfl⟩,⟨rfl,rfl⟩,⟨rfl,rfl⟩,trivial⟩ ?_ ?_ ?_,l.length-(k+1),oM,k+1,oM,rfl,rfl⟩
  ·rw[lk,if_neg oM,qBa,qGV hk',if_neg (Nat.lt_irrefl k)];rfl
  ·have f := qFf (isId (3000 + k)) 3000 (rsK l k) fun y r hy => by
    refine beq_false_of_ne fun e=> ?_
    obtain rfl:y=k:=by omega
    rw[qGV hk',if_neg (Nat.lt_irrefl _)]at hy
    cases hy
   have h21:PV.to nul (isId (3000+k)) (.view 2521 0 ws.length)=false:=beq_false_of_ne (show 2521≠3000+k by omega)
   rw[qiq,qFg _ _ _ _ _ f h21];rfl
  ·have e:=qFe 2521 3000 (rsK l k) k (rows u64C (nats ws)) (by rw[qGU];exact hk') (by decide)
   rw[hset,qkk,qF0]at e
   simp only[zW,List.map_nil,e]
  ·rw[qFb,qFc _ _ _ _ _ (by decide),qBd _ _ _ _ _ _ (by rw[qGU];exact hk'),hset]
 ·obtain rfl:k=l.length:=by omega
  exact sC
theorem qGZ(es ty:Nat): ∀(k:Nat) (rs:List (Option (List (List PV)))),∀y∈qB1 es ty k rs,∃x,x<rs.length/\y.1=k+x
 |_,[],y,h=>by cases h
 | k, none :: rs, y, h => by
   obtain⟨x,h1,h2⟩:=qGZ es ty (k+1) rs y h
   exact⟨x+1,by simpa using h1,oM⟩
 | k, some r :: rs, y, h => by
   rcases List.mem_cons.1 h with rfl|h
   ·exact⟨0,by simp,rfl⟩
   ·obtain⟨x,h1,h2⟩:=qGZ es ty (k+1) rs y h
    exact⟨x+1,by simpa using h1,oM⟩
def naK(n:Nat):List Nat:=(List.range n).map fun x=>3000+x
theorem qH0{n x:Nat}(h:x<n):inL (naK n) (3000+x)=true:=by
 unfold inL naK
 rw[List.contains_iff_mem]
 exact List.mem_map.2 ⟨x,List.mem_range.2 h,rfl⟩
theorem qH1(l:List (List Nat)):qDL [2507] (naK l.length) (.bv 2507 1 l.length) ⟨[],[(2507,qB0 3000 (rsK l l.length))],qB1 1 59 3000 (rsK l l.length),[]⟩=true:=by
 simp only[qDL,zN,List.all_cons,List.all_nil,yE]
 refine⟨⟨⟨rfl,rfl⟩,⟨⟨rfl,?_⟩,trivial⟩,fun y hy=> ?_⟩,rfl⟩
 ·rw [qB5 (outL [2507]) (outL (naK l.length)) 3000 _ fun x hx => by
   rw[qGU]at hx
   unfold outL
   rw[qH0 hx];rfl]
  rfl
 ·obtain⟨x,h1,h2⟩:=qGZ _ _ _ _ y hy
  rw[qGU]at h1
  rw[h2]
  exact qH0 h1
def rsW(l:List (List Nat)):List (Option (List (List PV))):=l.map fun ws=>some (rows u64C (nats ws))
theorem qH2(l:List (List Nat)):(rsW l).length=l.length:=by simp[rsW]
theorem qH3{l:List (List Nat)}{x:Nat}(h:x<l.length):(rsW l)[x]? =some (some (rows u64C (nats (l.getD x [])))):=by
 rw[rsW,zS,zK,zL h];rfl
theorem qH4(l:List (List Nat))(x:Nat)(ws:List Nat):(rsW l).set x (some (rows u64C (nats ws)))=rsW (l.set x ws):=by
 simp[rsW,List.map_set]
theorem qH5(l:List (List Nat)):rsK l l.length=rsW l:=by
 refine List.ext_getElem (by simp[rsK,rsW]) fun i h1 h2=> ?_
 have hi:i<l.length:=by simpa[rsK]using h1
 simp[rsK,rsW,hi,zK]
theorem qH6{l:List (List Nat)}{x:Nat}(h:x<l.length):(qB0 3000 (rsW l)).getD x .bot= .view (3000+x) 0 (l.getD x []).length:=by
 rw[zK,qB3,qH3 h]
 simp[rowC,qkk,qF0]
theorem qH7{l:List (List Nat)}{x:Nat}(h:x<l.length):lk (qB1 1 59 3000 (rsW l)) (3000+x)=some ⟨1,59,rows u64C (nats (l.getD x []))⟩:=by
 rw[qBa,qH3 h];rfl
theorem qH8{l:List (List Nat)}{x:Nat}(h:x<l.length)(ws:List Nat):up (qB1 1 59 3000 (rsW l)) (3000+x) ⟨1,59,rows u64C (nats ws)⟩=qB1 1 59 3000 (rsW (l.set x ws)):=by
 rw[qBd _ _ _ _ _ _ (by rw[qH2];exact h),qH4]
theorem qH9(l:List (List Nat)):((rsW l).map rowP).map (fun c=>[c])=rows (frmC true) l:=by
 unfold rsW rows
 rw[List.map_map,List.map_map]
 rfl
theorem qHa(l:List (List Nat)):((rsW l).map rowP).all qbM=true:=by
 rw[yE]
 intro c hc
 obtain⟨r,hr,rfl⟩:=List.mem_map.1 hc
 obtain⟨ws,_,rfl⟩:=List.mem_map.1 hr
 rfl
theorem qHb{l:List (List Nat)}{x:Nat}(hx:x<l.length){ws:List Nat}(h:ws.length=(l.getD x []).length):qB0 3000 (rsW l)=qB0 3000 (rsW (l.set x ws)):=by
 rw[<- qH4,<- qB4]
 have hc:=qH6 hx
 rw[<- h]at hc
 have hl:x<(qB0 3000 (rsW l)).length:=by rw[qB2,qH2];exact hx
 simp only[rowC,qkk,qF0]
 apply List.ext_getElem (by simp)
 intro i h1 h2
 rw[List.getElem_set]
 split
 ·next q=>subst q;rw[zK,zL h1]at hc;exact hc
 ·rfl
theorem qHc(s s' :List (Nat×PV))(l:List (List Nat))(hs: ∀j,3000<=j->farL j s)(h:(s.map fun x=>(x.1,x.2.fbV 2507 ((rsW l).map rowP)))=s'):SWk ⟨s,[(2507,qB0 3000 (rsW l))],qB1 1 59 3000 (rsW l),[]⟩ ⟨s',[],[],[]⟩:=by
 refine SWk.trans (SWk.frzRows (b1:=[]) (b2:=[]) (id:=2507) (k:=3000) [] (rsW l) hs (fun _ _=>rfl) (fun _ _=>rfl)) ?_
 exact SWk.frzB 2507 rfl (qHa l) h rfl
end Go.Proofs.YtecoaapkcnhlhaaGreatDoor
namespace Go.Proofs.YtecoaapkcnhlhaaGreatDoor
open Go Go.Vc Go.Ham
def qHd(l:List (List Nat))(x k b:Nat):List (List Nat):=l.set x ((l.getD x []).set k (((l.getD x []).getD k 0)^^^2^b))
def atW(l:List (List Nat))(x k:Nat):Nat:=(l.getD x []).getD k 0
def inW(l:List (List Nat))(x k:Nat):Prop:=x<l.length/\k<(l.getD x []).length
theorem qHe{α:Type}(l:List α)(i j:Nat)(v d:α):(l.set i v).getD j d=if i=j/\i<l.length then v else l.getD j d:=by
 simp only[zK,List.getElem?_set]
 by_cases e:i=j
 ·subst e
  by_cases h:i<l.length
  ·simp[h]
  ·simp[h]
 ·simp[e]
theorem qHf(l:List (List Nat))(x k b x' :Nat):(qHd l x k b).getD x' []=if x=x' /\x<l.length then(l.getD x []).set k (atW l x k^^^2^b)else l.getD x' []:=by
 rw[qHd,qHe];rfl
theorem qHg{l:List (List Nat)}{x k b:Nat}(h:inW l x k)(x' k' :Nat):atW (qHd l x k b) x' k' =if x=x' /\k=k' then atW l x k^^^2^b else atW l x' k' :=by
 unfold atW
 rw[qHf]
 by_cases e:x=x'
 ·subst e
  rw[if_pos ⟨rfl,h.1⟩,qHe]
  by_cases e2:k=k'
  ·subst e2;rw[if_pos ⟨rfl,h.2⟩,if_pos ⟨rfl,rfl⟩];rfl
  ·rw[if_neg (fun z=>e2 z.1),if_neg (fun z=>e2 z.2)]
 ·rw[if_neg (fun z=>e z.1),if_neg (fun z=>e z.1)]
theorem qHh(l:List (List Nat))(x k b:Nat):(qHd l x k b).length=l.length:=by simp[qHd]
theorem qHi(l:List (List Nat))(x k b x' :Nat):((qHd l x k b).getD x' []).length=(l.getD x' []).length:=by
 rw[qHf];split
 ·rename_i h;rw[yF,h.1]
 ·rfl
theorem qHj{l m:List (List Nat)}(h1:l.length=m.length)(h2: ∀x,(l.getD x []).length=(m.getD x []).length):l.map List.length=m.map List.length:=by
 apply List.ext_getElem
 ·simpa using h1
 ·intro i a b
  have:=h2 i
  simp only[yG]at a b
  simpa[zK,a,b]using this
theorem qHk(l:List (List Nat))(x k b:Nat):(qHd l x k b).map List.length=l.map List.length:=qHj (qHh l x k b) (qHi l x k b)
theorem qHl{l m:List (List Nat)}(h:l.map List.length=m.map List.length)(h2: ∀x k,inW l x k->atW l x k=atW m x k):l=m:=by
 have hl:l.length=m.length:=by have:=congrArg List.length h;simpa using this
 apply List.ext_getElem hl
 intro x hx hx'
 have hr:l[x].length=m[x].length:=by
  have:=congrArg (fun z=>z[x]?) h
  simp only[zS,zL hx,zL hx',Option.map_some,Option.some.injEq]at this
  exact this
 apply List.ext_getElem hr
 intro k hk hk'
 have:=h2 x k ⟨hx,by simp[zK,hx];exact hk⟩
 simpa[atW,zK,hx,hx',hk,hk']using this
theorem qHm{l m:List (List Nat)}(h:l.map List.length=m.map List.length)(x k:Nat):inW l x k ↔ inW m x k:=by
 have hl:l.length=m.length:=by have:=congrArg List.length h;simpa using this
 have hr:(l.getD x []).length=(m.getD x []).length:=by
  by_cases hx:x<l.length
  ·have:=congrArg (fun z=>z[x]?) h
   simp only[zS,zL hx,zL (show x<m.length by omega),Option.map_some,Option.some.injEq]at this
   simpa[zK,hx,show x<m.length by omega]using this
  ·simp[zK,List.getElem?_eq_none (show l.length<=x by omega),List.getElem?_eq_none (show m.length<=x by omega)]
 unfold inW;rw[hl,hr]
theorem qHn{l:List (List Nat)}{ws:List Nat}(h:ws∈l){w:Nat}(hw:w∈ws): ∃x k,inW l x k/\atW l x k=w:=by
 obtain⟨x,hx,rfl⟩:=List.getElem_of_mem h
 obtain⟨k,hk,rfl⟩:=List.getElem_of_mem hw
 exact⟨x,k,⟨hx,by simpa[zK,hx]using hk⟩,by simp[atW,zK,hx,hk]⟩
theorem qHo{l:List (List Nat)}{x k:Nat}(h:inW l x k): ∃ws∈l,atW l x k∈ws:=by
 obtain⟨h1,h2⟩:=h
 have e:l.getD x []=l[x]:=by simp[zK,h1]
 rw[e]at h2
 refine⟨l[x],List.getElem_mem h1,?_⟩
 unfold atW
 rw[e]
 simp[zK,h2]
def qHp(l:List (List Nat)):Nat:=(l.map qDw).sum
theorem qHq: ∀(l:List (List Nat)) (x:Nat) (r:List Nat),x<l.length->((l.set x r).map qDw).sum+qDw (l.getD x [])=(l.map qDw).sum+qDw r
 |[],x,r,h=>by simp at h
 |a::l,0,r,h=>by simp;omega
 | a :: l, x + 1, r, h => by
   have:=qHq l x r (by simpa using h)
   simp only[List.set_cons_succ,zW,List.sum_cons,List.getD_cons_succ];omega
theorem qHr: ∀(l:List Nat) (k v:Nat),k<l.length->qDw (l.set k v)+(if chkW (l.getD k 0)=1 then 1 else 0)=qDw l+(if chkW v=1 then 1 else 0)
 |[],k,v,h=>by simp at h
 | a :: l, 0, v, h => by
   simp only[qDw,List.set_cons_zero,List.countP_cons,List.getD_cons_zero,decide_eq_true_eq];omega
 | a :: l, k + 1, v, h => by
   have:=qHr l k v (by simpa using h)
   simp only[qDw,List.set_cons_succ,List.countP_cons,List.getD_cons_succ]at this ⊢;omega
theorem qHs{l:List (List Nat)}{x k b:Nat}(h:inW l x k):qHp (qHd l x k b)+(if chkW (atW l x k)=1 then 1 else 0)=qHp l+(if chkW (atW l x k^^^2^b)=1 then 1 else 0):=by
 have h1:=qHq l x ((l.getD x []).set k (atW l x k^^^2^b)) h.1
 have h2:=qHr (l.getD x []) k (atW l x k^^^2^b) h.2
 show((l.set x ((l.getD x []).set k (atW l x k^^^2^b))).map qDw).sum+_=_
 unfold qHp
 change _+(if chkW (atW l x k)=1 then 1 else 0)=_ at h2
 omega
structure Near (l m:List (List Nat)):Prop where
 size:m.map List.length=l.map List.length
 at' : ∀x k,inW l x k->atW m x k=atW l x k\/ ∃b,b<64/\atW m x k=atW l x k^^^2^b
theorem Near.refl(l:List (List Nat)):Near l l:=⟨rfl,fun _ _ _=> .inl rfl⟩
theorem Near.flip{l m:List (List Nat)}(h:Near l m){x k b:Nat}(hi:inW l x k)(hb:b<64)(he:atW m x k=atW l x k):Near l (qHd m x k b):=by
 have hm:inW m x k:=(qHm h.size x k).2 hi
 refine⟨by rw[qHk];exact h.size,fun x' k' hi' => ?_⟩
 rw[qHg hm]
 split
 ·rename_i e
  obtain⟨rfl,rfl⟩:=e
  exact .inr ⟨b,hb,by rw[he]⟩
 ·exact h.at' x' k' hi'
theorem qHu{w v:Nat}(hw:w<2^64)(hc:chkW w=0)(h:v=w\/ ∃b,b<64/\v=w^^^2^b):chkW v≠2/\datW v=datW w/\fixW v=w:=by
 have hf:fixW w=w:=by
  unfold fixW datW
  rw[if_neg oM,if_neg oM,qAa hw hc]
 rcases h with rfl|⟨b,hb,rfl⟩
 ·exact⟨oM,rfl,hf⟩
 ·obtain⟨h1,h2⟩:=qAb hc hb
  have hd:datW (w^^^2^b)=datW w:=by
   unfold datW
   rw[if_pos h1,h2,if_neg oM,qAd]
  refine⟨oM,hd,?_⟩
  unfold fixW
  rw[if_neg oM,hd]
  unfold fixW at hf
  rw[if_neg oM]at hf
  exact hf
theorem qHv{l m:List (List Nat)}(hl:qDx l)(hc: ∀ws∈l,∀w∈ws,chkW w=0)(h:Near l m):(∀ws∈m,qDv ws=true)/\(∀x,datF m x=datF l x)/\m.map (fun ws=>ws.map fixW)=l:=by
 have key: ∀x k,inW m x k->chkW (atW m x k)≠2/\datW (atW m x k)=datW (atW l x k)/\fixW (atW m x k)=atW l x k:=fun x k hi=>by
  have hi' :=(qHm h.size x k).1 hi
  obtain⟨ws,h1,h2⟩:=qHo hi'
  exact qHu (hl ws h1 _ h2) (hc ws h1 _ h2) (h.at' x k hi')
 have hlen:m.length=l.length:=by have:=congrArg List.length h.size;simpa using this
 have hrow: ∀x,(m.getD x []).length=(l.getD x []).length:=fun x=>by
  by_cases hx:x<m.length
  ·have:=congrArg (fun z=>z[x]?) h.size
   simp only[zS,zL hx,zL (show x<l.length by omega),Option.map_some,Option.some.injEq]at this
   simpa[zK,hx,show x<l.length by omega]using this
  ·simp[zK,List.getElem?_eq_none (show l.length<=x by omega),List.getElem?_eq_none (show m.length<=x by omega)]
 refine⟨fun ws hws=>yE.2 fun w hw=> ?_,fun x=> ?_,qHl ?_ fun x k hi=> ?_⟩
 ·obtain⟨x,k,hi,rfl⟩:=qHn hws hw
  simpa using(key x k hi).1
 ·unfold datF
  apply List.ext_getElem
  ·simpa using hrow x
  ·intro k h1 h2
   have hk:k<(m.getD x []).length:=by simpa using h1
   have hx:x<m.length:=by
    apply Classical.byContradiction
    intro hn
    rw[zK,List.getElem?_eq_none oM]at hk
    simp at hk
   have:=(key x k ⟨hx,hk⟩).2.1
   rw[List.getElem_map,List.getElem_map]
   have hk2:k<(l.getD x []).length:=by rw[<- hrow];exact hk
   have e1:atW m x k=(m.getD x [])[k]:=by unfold atW;rw[zK,zL hk];rfl
   have e2:atW l x k=(l.getD x [])[k]:=by unfold atW;rw[zK,zL hk2];rfl
   rw[<- e1,<- e2];exact this
 ·rw[List.map_map,<- h.size]
  exact List.map_congr_left fun ws _=>by simp
 ·have hi2:inW m x k:=by
   unfold inW at hi ⊢
   rw[yG]at hi
   refine⟨hi.1,?_⟩
   have:=hi.2
   rw[zK,zS,zL hi.1]at this
   simpa[zK,hi.1]using this
  have e:atW (m.map fun ws=>ws.map fixW) x k=fixW (atW m x k):=by
   have hx:=hi2.1
   have hk:=hi2.2
   rw[zK,zL hx]at hk
   simp only[Option.getD_some]at hk
   simp[atW,zK,hx,hk]
  rw[e];exact(key x k hi2).2.2
end Go.Proofs.YtecoaapkcnhlhaaGreatDoor
namespace Go.Proofs.YtecoaapkcnhlhaaGreatDoor
open Go Go.Vc Go.Ham Txt
structure FlipA where
 x:Int
 k:Int
 b:Int
 deriving DecidableEq,Inhabited
def qHw(f:FlipA):List PV:=[.int f.x,.int f.k,.int f.b]
@[push_cast] theorem qHx(f:FlipA):qHw f=[.int f.x,.int f.k,.int f.b]:=rfl
def qHy(l:List (List Nat))(f:FlipA):Prop:=0<=f.x/\f.x<l.length/\0<=f.k/\f.k<(l.getD f.x.toNat []).length/\0<=f.b/\f.b<=63
instance (l:List (List Nat)) (f:FlipA):Decidable (qHy l f):=by unfold qHy;infer_instance
def qHz(l:List (List Nat))(f:FlipA):PV:=if qHy l f then .tup [.sl true 1 (rows (frmC true) (qHd l f.x.toNat f.k.toNat f.b.toNat)),.int 0]else .tup [.nil,.int 1]
set_option maxHeartbeats 400000 in
theorem qHA(l:List (List Nat))(hl:FrmSm l)(f:FlipA):FnEq Tryz.prog 48 [.sl false 1 (rows (frmC false) l),.agg (qHw f)] (qHz l f):=by
 have hn:=hl.n
 have hP:Perm (qHz l f):=by
  unfold qHz
  split
  ·simp only[push_cast,reduceIte,zA,zB,zC,zD,zE,zF,zG,reduceCtorEq,zH,zJ,cNI];simp
  ·exact sC
 refine FnEq.of_awp Tryz.func48 ok48 (by show 2<=_;decide) hP ?_
 simp only[ac48,rv48,push_cast,reduceIte,zA,zB,zC,zD,zE,zF,zG,reduceCtorEq,zH,zJ,cNI]
 refine qrI ⟨[(0,.sl false 1 (rows (frmC false) l)),(3,.ptr 3 0),(43,.bool (!decide (qHy l f)))],[(3,[.int f.x,.int f.k,.int f.b])],[],[]⟩ ?_ ?_
 ·have no: ¬qHy l f->decide (qHy l f)=false:=fun h=>decide_eq_false h
  refine qrE rfl (fun h1=> ?_) fun h1=> ?_<;>simp only[push_cast,reduceIte,zA,zB,zC,zD,zE,zF,zG,reduceCtorEq,zH,zJ,cNI]
  ·rw[no fun h=>by have:=h.1;omega];rfl
  first|(refine qrE rfl (fun h2=> ?_) fun h2=> ?_<;>simp only[push_cast,reduceIte,zA,zB,zC,zD,zE,zF,zG,reduceCtorEq,zH,zJ,cNI])|(refine qrA rfl (fun h2=> ?_) fun h2=> ?_<;>simp only[push_cast,reduceIte,zA,zB,zC,zD,zE,zF,zG,reduceCtorEq,zH,zJ,cNI])
  ·rw[no fun h=>by have:=h.2.1;omega];rfl
  first|(refine qrE rfl (fun h3=> ?_) fun h3=> ?_<;>simp only[push_cast,reduceIte,zA,zB,zC,zD,zE,zF,zG,reduceCtorEq,zH,zJ,cNI])|(refine qrA rfl (fun h3=> ?_) fun h3=> ?_<;>simp only[push_cast,reduceIte,zA,zB,zC,zD,zE,zF,zG,reduceCtorEq,zH,zJ,cNI])
  ·rw[no fun h=>by have:=h.2.2.1;omega];rfl
  have hx:f.x.toNat<l.length:=by omega
  simp only[qF0,push_cast,reduceIte,zA,zB,zC,zD,zE,zF,zG,reduceCtorEq,zH,zJ,cNI]
  refine⟨⟨oM,oM⟩,hx,?_⟩
  first|(refine qrE rfl (fun h4=> ?_) fun h4=> ?_<;>simp only[push_cast,reduceIte,zA,zB,zC,zD,zE,zF,zG,reduceCtorEq,zH,zJ,cNI])|(refine qrA rfl (fun h4=> ?_) fun h4=> ?_<;>simp only[push_cast,reduceIte,zA,zB,zC,zD,zE,zF,zG,reduceCtorEq,zH,zJ,cNI])
  ·rw[no fun h=>by have h5:f.k<(l.getD f.x.toNat default).length:=h.2.2.2.1;omega];rfl
  first|(refine qrE rfl (fun h5=> ?_) fun h5=> ?_<;>simp only[push_cast,reduceIte,zA,zB,zC,zD,zE,zF,zG,reduceCtorEq,zH,zJ,cNI])|(refine qrA rfl (fun h5=> ?_) fun h5=> ?_<;>simp only[push_cast,reduceIte,zA,zB,zC,zD,zE,zF,zG,reduceCtorEq,zH,zJ,cNI])
  ·rw[no fun h=>by have:=h.2.2.2.2.1;omega];rfl
  have e:decide (63<f.b)= !decide (qHy l f):=by
   by_cases h6:63<f.b
   ·rw[decide_eq_true h6,no fun h=>by have:=h.2.2.2.2.2;omega];rfl
   ·rw[decide_eq_false h6,decide_eq_true (show qHy l f from⟨oM,oM,oM,by show f.k<(l.getD f.x.toNat default).length;omega,oM,oM⟩)];rfl
  rw[e]
 ·refine qnX (fun h=> ?_) fun h=> ?_
  ·have hf: ¬qHy l f:=by simpa using h
   unfold qHz
   rw[if_neg hf]
   exact sC
  ·have hf:qHy l f:=by simpa using h
   unfold qHz
   rw[if_pos hf]
   obtain⟨q1,q2,q3,q4,q5,q6⟩:=hf
   simp only[ac48_r3,push_cast,reduceIte,zA,zB,zC,zD,zE,zF,zG,reduceCtorEq,zH,zJ,cNI]
   refine qDP [2507] (naK l.length) (qGY l hl) rfl rfl (qH1 l) ?_
   have hx:f.x.toNat<l.length:=by omega
   obtain⟨x,hxe⟩: ∃x,x=f.x.toNat:=⟨_,rfl⟩
   obtain⟨k,hke⟩: ∃k,k=f.k.toNat:=⟨_,rfl⟩
   obtain⟨b,hbe⟩: ∃b,b=f.b.toNat:=⟨_,rfl⟩
   have hfb:f.b=(b:Int):=by omega
   have hkl:k<(l.getD x []).length:=by rw[<- hxe]at q4;omega
   have hb64:b<64:=by omega
   have hmem:l.getD x []∈l:=by rw[zK,zL oM];exact List.getElem_mem _
   have hw:(l.getD x []).getD k 0<2^64:=by
    rw[zK,zL hkl]
    exact hl.ok _ hmem _ (List.getElem_mem _)
   rw[qH5,<- hxe,<- hke,<- hbe,hfb]
   rw[<- hxe]at hx
   have hcl:(qB0 3000 (rsW l)).length=l.length:=by rw[qB2,qH2]
   have hxor:bitF .xor .u64 ((((l.getD x []).getD k 0:Nat):Int)) (shfF .shl .u64 1 (b:Int))=(((l.getD x []).getD k 0^^^2^b:Nat):Int):=by
    rw[shl1 hb64,qBn hw (Nat.pow_lt_pow_right (by decide) hb64)]
   simp only[ac48_r4,List.cons_append,List.nil_append,<- hxe,<- hke,Nat.mul_one,qFh (qB0 3000 (rsW l)),hcl,qH6 hx,qH7 hx,qF0,qFG,hxor,qFH,qH8 hx,push_cast,reduceIte,zA,zB,zC,zD,zE,zF,zG,reduceCtorEq,zH,zJ,cNI]
   have hdef:qHd l x k b=l.set x ((l.getD x []).set k ((l.getD x []).getD k 0^^^2^b)):=rfl
   refine⟨⟨oM,oM⟩,oM,⟨oM,oM⟩,hkl,oM,⟨oM,oM⟩,hkl,?_⟩
   rw[qHb hx (ws:=(l.getD x []).set k ((l.getD x []).getD k 0^^^2^b)) (by rw[yF]),<- hdef]
   have hfl:(qHd l x k b).length=l.length:=by rw[hdef,yF]
   refine qr9 ⟨[(6,.sl true 1 (rows (frmC true) (qHd l x k b)))],[],[],[]⟩ (SWk.trans (SWk.dropS (fun i=>i==6) (fun i=>i==2507) (fun _=>true)) ?_) ?_
   ·have hfa:(qB1 1 59 3000 (rsW (qHd l x k b))).filter (fun _=>true)=qB1 1 59 3000 (rsW (qHd l x k b)):=List.filter_eq_self.2 fun _ _=>rfl
    rw[hfa]
    refine qHc [(6,.bv 2507 1 l.length)] _ (qHd l x k b) (fun j hj=>⟨⟨beq_false_of_ne (show 2507≠j by omega),rfl⟩,trivial⟩) ?_
    rw[<- qH9]
    simp only[zW,List.map_nil,PV.fbV,PV.fbA,PV.fb,if_true,yG,qH2,hfl,and_self]
   ·refine sB ?_
    exact fun _ _ _ _=>trivial
end Go.Proofs.YtecoaapkcnhlhaaGreatDoor
namespace Go.Proofs.YtecoaapkcnhlhaaGreatDoor.Txt
open Go Go.Vc
set_option maxRecDepth 100000
def xs44_15:List XO:=[⟨0,[],lF 58 1 8⟩,⟨1,[],mT 59 9⟩,⟨2,[],lF 60 1 8⟩,⟨3,[],mT 61 9⟩,⟨4,[2,3],iX 62 1 60 61⟩,⟨5,[4],lF 63 1 62⟩,⟨6,[],mT 64 13⟩,⟨7,[6],aO 65 (.bsl 1 59 [.sc (.int .u64 0)] 1 [(0,(.t 64))])⟩,⟨8,[5,7],aO 66 (.app 1 59 8 (.t 63) (.t 65))⟩,⟨9,[0,1,2,3,4,5,6,7,8],iX 67 1 58 59⟩,⟨10,[0,1,2,3,4,5,6,7,8,9],sT 1 67 66⟩]
theorem xs44_15_all{p:XO->Prop} :(∀x∈xs44_15,p x) ↔ p ⟨0,[],lF 58 1 8⟩/\p ⟨1,[],mT 59 9⟩/\p ⟨2,[],lF 60 1 8⟩/\p ⟨3,[],mT 61 9⟩/\p ⟨4,[2,3],iX 62 1 60 61⟩/\p ⟨5,[4],lF 63 1 62⟩/\p ⟨6,[],mT 64 13⟩/\p ⟨7,[6],aO 65 (.bsl 1 59 [.sc (.int .u64 0)] 1 [(0,(.t 64))])⟩/\p ⟨8,[5,7],aO 66 (.app 1 59 8 (.t 63) (.t 65))⟩/\p ⟨9,[0,1,2,3,4,5,6,7,8],iX 67 1 58 59⟩/\p ⟨10,[0,1,2,3,4,5,6,7,8,9],sT 1 67 66⟩:=by simp only[xs44_15,List.forall_mem_cons,List.not_mem_nil,false_implies,implies_true,and_true]
def xs44_27:List XO:=[⟨0,[],fA 1085 0 1020⟩,⟨1,[0],lF 1086 1 1085⟩,⟨2,[1],aO 1087 (.nck (.t 1086))⟩,⟨3,[2],lF 1088 1 1087⟩,⟨4,[],lF 1089 1 1018⟩,⟨5,[],mT 1090 1019⟩,⟨6,[4,5],aO 1091 (.clv (.t 1089) [(.t 1090)])⟩,⟨7,[],mT 1092 1021⟩,⟨8,[6,7],aO 1093 (.shf .shl .i64 (.t 1091) (.t 1092))⟩,⟨9,[3,8],aO 1094 (.bit .or .i64 (.t 1088) (.t 1093))⟩,⟨10,[0,1,2,3,4,5,6,7,8,9],aO 1095 (.nck (.t 1086))⟩,⟨11,[0,1,2,3,4,5,6,7,8,9,10],sT 1 1095 1094⟩]
theorem xs44_27_all{p:XO->Prop} :(∀x∈xs44_27,p x) ↔ p ⟨0,[],fA 1085 0 1020⟩/\p ⟨1,[0],lF 1086 1 1085⟩/\p ⟨2,[1],aO 1087 (.nck (.t 1086))⟩/\p ⟨3,[2],lF 1088 1 1087⟩/\p ⟨4,[],lF 1089 1 1018⟩/\p ⟨5,[],mT 1090 1019⟩/\p ⟨6,[4,5],aO 1091 (.clv (.t 1089) [(.t 1090)])⟩/\p ⟨7,[],mT 1092 1021⟩/\p ⟨8,[6,7],aO 1093 (.shf .shl .i64 (.t 1091) (.t 1092))⟩/\p ⟨9,[3,8],aO 1094 (.bit .or .i64 (.t 1088) (.t 1093))⟩/\p ⟨10,[0,1,2,3,4,5,6,7,8,9],aO 1095 (.nck (.t 1086))⟩/\p ⟨11,[0,1,2,3,4,5,6,7,8,9,10],sT 1 1095 1094⟩:=by simp only[xs44_27,List.forall_mem_cons,List.not_mem_nil,false_implies,implies_true,and_true]
def ac44_r14:AC:=
 (.seq (.reg [0,126,1,2,4,7,8,9,13,14,32,33,34,40,41,42] [
 mT 55 7,mT 56 14,aO 57 (.ari .add true .i64 (.t 55) (.t 56)),mT 7 57])
 (.dra [0,126,1,2,4,7,8,9,13,32,33,34,40,41,42] xs44_15))
def ac44_r8:AC:=
 (.seq (.reg [0,126,1,2,4,7,8,9,10,32,33,34] [
 fA 39 0 10,lF 40 1 39,nT 41 40,mK 42 0])
 (.block 2
 (.lps [0,126,1,2,4,7,8,9,32,33,34,40,41,42]
 (.seq (.reg [0,126,1,2,4,7,8,9,32,33,34,40,41,42] [
 lS 43 42 41])
 (.seq (.cond (.t 43)
 .skip
 (.exit 2))
 (.seq (.block 3
 (.seq (.reg [0,126,1,2,4,7,8,9,32,33,34,40,41,42] [
 iX 44 1 40 42,lF 45 1 44,mT 12 45])
 (.seq (.reg [0,126,1,2,4,7,8,9,12,32,33,34,40,41,42] [
 mT 47 12,aO 48 (.cal 69 [(.t 47)]),mT 46 48,aO 49 (.ext (.t 46) 0),aO 50 (.ext (.t 46) 1),aO 51 (.ext (.t 46) 2),mT 13 49,mT 14 50,mT 15 51])
 (.seq (.seq (.reg [0,126,1,2,4,7,8,9,13,14,15,32,33,34,40,41,42] [
 mT 52 15,aO 53 (.cmp .neq .i64 (.t 52) (kI 0))])
 (.cond (.t 53)
 (.seq (.reg [0,126,4] [
 aO 54 (.bld [.nil,.nil,.nil,.nil] []),sT 4 4 54,mK 5 0,mK 6 380])
 .ret)
 .skip))
 ac44_r14))))
 (.reg [0,126,1,2,4,7,8,9,32,33,34,40,41,42] [
 uF 68 42 1,mT 42 68])))))))
def ac44_r26:AC:=
 (.seq (.reg [1000,126,1018,1019,1020,1081,1082] [
 mT 1084 1082,mT 1021 1084])
 (.dra [1000,126,1018,1019,1020,1021,1081,1082] xs44_27))
def ac44_r24:AC:=
 (.seq (.reg [1000,126,1018,1019,1020] [
 fA 1080 1 1020,lF 1081 1 1080,mK 1082 0])
 (.block 6
 (.lps [1000,126,1018,1019,1020,1081,1082]
 (.seq (.reg [1000,126,1018,1019,1020,1081,1082] [
 lS 1083 1082 1081])
 (.seq (.cond (.t 1083)
 .skip
 (.exit 6))
 (.seq (.block 7
 ac44_r26)
 (.reg [1000,126,1018,1019,1020,1081,1082] [
 uF 1096 1082 1,mT 1082 1096])))))))
def ac44_r31:AC:=
 (.seq (.reg [0,126,2,4,7,8,16,17,18,98,99] [
 mT 101 99,mT 22 101])
 (.block 10
 (.lps [0,126,2,4,7,8,16,17,18,22,98,99]
 (.seq (.seq (.drw [0,126,2,4,7,8,16,17,18,22,98,99] [
 eL 102 1 17,eM 103 22,eI 104 1 102 103,eL 105 1 104,eL 106 1 8,eM 107 22,eI 108 1 106 107,eL 109 1 108,eT 110 (.len (.t 109)),eT 111 (.ari .mul true .i64 (kI 57) (.t 110)),eF 112 (.cmp .lss .i64 (.t 105) (.t 111))])
 (.cond (.t 112)
 .skip
 (.exit 10)))
 (.block 11
 (.seq (.reg [0,126,2,4,7,8,16,17,18,22,98,99] [
 lF 113 1 18,mT 114 22,aO 115 (.clv (.t 113) [(.t 114)]),aO 116 (.cmp .neq .i64 (.t 115) (kI 0))])
 (.cond (.t 116)
 (.seq (.reg [0,126,4] [
 aO 117 (.bld [.nil,.nil,.nil,.nil] []),sT 4 4 117,mK 5 0,mK 6 380])
 .ret)
 .skip)))))))
def ac44_r36:AC:=
 (.seq (.seq (.reg [0,126,2,4,7,16] [
 uE 119 5 2,uE 120 4 16,aO 121 (.cal 57 [(.t 119),(.t 120)]),aO 122 (.cmp .neq .i64 (.t 121) (kI 0))])
 (.cond (.t 122)
 (.seq (.reg [0,126,4] [
 aO 123 (.bld [.nil,.nil,.nil,.nil] []),sT 4 4 123,mK 5 0,mK 6 380])
 .ret)
 .skip))
 (.seq (.reg [0,126,4,7,16] [
 uE 124 4 16,mT 125 7,sT 4 4 124,mT 5 125,mK 6 0])
 .ret))
def ac44_r29:AC:=
 (.seq (.seq (.reg [0,126,1,2,4,7,8,16,17,18] [
 mT 97 1,nT 98 97,mK 99 0])
 (.block 8
 (.lps [0,126,2,4,7,8,16,17,18,98,99]
 (.seq (.reg [0,126,2,4,7,8,16,17,18,98,99] [
 lS 100 99 98])
 (.seq (.cond (.t 100)
 .skip
 (.exit 8))
 (.seq (.block 9
 ac44_r31)
 (.reg [0,126,2,4,7,8,16,17,18,98,99] [
 uF 118 99 1,mT 99 118])))))))
 ac44_r36)
def ac44_r21:AC:=
 (.seq (.seq (.reg [0,126,1,2,4,7,8,16,17,18] [
 uE 76 5 2,aO 77 (.clm 58 [(.t 76),(.t 16)])])
 (.block 4
 (.rngf ⟨(.t 77),0,126,1000,[0,126,1,2,4,7,8,16,17,18,77],999⟩ [1078,1079]
 (.seq (.reg [1000,126,1018,1078,1079] [
 mT 1019 1078])
 (.reg [1000,126,1018,1019,1079] [
 aO 1020 (.alc [.sc (.pointer none),zI]),sT 2 1020 1079]))
 (.block 5
 ac44_r24))))
 ac44_r29)
def ac44_r18:AC:=
 (.seq (.reg [0,126,1,2,4,7,8] [
 uE 70 5 2,aO 71 (.clm 65 [(.t 70)]),aO 16 (.alc [.nil,.nil,.nil,.nil]),sT 4 16 71])
 (.seq (.reg [0,126,1,2,4,7,8,16] [
 mT 72 1,nT 73 72,aO 74 (.mks 1 3 8 [zI] (.t 73) (.t 73)),aO 17 (.alc [.nil]),sT 1 17 74])
 (.seq (.reg [0,126,1,2,4,7,8,16,17] [
 aO 75 (.mkf 70 [(.t 8),(.t 17)]),aO 18 (.alc [.sc .nilFunc]),sT 1 18 75])
 ac44_r21)))
def ac44_r3:AC:=
 (.seq (.reg [0,126,1,2,4] [
 mK 7 0])
 (.seq (.reg [0,126,1,2,4,7] [
 mT 29 1,nT 30 29,aO 31 (.xo (.mkx 24 (.nil)) [(.t 30)]),aO 8 (.alc [.nil]),sT 1 8 31])
 (.seq (.seq (.reg [0,126,1,2,4,7,8] [
 mT 32 1,nT 33 32,mK 34 0])
 (.block 0
 (.lps [0,126,1,2,4,7,8,32,33,34]
 (.seq (.reg [0,126,1,2,4,7,8,32,33,34] [
 lS 35 34 33])
 (.seq (.cond (.t 35)
 .skip
 (.exit 0))
 (.seq (.block 1
 (.seq (.reg [0,126,1,2,4,7,8,32,33,34] [
 mT 36 34,iX 37 1 32 34,uE 38 1 37,aO 10 (.alc [.nil]),mT 9 36,sT 1 10 38])
 ac44_r8))
 (.reg [0,126,1,2,4,7,8,32,33,34] [
 uF 69 34 1,mT 34 69])))))))
 ac44_r18)))
def ac44:AC:=
 (.seq (.reg [0,126,0,1] [
 xT 2 0,aO 4 (.alc [.nil,.nil,.nil,.nil]),mK 5 0,mK 6 0])
 (.seq (.seq (.reg [0,126,1,2,4] [
 mT 23 1,uE 24 5 2,aO 25 (.cal 13 [(.t 24)]),aO 26 (.cal 67 [(.t 23),(.t 25),(.c (.sc (.func (.func 68) #[] #[])))]),aO 27 (.not (.t 26))])
 (.cond (.t 27)
 (.seq (.reg [0,126,4] [
 aO 28 (.bld [.nil,.nil,.nil,.nil] []),sT 4 4 28,mK 5 0,mK 6 380])
 .ret)
 .skip))
 ac44_r3))
def rv44:List RV:=[.cell 4 true 4,.tmp 5,.tmp 6]
theorem ok44:fnOk Tryz.prog ac44 rv44 Tryz.f44=true:=by kernel_rfl

def ac70_2000:AC:=
 (.seq (.reg [2000,32,2000,2001,2002] [
 mK 2004 0])
 (.seq (.drw [2000,32,2000,2001,2002] [
 eL 2006 1 2001,eM 2007 2000,eI 2008 1 2006 2007,eL 2009 1 2008,eL 2010 1 2002,eM 2011 2000,eI 2012 1 2010 2011,eL 2013 1 2012,eT 2014 (.dvd .quo true .i64 (.t 2013) (kI 57)),eI 2015 1 2009 2014,eL 2016 1 2015,eL 2017 1 2002,eM 2018 2000,eI 2019 1 2017 2018,eL 2020 1 2019,eT 2021 (.dvd .rem true .i64 (.t 2020) (kI 57)),eF 2022 (.shf .shr .u64 (.t 2016) (.t 2021)),eF 2023 (.bit .and .u64 (.t 2022) (.c (.sc (.int .u64 1)))),eF 2005 (.mv (.t 2023))])
 (.seq (.reg [2000,32,2000,2002,2005] [
 lF 2024 1 2002,mT 2025 2000,iX 2026 1 2024 2025,lF 2027 1 2026,uF 2028 2027 1,iX 2029 1 2024 2025,sT 1 2029 2028])
 (.seq (.reg [2000,32,2005] [
 mT 2030 2005,aO 2031 (.cnv true .i64 (.t 2030)),mT 2004 2031])
 .ret))))
def rv70_2000:List RV:=[.tmp 2004]
theorem ok70_2000:qh6 Tryz.prog 2000 ac70_2000 rv70_2000 Tryz.f70=true:=by kernel_rfl

def ac65_100:AC:=
 (.seq (.reg [100,17,100] [
 xT 101 100,aO 102 (.alc [.nil,.nil,.nil,.nil])])
 (.seq (.reg [100,17,101,102] [
 fA 104 4 101,lF 105 1 104,nT 106 105,mT 103 106])
 (.seq (.drw [100,17,101,102,103] [
 eU 107 (.ld true 5 (.t 101)) [] [111,113,115],eU 108 (.cal 40 [(.t 107)]) [] [111,113,115],eU 109 (.mks 1 3 8 [zI] (.t 108) (.t 108)) [109] [111,113,115],eU 110 (.mv (.t 103)) [] [109,113,115],eU 111 (.mks 1 3 8 [zI] (.t 110) (.t 110)) [111] [109,113,115],eU 112 (.mv (.t 103)) [] [109,111,115],eU 113 (.mks 1 3 8 [zI] (.t 112) (.t 112)) [113] [109,111,115],eU 114 (.mv (.t 103)) [] [109,111,113],eU 115 (.mks 1 3 8 [zI] (.t 114) (.t 114)) [115] [109,111,113],eF 116 (.bld [.nil,.nil,.nil,.nil] [(0,1,(.t 109)),(1,1,(.t 111)),(2,1,(.t 113)),(3,1,(.t 115))]),⟨sT 4 102 116,[],[],false⟩])
 .ret)))
def rv65_100:List RV:=[.cell 102 true 4]
theorem ok65_100:qh6 Tryz.prog 100 ac65_100 rv65_100 Tryz.f65=true:=by kernel_rfl
end Go.Proofs.YtecoaapkcnhlhaaGreatDoor.Txt
namespace Go.Proofs.YtecoaapkcnhlhaaGreatDoor
open Go Go.Vc Txt
def qHB(v:Int)(n xi len:Nat)(cell cell' :PV)(dn:List Nat):Nat->PV
 |0=> .bv 31 1 n
 |1=> .int xi
 |2=> .bv 31 1 n
 |3=> .int xi
 |4=> .ptr 31 xi
 |5=>if dn.contains 8=true then cell' else cell
 |6=> .sc (.int .u64 v)
 |7=> .view 65 0 1
 |8=> .view 66 0 (len+1)
 |9=> .ptr 31 xi
 |_=> .bot
def qHC(b b7 b9:List (Nat×List PV))(a a6 a7:List (Nat×Arr))(dn:List Nat):List (Nat×List PV)×List (Nat×Arr)×List (Nat×Mp):=
 (if dn.contains 10=true then b9 else if dn.contains 8=true then b7 else b,if dn.contains 8=true then a7 else if dn.contains 7=true then a6 else a,[])
def qHD(a:List (Nat×Arr))(W:List (List PV))(cell cell' :PV):Prop:=(cell= .nil/\W=[]/\cell' = .nil)\/(cell= .view 66 0 W.length/\lk a 66=some ⟨1,59,W⟩/\cell' = .bot)
set_option maxHeartbeats 4000000 in
theorem qHE {P : Env} {s0 : List (Nat × PV)} {b b7 : List (Nat × List PV)} {a : List (Nat × Arr)} (n xi : Nat) (W : List (List PV)) (cell cell' : PV) (C C7 : List PV) (v : Int) (K : St -> Prop)
  (hP:getL s0 8= .ptr 8 0) (hX:getL s0 9= .int xi) (hx:xi<n) (hW:W.length<100000000) (hv:getL s0 13= .sc (.int .u64 v))
  (hb1:lk b 8=some [.bv 31 1 n]) (hb2:lk b7 8=some [.bv 31 1 n]) (hc:lk b 31=some C) (hc7:lk b7 31=some C7) (hC:C.length=n) (hC7:C7.length=n) (hcell:C.getD xi .bot=cell)
  (k6:qiF nul (isId 65) b=b) (k7:qiF nul (isId 66) b=b7) (f6:qiE nul (isId 65) s0=s0) (f7:qiE nul (isId 66) s0=s0)
  (h:qHD a W cell cell')
  (hK:K ⟨slA (qHB v n xi W.length cell cell' [8]) xs44_15 s0,up b7 31 (C7.set xi (.view 66 0 (W.length+1))),up (up a 65 ⟨1,59,[[.sc (.int .u64 v)]]⟩) 66 ⟨1,59,W++[[.sc (.int .u64 v)]]⟩,[]⟩):
  allK P xs44_15 xs44_15.length [] ⟨s0,b,a,[]⟩ K:=by
 have hlk: ∀(l:List (Nat×Arr)) (A:Arr),lk (up l 65 A) 66=lk l 66:=fun l A=>by rw[qa2,if_neg (by decide)]
 have hlk6: ∀(l:List (Nat×Arr)) (A:Arr),lk (up l 65 A) 65=some A:=fun l A=>by rw[qa2,if_pos rfl]
 have hub: ∀(c:List PV),lk (up b7 31 c) 8=some [.bv 31 1 n]:=fun c=>by rw[qa2,if_neg (by decide)];exact hb2
 refine qFn (ops:=xs44_15) (qHB v n xi W.length cell cell') (qHC b b7 (up b7 31 (C7.set xi (.view 66 0 (W.length+1)))) a (up a 65 ⟨1,59,[[.sc (.int .u64 v)]]⟩) (up (up a 65 ⟨1,59,[[.sc (.int .u64 v)]]⟩) 66 ⟨1,59,W++[[.sc (.int .u64 v)]]⟩)) rfl rfl ?_ ?_ rfl
 ·rw[xs44_15_all]
  refine⟨?_,?_,?_,?_,?_,?_,?_,?_,?_,?_,?_⟩
  ·intro dn S hr hc' hS L K hK
   have h9:dn.contains 10=false:=qAT hc' hr (zP (i:=10) rfl) (by decide)
   have g0:getL S 8= .ptr 8 0:=(L 8 trivial).trans hP
   have e:qHB v n xi W.length cell cell' (0::dn)=qHB v n xi W.length cell cell' dn:=rfl
   have em:qHC b b7 (up b7 31 (C7.set xi (.view 66 0 (W.length+1)))) a (up a 65 ⟨1,59,[[.sc (.int .u64 v)]]⟩) (up (up a 65 ⟨1,59,[[.sc (.int .u64 v)]]⟩) 66 ⟨1,59,W++[[.sc (.int .u64 v)]]⟩) (0::dn)=qHC b b7 (up b7 31 (C7.set xi (.view 66 0 (W.length+1)))) a (up a 65 ⟨1,59,[[.sc (.int .u64 v)]]⟩) (up (up a 65 ⟨1,59,[[.sc (.int .u64 v)]]⟩) 66 ⟨1,59,W++[[.sc (.int .u64 v)]]⟩) dn:=rfl
   rw[em,e,<- hS]at hK
   revert hK
   unfold qHC
   rw[h9]
   intro hK
   cases h7:dn.contains 8<;>rw[h7]at hK<;>simp only[g0,hb1,hb2,push_cast,reduceIte,zA,zB,zC,zD,zE,zF,zG,reduceCtorEq,zH,zJ,cNI]at hK ⊢ <;>exact hK
  ·intro dn S hr hc' hS L K hK
   have g0:getL S 9= .int xi:=(L 9 trivial).trans hX
   have e:qHB v n xi W.length cell cell' (1::dn)=qHB v n xi W.length cell cell' dn:=rfl
   rw[e,<- hS]at hK
   simp only[g0,push_cast,reduceIte,zA,zB,zC,zD,zE,zF,zG,reduceCtorEq,zH,zJ,cNI]
   exact hK
  ·intro dn S hr hc' hS L K hK
   have h9:dn.contains 10=false:=qAT hc' hr (zP (i:=10) rfl) (by decide)
   have g0:getL S 8= .ptr 8 0:=(L 8 trivial).trans hP
   have e:qHB v n xi W.length cell cell' (2::dn)=qHB v n xi W.length cell cell' dn:=rfl
   have em:qHC b b7 (up b7 31 (C7.set xi (.view 66 0 (W.length+1)))) a (up a 65 ⟨1,59,[[.sc (.int .u64 v)]]⟩) (up (up a 65 ⟨1,59,[[.sc (.int .u64 v)]]⟩) 66 ⟨1,59,W++[[.sc (.int .u64 v)]]⟩) (2::dn)=qHC b b7 (up b7 31 (C7.set xi (.view 66 0 (W.length+1)))) a (up a 65 ⟨1,59,[[.sc (.int .u64 v)]]⟩) (up (up a 65 ⟨1,59,[[.sc (.int .u64 v)]]⟩) 66 ⟨1,59,W++[[.sc (.int .u64 v)]]⟩) dn:=rfl
   rw[em,e,<- hS]at hK
   revert hK
   unfold qHC
   rw[h9]
   intro hK
   cases h7:dn.contains 8<;>rw[h7]at hK<;>simp only[g0,hb1,hb2,push_cast,reduceIte,zA,zB,zC,zD,zE,zF,zG,reduceCtorEq,zH,zJ,cNI]at hK ⊢ <;>exact hK
  ·intro dn S hr hc' hS L K hK
   have g0:getL S 9= .int xi:=(L 9 trivial).trans hX
   have e:qHB v n xi W.length cell cell' (3::dn)=qHB v n xi W.length cell cell' dn:=rfl
   rw[e,<- hS]at hK
   simp only[g0,push_cast,reduceIte,zA,zB,zC,zD,zE,zF,zG,reduceCtorEq,zH,zJ,cNI]
   exact hK
  ·intro dn S hr hc' hS L K hK
   have g1:getL S 60= .bv 31 1 n:=L 60 (qAR hr (j:=2) (by decide))
   have g2:getL S 61= .int xi:=L 61 (qAR hr (j:=3) (by decide))
   have e:qHB v n xi W.length cell cell' (4::dn)=qHB v n xi W.length cell cell' dn:=rfl
   rw[e,<- hS]at hK
   simp only[g1,g2,Nat.mul_one,push_cast,reduceIte,zA,zB,zC,zD,zE,zF,zG,reduceCtorEq,zH,zJ,cNI]
   exact⟨⟨oM,oM⟩,hK⟩
  ·intro dn S hr hc' hS L K hK
   have g1:getL S 62= .ptr 31 xi:=L 62 (qAR hr (j:=4) (by decide))
   have h7:dn.contains 8=false:=qAT hc' hr (zP (i:=8) rfl) (by decide)
   have h9:dn.contains 10=false:=qAT hc' hr (zP (i:=10) rfl) (by decide)
   have e:qHB v n xi W.length cell cell' (5::dn)=qHB v n xi W.length cell cell' dn:=rfl
   have em: ∀q1 q2 q3 q4 q5 q6,qHC q1 q2 q3 q4 q5 q6 (5::dn)=qHC q1 q2 q3 q4 q5 q6 dn:=fun _ _ _ _ _ _=>rfl
   rw[em,e,<- hS]at hK
   have e5:qHB v n xi W.length cell cell' dn 5=cell:=by
    show(if dn.contains 8=true then cell' else cell)=cell
    rw[h7];rfl
   have hK:K ⟨up S 63 (qHB v n xi W.length cell cell' dn 5),_,_,_⟩:=hK
   rw[e5]at hK
   revert hK
   unfold qHC
   rw[h9,h7]
   intro hK
   simp only[g1,hc,qFh C,hcell,hC,push_cast,reduceIte,zA,zB,zC,zD,zE,zF,zG,reduceCtorEq,zH,zJ,cNI]at hK ⊢
   exact⟨oM,hK⟩
  ·intro dn S hr hc' hS L K hK
   have g0:getL S 13= .sc (.int .u64 v):=(L 13 trivial).trans hv
   have e:qHB v n xi W.length cell cell' (6::dn)=qHB v n xi W.length cell cell' dn:=rfl
   rw[e,<- hS]at hK
   simp only[g0,push_cast,reduceIte,zA,zB,zC,zD,zE,zF,zG,reduceCtorEq,zH,zJ,cNI]
   exact hK
  ·intro dn S hr hc' hS L K hK
   have h7:dn.contains 8=false:=qAT hc' hr (zP (i:=8) rfl) (by decide)
   have h9:dn.contains 10=false:=qAT hc' hr (zP (i:=10) rfl) (by decide)
   have h6:dn.contains 7=false:=qAS hr
   have e:qHB v n xi W.length cell cell' (7::dn)=qHB v n xi W.length cell cell' dn:=rfl
   have em: ∀q1 q2 q3 q4 q5 q6,qHC q1 q2 q3 q4 q5 q6 (7::dn)=(q1,q5,[]):=fun q1 q2 q3 q4 q5 q6=>by
    show(if dn.contains 10=true then _ else if dn.contains 8=true then _ else _,if dn.contains 8=true then _ else if true=true then _ else _,_)=_
    rw[h9,h7];rfl
   have em0: ∀q1 q2 q3 q4 q5 q6,qHC q1 q2 q3 q4 q5 q6 dn=(q1,q4,[]):=fun q1 q2 q3 q4 q5 q6=>by
    unfold qHC
    rw[h9,h7,h6];rfl
   rw[em,e,<- hS]at hK
   rw[em0]
   have hkS:qiE nul (isId 65) S=S:=by
    rw[hS,qFk,f6]
    apply qFl
    intro i hi
    rcases i with _|_|_|_|_|_|_|_|_|_|_|i<;>try rfl
    ·show PV.killV nul (isId 65) (if dn.contains 8=true then cell' else cell)=(if dn.contains 8=true then cell' else cell)
     rw[h7]
     rcases h with⟨h1,-,-⟩|⟨h1,-,-⟩<;>rw[h1]<;>rfl
    ·rw[h6]at hi;cases hi
   have g1:getL S 64= .sc (.int .u64 v):=L 64 (qAR hr (j:=6) (by decide))
   simp only[g1,hkS,k6,rep1,List.set_cons_zero,zV,List.length_nil,push_cast,reduceIte,zA,zB,zC,zD,zE,zF,zG,reduceCtorEq,zH,zJ,cNI]at hK ⊢
   first|exact hK|exact⟨by decide,hK⟩
  ·intro dn S hr hc' hS L K hK
   have h9:dn.contains 10=false:=qAT hc' hr (zP (i:=10) rfl) (by decide)
   have h7:dn.contains 8=false:=qAS hr
   have h6:dn.contains 7=true:=qAR hr (j:=7) (by decide)
   have g5:getL S 63=cell:=by
    rw[L 63 (qAR hr (j:=5) (by decide))]
    show(if dn.contains 8=true then cell' else cell)=cell
    rw[h7];rfl
   have g6:getL S 65= .view 65 0 1:=L 65 (qAR hr (j:=7) (by decide))
   have em: ∀q1 q2 q3 q4 q5 q6,qHC q1 q2 q3 q4 q5 q6 (8::dn)=(q2,q6,[]):=fun q1 q2 q3 q4 q5 q6=>by
    show(if dn.contains 10=true then _ else if true=true then _ else _,if true=true then _ else if dn.contains 7=true then _ else _,_)=_
    rw[h9];rfl
   have em0: ∀q1 q2 q3 q4 q5 q6,qHC q1 q2 q3 q4 q5 q6 dn=(q1,q5,[]):=fun q1 q2 q3 q4 q5 q6=>by
    unfold qHC
    rw[h9,h7,h6];rfl
   rw[em]at hK
   rw[em0]
   have hkS:qiE nul (isId 66) S=slD (qHB v n xi W.length cell cell' (8::dn)) dn xs44_15 s0:=by
    rw[hS,qFk,f7]
    apply qFl
    intro i hi
    rcases i with _|_|_|_|_|_|_|_|_|_|_|i<;>try rfl
    ·show PV.killV nul (isId 66) (if dn.contains 8=true then cell' else cell)=cell'
     rw[h7]
     rcases h with⟨h1,-,h3⟩|⟨h1,-,h3⟩<;>rw[h1,h3]<;>rfl
    ·rw[h7]at hi;cases hi
   have hK:K ⟨up (slD (qHB v n xi W.length cell cell' (8::dn)) dn xs44_15 s0) 66 (.view 66 0 (W.length+1)),_,_,_⟩:=hK
   rw[<- hkS]at hK
   rcases h with⟨h1,h2,h3⟩|⟨h1,h2,h3⟩
   ·subst h2
    rw[h1]at g5
    simp only[g5,g6,hlk6,k7,List.take_succ_cons,List.take_zero,zV,List.length_nil,List.nil_append,push_cast,reduceIte,zA,zB,zC,zD,zE,zF,zG,reduceCtorEq,zH,zJ,cNI]at hK ⊢
    first|exact hK|exact⟨by decide,hK⟩
   ·rw[h1]at g5
    simp only[g5,g6,hlk,hlk6,h2,k7,List.take_succ_cons,List.take_zero,zV,List.length_nil,push_cast,reduceIte,zA,zB,zC,zD,zE,zF,zG,reduceCtorEq,zH,zJ,cNI]at hK ⊢
    exact⟨⟨oM,oM⟩,hK⟩
  ·intro dn S hr hc' hS L K hK
   have h9:dn.contains 10=false:=qAT hc' hr (zP (i:=10) rfl) (by decide)
   have g1:getL S 58= .bv 31 1 n:=L 58 (qAR hr (j:=0) (by decide))
   have g2:getL S 59= .int xi:=L 59 (qAR hr (j:=1) (by decide))
   have e:qHB v n xi W.length cell cell' (9::dn)=qHB v n xi W.length cell cell' dn:=rfl
   rw[e,<- hS]at hK
   simp only[g1,g2,Nat.mul_one,push_cast,reduceIte,zA,zB,zC,zD,zE,zF,zG,reduceCtorEq,zH,zJ,cNI]
   exact⟨⟨oM,oM⟩,hK⟩
  ·intro dn S hr hc' hS L K hK
   have h9:dn.contains 10=false:=qAS hr
   have h7:dn.contains 8=true:=qAR hr (j:=8) (by decide)
   have g1:getL S 67= .ptr 31 xi:=L 67 (qAR hr (j:=9) (by decide))
   have g2:getL S 66= .view 66 0 (W.length+1):=L 66 (qAR hr (j:=8) (by decide))
   have e:qHB v n xi W.length cell cell' (10::dn)=qHB v n xi W.length cell cell' dn:=rfl
   have em: ∀q1 q2 q3 q4 q5 q6,qHC q1 q2 q3 q4 q5 q6 (10::dn)=(q3,q6,[]):=fun q1 q2 q3 q4 q5 q6=>by
    show(if true=true then _ else if dn.contains 8=true then _ else _,if dn.contains 8=true then _ else if dn.contains 7=true then _ else _,_)=_
    rw[h7];rfl
   have em0: ∀q1 q2 q3 q4 q5 q6,qHC q1 q2 q3 q4 q5 q6 dn=(q2,q6,[]):=fun q1 q2 q3 q4 q5 q6=>by
    unfold qHC
    rw[h9,h7];rfl
   rw[em,e,<- hS]at hK
   rw[em0]
   have hK:K ⟨S,_,_,_⟩:=hK
   simp only[g1,g2,hc7,hC7,qFi C7 xi _ oM,push_cast,reduceIte,zA,zB,zC,zD,zE,zF,zG,reduceCtorEq,zH,zJ,cNI]at hK ⊢
   exact⟨oM,hK⟩
 ·intro dn h
  rw[xs44_15_all]at h
  obtain⟨h0,h1,h2,h3,h4,h5,h6,h7,h8,h9,h10⟩:=h
  have em: ∀q1 q2 q3 q4 q5 q6,qHC q1 q2 q3 q4 q5 q6 dn=(q3,q6,[]):=fun q1 q2 q3 q4 q5 q6=>by
   unfold qHC
   rw[if_pos h10,if_pos h8]
  have ev:qHB v n xi W.length cell cell' dn=qHB v n xi W.length cell cell' [8]:=by
   funext i
   rcases i with _|_|_|_|_|_|_|_|_|_|_|i<;>try rfl
   show(if dn.contains 8=true then cell' else cell)=cell'
   rw[if_pos h8]
  rw[em,ev]
  exact hK
end Go.Proofs.YtecoaapkcnhlhaaGreatDoor
namespace Go.Proofs.YtecoaapkcnhlhaaGreatDoor
open Go Go.Vc Go.Ham Txt
def decB(g:Grid)(n:Nat)(C:List PV):List (Nat×List PV):=[(2,quX false g),(4,[.nil,.nil,.nil,.nil]),(8,[.bv 31 1 n]),(31,C)]
def rw66(W:List Nat):List (Nat×Arr):=match W with|[]=>[]|_::_=>[(66,⟨1,59,rows u64C (nats W)⟩)]
def rc66(W:List Nat):PV:=match W with|[]=> .nil|_::_=> .view 66 0 W.length
set_option maxHeartbeats 2000000 in
theorem qHF (g : Grid) (l : List (List Nat)) (n x : Nat) (hx : x < n) (C : List PV) (hC : C.length = n) (hCf : ∀ j, anyT nul (isId j) C = false) (hC0 : C.set x .nil = C) (f : Int) (w : Nat) (hf : 0 <= f /\ f <= 1000000000) (hw : w <= 1) (d : Nat) (W : List Nat) (hW : W.length < 100000000)
  (ws:List Nat) (i len:Int) (Q:Exit->St->Prop)
  (hQ: ∀z,Q .normal ⟨[(1,.sl false 1 (rows (frmC false) l)),(2,.ptr 2 0),(4,.ptr 4 0),(7,.int (f+w)),(8,.ptr 8 0),(9,.int x),(13,.sc (.int .u64 d)),(32,.sl false 1 (rows (frmC false) l)),(33,.int n),(34,.int x),(40,.sl false 1 (rows u64C (nats ws))),(41,.int len),(42,.int i),(58,.bv 31 1 n),(59,.int x),(60,.bv 31 1 n),(61,.int x),(62,.ptr 31 x),(63,z),(64,.sc (.int .u64 d)),(65,.view 65 0 1),(66,.view 66 0 (W.length+1)),(67,.ptr 31 x)],decB g n (C.set x (.view 66 0 (W.length+1))),[(65,⟨1,59,rows u64C (nats [d])⟩),(66,⟨1,59,rows u64C (nats (W++[d]))⟩)],[]⟩):
  awp (Env.of Tryz.prog) ac44_r14 Q ⟨[(1,.sl false 1 (rows (frmC false) l)),(2,.ptr 2 0),(4,.ptr 4 0),(7,.int f),(8,.ptr 8 0),(9,.int x),(13,.sc (.int .u64 d)),(14,.int w),(15,.int 0),(32,.sl false 1 (rows (frmC false) l)),(33,.int n),(34,.int x),(40,.sl false 1 (rows u64C (nats ws))),(41,.int len),(42,.int i),(52,.int 0),(53,.bool (decide ((0:Int)≠0)))],decB g n (C.set x (rc66 W)),rw66 W,[]⟩:=by
 have hcx: ∀v,(C.set x v).getD x .bot=v:=fun v=>by rw[zK,List.getElem?_set_self oM];rfl
 have hcl: ∀v,(C.set x v).length=n:=fun v=>by rw[yF,hC]
 have hset2: ∀v w,(C.set x v).set x w=C.set x w:=fun v w=>List.set_set ..
 have e5: ∀j,anyT nul (isId j) (C.set x .nil)=false:=fun j=>qFg _ _ _ _ _ (hCf j) rfl
 have b65: ∀m,anyT nul (isId 65) (C.set x (.view 66 0 m))=false:=fun m=>qFg _ _ _ _ _ (hCf 65) rfl
 have b5:=fun m=>qFP (j:=66) C x m oM
 have b6:=fun m=>qFO (j:=66) C x m oM (e5 66)
 cases W with
 |nil=>
   simp only[ac44_r14,rc66,rw66,decB,hC0,push_cast,reduceIte,zA,zB,zC,zD,zE,zF,zG,reduceCtorEq,zH,zJ,cNI]
   refine⟨⟨oM,oM⟩,?_⟩
   refine qHE (b:=decB g n C) (b7:=decB g n C) (n:=n) (xi:=x) (W:=[]) (cell:= .nil) (cell' := .nil) (C:=C) (C7:=C) (v:=d) _ rfl rfl hx (by decide) rfl rfl rfl rfl rfl hC hC ?_ ?_ ?_ rfl rfl (.inl ⟨rfl,rfl,rfl⟩) ?_
   ·rw[<- hC0];exact hcx _
   ·simp only[decB,hCf,push_cast,reduceIte,zA,zB,zC,zD,zE,zF,zG,reduceCtorEq,zH,zJ,cNI]
   ·simp only[decB,hCf,push_cast,reduceIte,zA,zB,zC,zD,zE,zF,zG,reduceCtorEq,zH,zJ,cNI]
   ·simp only[slA,xs44_15,putD,qHB,decB,push_cast,reduceIte,zA,zB,zC,zD,zE,zF,zG,reduceCtorEq,zH,zJ,cNI]
    exact hQ _
 |cons y r=>
   simp only[ac44_r14,rc66,rw66,decB,push_cast,reduceIte,zA,zB,zC,zD,zE,zF,zG,reduceCtorEq,zH,zJ,cNI]
   refine⟨⟨oM,oM⟩,?_⟩
   refine qHE (b:=decB g n (C.set x (.view 66 0 (y::r).length))) (b7:=decB g n (C.set x .bot)) (n:=n) (xi:=x) (W:=rows u64C (nats (y::r))) (cell:= .view 66 0 (y::r).length) (cell' := .bot) (C:=C.set x (.view 66 0 (y::r).length)) (C7:=C.set x .bot) (v:=d) _ rfl rfl hx ?_ rfl rfl rfl rfl rfl (hcl _) (hcl _) (hcx _) ?_ ?_ rfl rfl (.inr ⟨?_,rfl,rfl⟩) ?_
   ·rw[qkk,qF0];exact hW
   ·simp only[decB,b65,hCf,push_cast,reduceIte,zA,zB,zC,zD,zE,zF,zG,reduceCtorEq,zH,zJ,cNI]
   ·simp only[decB,b5,b6,hCf,push_cast,reduceIte,zA,zB,zC,zD,zE,zF,zG,reduceCtorEq,zH,zJ,cNI]
   ·rw[qkk,qF0]
   ·simp only[slA,xs44_15,putD,qHB,decB,hset2,qkk,qF0,push_cast,reduceIte,zA,zB,zC,zD,zE,zF,zG,reduceCtorEq,zH,zJ,cNI]
    have hq:=hQ .bot
    rw[<- qFU]at hq
    exact hq
theorem qHG(l:List Nat)(w:Nat):qDv (l++[w])=(qDv l&&decide (chkW w≠2)):=by simp[qDv]
theorem qHH(l:List Nat)(w:Nat)(h:chkW w≠2):qDw (l++[w])=qDw l+chkW w:=by
 unfold qDw
 rw[List.countP_append]
 have:=qAf w
 by_cases e:chkW w=1
 ·simp[e]
 ·have:chkW w=0:=by omega
  simp[this]
theorem qHI(l:List Nat):qDw l<=l.length:=List.countP_le_length
theorem qHK(W:List Nat)(d:Nat):rc66 (W++[d])= .view 66 0 (W.length+1):=by
 cases W<;>simp[rc66]
theorem qHL(W:List Nat)(d:Nat):rw66 (W++[d])=[(66,⟨1,59,rows u64C (nats (W++[d]))⟩)]:=by
 cases W<;>rfl
def frV(l:List (List Nat)):PV:= .sl false 1 (rows (frmC false) l)
set_option maxHeartbeats 2000000 in
theorem qHM (g : Grid) (l : List (List Nat)) (n x : Nat) (hx : x < n) (C : List PV) (hC : C.length = n) (hCf : ∀ j, anyT nul (isId j) C = false) (hC0 : C.set x .nil = C) (f : Nat) (hf : f <= 900000000) (ws : List Nat) (hws : ∀ w ∈ ws, w < 2 ^ 64) (hl : ws.length <= 1000) (Q : Exit -> St -> Prop)
  (hE:qDv ws=false-> ∀C' A,Q .ret ⟨[(4,.ptr 4 0),(5,.int 0),(6,.int 380),(54,.agg [.nil,.nil,.nil,.nil])],decB g n C',A,[]⟩)
  (hQ:qDv ws=true-> ∀T,qhn [0,126,1,2,4,7,8,32,33,34] T=[]->Q .normal ⟨[(1,.sl false 1 (rows (frmC false) l)),(2,.ptr 2 0),(4,.ptr 4 0),(7,.int (f+qDw ws:Nat)),(8,.ptr 8 0),(9,.int x),(32,.sl false 1 (rows (frmC false) l)),(33,.int n),(34,.int x)]++T,decB g n (C.set x (rc66 (ws.map datW))),rw66 (ws.map datW),[]⟩):
  awp (Env.of Tryz.prog) ac44_r8 Q ⟨[(1,.sl false 1 (rows (frmC false) l)),(2,.ptr 2 0),(4,.ptr 4 0),(7,.int f),(8,.ptr 8 0),(9,.int x),(10,.ptr 10 0),(32,.sl false 1 (rows (frmC false) l)),(33,.int n),(34,.int x),(36,.int x),(37,.iptr false ((rows (frmC false) l).getD x []) 0),(38,.agg [.sl false 1 (rows u64C (nats ws))])],[(2,quX false g),(4,[.nil,.nil,.nil,.nil]),(8,[.bv 31 1 n]),(10,[.sl false 1 (rows u64C (nats ws))]),(31,C)],[],[]⟩:=by
 have hset2: ∀v w,(C.set x v).set x w=C.set x w:=fun v w=>List.set_set ..
 simp only[ac44_r8,push_cast,reduceIte,zA,zB,zC,zD,zE,zF,zG,reduceCtorEq,zH,zJ,cNI]
 refine qoO (fun m st=> ∃j:Nat,j<=ws.length/\m=ws.length-j/\qDv (ws.take j)=true/\st=⟨[(1,.sl false 1 (rows (frmC false) l)),(2,.ptr 2 0),(4,.ptr 4 0),(7,.int (f+qDw (ws.take j):Nat)),(8,.ptr 8 0),(9,.int x),(32,.sl false 1 (rows (frmC false) l)),(33,.int n),(34,.int x),(40,.sl false 1 (rows u64C (nats ws))),(41,.int ws.length),(42,.int j)],
  decB g n (C.set x (rc66 ((ws.take j).map datW))),rw66 ((ws.take j).map datW),[]⟩) ws.length ⟨_,SWk.drop (fun i=>i !=10) (fun _=>true),0,oM,oM,rfl,?_⟩ ?_
 ·rw[List.take_zero,List.map_nil,show rc66 []= .nil from rfl,hC0,qF0]
  rfl
 rintro m st ⟨j,hj,rfl,hok,rfl⟩
 have hc:=qHI (ws.take j)
 rw[List.length_take]at hc
 refine sB ?_
 refine qnY (fun h=> ?_) fun h=> ?_
 ·have hj' :j<ws.length:=by omega
  obtain⟨w,hw⟩: ∃w,w=ws.getD j 0:=⟨_,rfl⟩
  have hwb:w<2^64:=hws _ (by rw[hw,zK,zL hj'];exact List.getElem_mem hj')
  have htk:ws.take (j+1)=ws.take j++[w]:=by
   rw[zZ hj',hw,zK,zL hj']
   rfl
  have hde:=qEv w hwb
  have hcw:=qAf w
  simp only[qF0,qFG,<- hw,push_cast,reduceIte,zA,zB,zC,zD,zE,zF,zG,reduceCtorEq,zH,zJ,cNI]
  refine⟨⟨oM,oM⟩,oM,?_⟩
  unfold decV at hde
  by_cases h2:chkW w=2
  ·rw[if_pos h2]at hde
   refine qrv hde sC ?_
   refine sB ?_
   refine qnY (fun _=> ?_) fun h=>absurd (by decide) h
   simp only[decB,push_cast,reduceIte,zA,zB,zC,zD,zE,zF,zG,reduceCtorEq,zH,zJ,cNI]
   refine hE ?_ _ _
   have hm:w∈ws:=by rw[hw,zK,zL hj'];exact List.getElem_mem hj'
   refine List.all_eq_false.2 ⟨w,hm,by simp[h2]⟩
  ·rw[if_neg h2]at hde
   refine qrv hde sC ?_
   refine sB ?_
   refine qnY (fun h=>absurd rfl h) fun _=> ?_
   have hcs:=qHH (ws.take j) w h2
   have hok2:qDv (ws.take (j+1))=true:=by rw[htk,qHG,hok];simp[h2]
   have hWl:((ws.take j).map datW).length=j:=by rw[yG,List.length_take];omega
   refine qHF g l n x hx C hC hCf hC0 ((f:Int)+(qDw (ws.take j):Nat)) (chkW w) ⟨oM,oM⟩ oM (datW w) ((ws.take j).map datW) oM ws j ws.length _ fun z=> ?_
   refine sB ?_
   refine⟨⟨oM,oM⟩,_,SWk.drop (fun _=>true) (fun i=>i !=65),ws.length-(j+1),oM,j+1,oM,rfl,hok2,?_⟩
   rw[htk,hcs,yH,show[w].map datW=[datW w]from rfl,qHK,qHL,show(f:Int)+(qDw (ws.take j):Nat)+(chkW w:Nat)=((f+(qDw (ws.take j)+chkW w):Nat):Int)from by omega]
   rfl
 ·obtain rfl:j=ws.length:=by omega
  rw[List.take_length]at hok ⊢
  exact hQ hok _ rfl
end Go.Proofs.YtecoaapkcnhlhaaGreatDoor
namespace Go.Proofs.YtecoaapkcnhlhaaGreatDoor
open Go Go.Vc Go.Ham Txt
def cntF(l:List (List Nat)):Nat:=(l.map qDw).sum
def okF(l:List (List Nat)):Bool:=l.all qDv
def datD(l:List (List Nat))(x:Nat):List Nat:=l.getD x []
theorem qHN(l:List (List Nat))(ws:List Nat):cntF (l++[ws])=cntF l+qDw ws:=by simp[cntF]
theorem qHO{l:List (List Nat)}(h: ∀ws∈l,ws.length<=1000):cntF l<=1000*l.length:=by
 induction l with
 |nil=>exact Nat.le_refl _
 |cons a l ih=>
   have h1:=ih fun ws hw=>h ws (zT _ hw)
   have h2:=qHI a
   have h3:=h a zX
   simp only[cntF,zW,List.sum_cons,zV]at h1 ⊢
   omega
theorem qHP{C:List PV}{x:Nat}(v:PV)(h:C.getD x .bot=v)(hx:x<C.length):C.set x v=C:=by
 apply List.ext_getElem (by simp)
 intro i h1 h2
 rw[List.getElem_set]
 split
 ·next q=>subst q;rw[zK,zL h2]at h;exact h.symm
 ·rfl
theorem fz66 {h : Nat -> Nat} {g : Grid} {n k : Nat} (hk : k < n) (D : Nat -> List Nat) (s : List (Nat × PV)) (hs : farL 66 s) :
  SWk ⟨s,decB g n ((outC h n D k).set k (rc66 ((D k).map h))),rw66 ((D k).map h),[]⟩ ⟨s,decB g n (outC h n D (k+1)),[],[]⟩:=by
 by_cases hE:D k=[]
 ·rw[hE,List.map_nil,show rc66 []= .nil from rfl,show rw66 []=[]from rfl,qHP _ (qGd hk D) (by rw[qGb];exact hk),qGg D hE]
  exact SWk.refl _
 ·have hrw : rw66 ((D k).map h) = [(66, ⟨1, 59, rows u64C (nats ((D k).map h))⟩)] := by
   revert hE
   cases D k with
   |nil=>intro h;exact absurd rfl h
   |cons a r=>intro _;rfl
  have hrc:rc66 ((D k).map h)= .view 66 0 (D k).length:=by
   revert hE
   cases D k with
   |nil=>intro h;exact absurd rfl h
   |cons a r=>intro _;simp[rc66]
  rw[hrw,hrc]
  have hf:=SWk.frz ⟨s,decB g n ((outC h n D k).set k (.view 66 0 (D k).length)),[(66,⟨1,59,rows u64C (nats ((D k).map h))⟩)],[]⟩ 66
  have e2:fzS 66 ⟨1,59,rows u64C (nats ((D k).map h))⟩ s=s:=by
   clear hf
   induction s with
   |nil=>rfl
   |cons x s ih=>
     obtain⟨i,v⟩:=x
     rw[qCW]at hs
     rw[qjP,hs.1.2,ih hs.2];rfl
  have b5:=qFP (j:=66) (outC h n D k) k (D k).length (by rw[qGb];exact hk)
  have hfz:(outC h n D k).map (PV.fz 66 ⟨1,59,rows u64C (nats ((D k).map h))⟩)=outC h n D k:=by rw[qk2,qk5 _ _ (qGh D k _ _)]
  have e:PV.fz 66 ⟨1,59,rows u64C (nats ((D k).map h))⟩ (.view 66 0 (D k).length)=outP h D k:=by
   rw[outP,if_neg hE,qjS,if_pos rfl]
   simp only[List.drop_zero]
   rw[zY (by simp[rows,nats])]
  simp only[decB,e2,b5,<- qk2,List.map_set,hfz,e,qGf,push_cast,reduceIte,zA,zB,zC,zD,zE,zF,zG,reduceCtorEq,zH,zJ,cNI]at hf
  exact hf
set_option maxHeartbeats 2000000 in
theorem qHQ (g : Grid) (l : List (List Nat)) (hl : FrmSm l) (Q : Exit -> St -> Prop)
  (hE:okF l=false-> ∀C' A,Q .ret ⟨[(4,.ptr 4 0),(5,.int 0),(6,.int 380),(54,.agg [.nil,.nil,.nil,.nil])],decB g l.length C',A,[]⟩)
  (h18:okF l=true-> ∀T,qhn [0,126,1,2,4,7,8] T=[]->awp (Env.of Tryz.prog) ac44_r18 Q ⟨[(1,.sl false 1 (rows (frmC false) l)),(2,.ptr 2 0),(4,.ptr 4 0),(7,.int (cntF l:Nat)),(8,.ptr 8 0)]++T,decB g l.length (outC datW l.length (datD l) l.length),[],[]⟩) (T:List (Nat×PV)) (hT:qhn [0,126,1,2,4] T=[]):
  awp (Env.of Tryz.prog) ac44_r3 Q ⟨[(1,.sl false 1 (rows (frmC false) l)),(2,.ptr 2 0),(4,.ptr 4 0)]++T,[(2,quX false g),(4,[.nil,.nil,.nil,.nil])],[],[]⟩:=by
 have h1:=hl.n
 have hre:List.replicate l.length PV.nil=outC datW l.length (datD l) 0:=by
  symm
  rw[List.eq_replicate_iff]
  refine⟨qGb _ _ _,fun b hb=> ?_⟩
  obtain⟨x,_,rfl⟩:=List.mem_map.1 hb
  rfl
 simp only[ac44_r3,hT,qFA,hre,qGh,push_cast,reduceIte,zA,zB,zC,zD,zE,zF,zG,reduceCtorEq,zH,zJ,cNI]
 refine⟨⟨oM,oM,oM⟩,?_⟩
 refine qoO (fun j st=> ∃k:Nat,k<=l.length/\j=l.length-k/\okF (l.take k)=true/\st=⟨[(1,.sl false 1 (rows (frmC false) l)),(2,.ptr 2 0),(4,.ptr 4 0),(7,.int (cntF (l.take k):Nat)),(8,.ptr 8 0),(32,.sl false 1 (rows (frmC false) l)),(33,.int l.length),(34,.int k)],decB g l.length (outC datW l.length (datD l) k),[],[]⟩) l.length ⟨_,SWk.refl _,0,oM,oM,rfl,by simp only[push_cast,reduceIte,zA,zB,zC,zD,zE,zF,zG,reduceCtorEq,zH,zJ,cNI];rfl⟩ ?_
 rintro j st ⟨k,hk,rfl,hok,rfl⟩
 refine sB ?_
 refine qnY (fun h=> ?_) fun h=> ?_
 ·have hk' :k<l.length:=by omega
  obtain⟨ws,hws⟩: ∃ws,ws=l.getD k default:=⟨_,rfl⟩
  have hmem:ws∈l:=by rw[hws,zK,zL hk'];exact List.getElem_mem hk'
  have htk:l.take (k+1)=l.take k++[ws]:=by rw[qEY l k hk',hws]
  have hcb:=qHO (l:=l.take k) fun ws hw=>hl.len ws (List.mem_of_mem_take hw)
  rw[List.length_take]at hcb
  have hdk:datD l k=ws:=hws.symm
  simp only[decB,qGh,<- hws,rep1,List.set_cons_zero,push_cast,reduceIte,zA,zB,zC,zD,zE,zF,zG,reduceCtorEq,zH,zJ,cNI]
  refine⟨⟨oM,oM⟩,oM,?_⟩
  have hset0:(outC datW l.length (datD l) k).set k .nil=outC datW l.length (datD l) k:=qHP _ (qGd hk' _) (by rw[qGb];exact hk')
  refine qHM g l l.length k hk' _ (qGb _ _ _) (fun j=>qGh _ _ _ _) hset0 (cntF (l.take k)) oM ws (hl.ok ws hmem) (hl.len ws hmem) _ (fun hb C' A=>hE (List.all_eq_false.2 ⟨ws,hmem,by rw[hb];decide⟩) C' A) fun hrow T hT=> ?_
  simp only[List.cons_append,List.nil_append,qhr,hT,decB,push_cast,reduceIte,zA,zB,zC,zD,zE,zF,zG,reduceCtorEq,zH,zJ,cNI]
  have hz:=fz66 (h:=datW) (g:=g) hk' (datD l) [(1,.sl false 1 (rows (frmC false) l)),(2,.ptr 2 0),(4,.ptr 4 0),(7,.int (cntF (l.take k)+qDw ws:Nat)),(8,.ptr 8 0),(32,.sl false 1 (rows (frmC false) l)),(33,.int l.length),(34,.int ((k:Int)+1))] sC
  rw[hdk]at hz
  simp only[decB,push_cast,reduceIte,zA,zB,zC,zD,zE,zF,zG,reduceCtorEq,zH,zJ,cNI]at hz
  refine⟨⟨oM,oM⟩,_,hz,l.length-(k+1),oM,k+1,oM,rfl,?_,?_⟩
  ·rw[htk,okF,List.all_append,zN]
   exact⟨hok,by simp[hrow]⟩
  ·rw[htk,qHN]
   rfl
 ·obtain rfl:k=l.length:=by omega
  rw[List.take_length]at hok ⊢
  exact h18 hok _ rfl
end Go.Proofs.YtecoaapkcnhlhaaGreatDoor
namespace Go.Proofs.YtecoaapkcnhlhaaGreatDoor
open Go Go.Vc Go.Ham Txt
set_option maxHeartbeats 400000 in
theorem qHR {s : List (Nat × PV)} (hs : qtX 1000 s = true) (id i r : Nat) (ws : List Nat) (hi : i < ws.length) (hw : ws.getD i 0 < 2 ^ 64) (hr : r <= 1000000000) (B : List (Nat × List PV)) (A : List (Nat × Arr)) (h6 : lk B 6 = some [.int r]) (hA : lk A id = some ⟨1, 59, rows u64C (nats ws)⟩) :
  FnM (Env.of Tryz.prog) 74 [.eptr id i 0,.ptr 6 0] ⟨s,B,A,[]⟩ (fun v st' =>(chkW (ws.getD i 0)=2/\v= .bool false/\st' =⟨s,B,A,[]⟩)\/
   (chkW (ws.getD i 0)≠2/\v= .bool true/\st' =⟨s,up B 6 [.int (r+chkW (ws.getD i 0):Nat)],up A id ⟨1,59,rows u64C (nats (ws.set i (encW (datW (ws.getD i 0)))))⟩,[]⟩)):=by
 refine quf 1000 Tryz.func74 ok74_1000 (by show 2<=_;decide) hs (by decide) ?_
 have hde:=qEv (ws.getD i 0) hw
 have hen:=qEp (datW (ws.getD i 0)) (qAr _)
 have hck:=qAf (ws.getD i 0)
 simp only[ac74_1000,rv74_1000,h6,hA,qFG,qCx hs,qCw hs,qCy hs,qCz hs,qCA hs,push_cast,reduceIte,zA,zB,zC,zD,zE,zF,zG,reduceCtorEq,zH,zJ,cNI]
 refine⟨by rw[qF0];exact hi,?_⟩
 unfold decV at hde
 by_cases h2:chkW (ws.getD i 0)=2
 ·rw[if_pos h2]at hde
  refine qrv hde sC ?_
  simp only[h2,qCx hs,qCw hs,qCy hs,qCz hs,qCA hs,push_cast,reduceIte,zA,zB,zC,zD,zE,zF,zG,reduceCtorEq,zH,zJ,cNI]
  exact qnY (fun _=> .inl trivial) fun h=>absurd (by decide) h
 ·rw[if_neg h2]at hde
  refine qrv hde sC ?_
  simp only[h6,hA,qCx hs,qCw hs,qCy hs,qCz hs,qCA hs,push_cast,reduceIte,zA,zB,zC,zD,zE,zF,zG,reduceCtorEq,zH,zJ,cNI]
  refine qnY (fun h=>absurd rfl h) fun _=>⟨⟨oM,oM⟩,?_⟩
  refine qrv hen sC ?_
  simp only[hA,qF0,qFH,qCx hs,qCw hs,qCy hs,qCz hs,qCA hs,push_cast,reduceIte,zA,zB,zC,zD,zE,zF,zG,reduceCtorEq,zH,zJ,cNI]
  exact⟨hi,.inr h2⟩
def mix{α:Type}(f:α->α)(l:List α)(k:Nat):List α:=(l.take k).map f++l.drop k
theorem qHS{α:Type}(f:α->α)(l:List α):mix f l 0=l:=by simp[mix]
theorem qHT{α:Type}(f:α->α)(l:List α):mix f l l.length=l.map f:=by simp[mix]
theorem qHU{α:Type}(f:α->α)(l:List α)(k:Nat):(mix f l k).length=l.length:=by simp[mix];omega
theorem qHV{α:Type}(f:α->α)(l:List α)(k i:Nat)(h:i<l.length):(mix f l k)[i]? =some (if i<k then f l[i]else l[i]):=by
 unfold mix
 by_cases hi:i<k
 ·rw[yA (by simp;omega),if_pos hi,zS,List.getElem?_take,if_pos hi,zL h];rfl
 ·have h2:((l.take k).map f).length=k:=by simp;omega
  rw[yB oM,h2,if_neg hi,List.getElem?_drop,show k+(i-k)=i by omega,zL h]
theorem qHW{α:Type}(f:α->α)(d:α){l:List α}{k:Nat}(h:k<l.length):(mix f l k).getD k d=l.getD k d:=by
 rw[zK,qHV f l k k h,if_neg (Nat.lt_irrefl k),zK,zL h]
theorem qHX{α:Type}(f:α->α)(d:α){l:List α}{k:Nat}(h:k<l.length):(mix f l k).set k (f (l.getD k d))=mix f l (k+1):=by
 apply List.ext_getElem?
 intro i
 rw[List.getElem?_set]
 by_cases hi:i<l.length
 ·rw[qHV f l (k+1) i hi,qHV f l k i hi]
  split
  ·next e=>
   subst e
   rw[qHU,if_pos h,if_pos oM,zK,zL h];rfl
  ·next e=>
   by_cases h3:i<k
   ·rw[if_pos h3,if_pos oM]
   ·rw[if_neg h3,if_neg oM]
 ·rw[if_neg oM,List.getElem?_eq_none (by rw[qHU];omega),List.getElem?_eq_none (by rw[qHU];omega)]
theorem qHY{w:Nat}(h:chkW w=2):fixW w=w:=if_pos h
theorem qHZ{w:Nat}(h:chkW w≠2):fixW w=encW (datW w):=if_neg h
theorem qI0{α:Type}(l:List α)(k:Nat)(d:α)(h:k<l.length):l.set k (l.getD k d)=l:=by
 apply List.ext_getElem (by simp)
 intro i h1 h2
 rw[List.getElem_set]
 split
 ·next q=>subst q;rw[zK,zL h];rfl
 ·rfl
theorem qI1(l:List Nat)(w:Nat)(h:chkW w=2):qDw (l++[w])=qDw l:=by
 unfold qDw;rw[List.countP_append];simp[h]
theorem qI2(l:List Nat)(w:Nat):qDv (l++[w])=(qDv l&&decide (chkW w≠2)):=qHG l w
def badN(l:List (List Nat))(k:Nat):List Int:=((List.range k).filter fun x=> !qDv (l.getD x [])).map fun x:Nat=>(x:Int)
theorem qI3(l:List (List Nat))(k:Nat):badN l (k+1)=if qDv (l.getD k [])then badN l k else badN l k++[(k:Int)]:=by
 unfold badN
 rw[List.range_succ,List.filter_append,yH]
 cases h:qDv (l.getD k [])
 ·rw[List.filter_cons_of_pos (by rw[h];rfl)];rfl
 ·rw[List.filter_cons_of_neg (by rw[h];decide)];simp
theorem qI4(l:List (List Nat))(k:Nat):(badN l k).length<=k:=by
 unfold badN;rw[yG];have:=List.length_filter_le (fun x=> !qDv (l.getD x [])) (List.range k);simpa using this
def scrB(r:Int)(l:List (List Nat)):List (Nat×List PV):=[(6,[.int r]),(2507,qB0 3000 (rsW l))]
set_option maxHeartbeats 1000000 in
theorem qI5 (n x : Nat) (M : List (List Nat)) (hM : M.length = n) (hx : x < n) (ws : List Nat) (hws : M.getD x [] = ws) (hwb : ∀ w ∈ ws, w < 2 ^ 64) (hwl : ws.length <= 1000) (r : Nat) (hr : r <= 900000000) (hn : n <= 1000) (bad : List Int) (hbad : bad.length <= 1000) (Q : Exit -> St -> Prop) (T : List (Nat × PV)) (hT : qhn [0, 52, 5, 6, 7, 8, 9, 10, 16, 17] T = [])
  (hQ1:qDv ws=true->Q .normal ⟨[(5,.bv 2507 1 n),(6,.ptr 6 0),(7,nlS 47 bad),(8,.clo 74 [6]),(9,.int x),(10,.bool true),(16,.int n),(17,.int x),(42,.bool true),(43,.bool false)],scrB (r+qDw ws:Nat) (M.set x (ws.map fixW)),nlA 47 3 bad++qB1 1 59 3000 (rsW (M.set x (ws.map fixW))),[]⟩)
  (hQ2:qDv ws=false-> ∀z A,Q .normal ⟨[(5,.bv 2507 1 n),(6,.ptr 6 0),(7,nlS 47 (bad++[(x:Int)])),(8,.clo 74 [6]),(9,.int x),(16,.int n),(17,.int x),(44,z),(45,.int x),(46,.view 46 0 1),(47,nlS 47 (bad++[(x:Int)]))],scrB (r+qDw ws:Nat) (M.set x (ws.map fixW)),(46,A)::(nlA 47 3 (bad++[(x:Int)])++qB1 1 59 3000 (rsW (M.set x (ws.map fixW)))),[]⟩):
  awp (Env.of Tryz.prog) ac47_r9 Q ⟨[(5,.bv 2507 1 n),(6,.ptr 6 0),(7,nlS 47 bad),(8,.clo 74 [6]),(9,.int x),(10,.bool true),(16,.int n),(17,.int x)]++T,scrB r M,nlA 47 3 bad++qB1 1 59 3000 (rsW M),[]⟩:=by
 have hxM:x<M.length:=by omega
 have hcl:(qB0 3000 (rsW M)).length=n:=by rw[qB2,qH2,hM]
 have hcell:=qH6 hxM
 rw[hws]at hcell
 have hset: ∀j,qB0 3000 (rsW M)=qB0 3000 (rsW (M.set x (mix fixW ws j))):=fun j=>qHb hxM (by rw[qHU,hws])
 have hMx: ∀v,(M.set x v).getD x []=v:=fun v=>by rw[zK,List.getElem?_set_self hxM];rfl
 have hlk: ∀R id,3000<=id->lk (nlA 47 3 bad++R) id=lk R id:=fun R id hid=>by
  cases bad with
  |nil=>rfl
  |cons y b=>show lk ((47,_)::R) id=_;rw[lk,if_neg oM]
 have hup: ∀R id A,3000<=id->up (nlA 47 3 bad++R) id A=nlA 47 3 bad++up R id A:=fun R id A hid=>by
  cases bad with
  |nil=>rfl
  |cons y b=>show up ((47,_)::R) id A=(47,_)::up R id A;rw[up,if_neg oM,if_neg oM]
 have hM0:M.set x (mix fixW ws 0)=M:=by
  rw[qHS,<- hws]
  exact qI0 M x [] hxM
 have h7: ∀pb pa,(nlS 47 bad).toV pb pa=(nlS 47 bad).toV pb pa:=fun _ _=>rfl
 simp only[ac47_r9,hT,scrB,Nat.mul_one,qFh (qB0 3000 (rsW M)),hcl,hcell,push_cast,reduceIte,zA,zB,zC,zD,zE,zF,zG,reduceCtorEq,zH,zJ,cNI]
 refine⟨⟨oM,oM⟩,oM,?_⟩
 refine qoO (fun m st=> ∃j:Nat,j<=ws.length/\m=ws.length-j/\st=⟨[(5,.bv 2507 1 n),(6,.ptr 6 0),(7,nlS 47 bad),(8,.clo 74 [6]),(9,.int x),(10,.bool (qDv (ws.take j))),(16,.int n),(17,.int x),(25,.int ws.length),(26,.int j)],[(6,[.int (r+qDw (ws.take j):Nat)]),(2507,qB0 3000 (rsW M))],nlA 47 3 bad++qB1 1 59 3000 (rsW (M.set x (mix fixW ws j))),[]⟩) ws.length ⟨_,SWk.refl _,0,oM,oM,?_⟩ ?_
 ·rw[hM0]
  refine sB ?_
  rfl
 rintro m st ⟨j,hj,rfl,rfl⟩
 have hcr:=qHI (ws.take j)
 rw[List.length_take]at hcr
 refine sB ?_
 refine qnY (fun h=> ?_) fun h=> ?_
 ·have hj' :j<ws.length:=by omega
  obtain⟨w,hw⟩: ∃w,w=ws.getD j 0:=⟨_,rfl⟩
  have hwb2:w<2^64:=hwb _ (by rw[hw,zK,zL hj'];exact List.getElem_mem hj')
  have htk:ws.take (j+1)=ws.take j++[w]:=by
   rw[zZ hj',hw,zK,zL hj'];rfl
  have hmg:(mix fixW ws j).getD j 0=w:=by rw[qHW fixW 0 hj',hw]
  have hms:=qHX fixW 0 hj'
  rw[<- hw]at hms
  have hlj:x<(M.set x (mix fixW ws j)).length:=by rw[yF];exact hxM
  have hlkj:=qH7 hlj
  rw[hMx]at hlkj
  simp only[Nat.mul_one,qFh (qB0 3000 (rsW M)),hcl,hcell,hlk _ (3000+x) oM,hlkj,qkk,qF0,qHU,push_cast,reduceIte,zA,zB,zC,zD,zE,zF,zG,reduceCtorEq,zH,zJ,cNI]
  refine⟨⟨oM,oM⟩,oM,⟨oM,oM⟩,?_⟩
  have hfx:=qHR (s:=[(5,.bv 2507 1 n),(6,.ptr 6 0),(7,nlS 47 bad),(8,.clo 74 [6]),(9,.int x),(10,.bool (qDv (ws.take j))),(11,.int j),(16,.int n),(17,.int x),(25,.int ws.length),(26,.int j),(29,.clo 74 [6]),(30,.bv 2507 1 n),(31,.int x),(32,.ptr 2507 x),(33,.ptr 2507 x),(34,.view (3000+x) 0 ws.length),(35,.int j),(36,.eptr (3000+x) j 0)]) rfl (3000+x) j (r+qDw (ws.take j)) (mix fixW ws j) (by rw[qHU];exact hj') (by rw[hmg];exact hwb2) oM [(6,[.int (r+qDw (ws.take j):Nat)]),(2507,qB0 3000 (rsW M))] (nlA 47 3 bad++qB1 1 59 3000 (rsW (M.set x (mix fixW ws j)))) rfl ((hlk _ _ oM).trans hlkj)
  rw[hmg]at hfx
  refine qsO hfx ?_
  rintro _ _ (⟨h2,rfl,rfl⟩|⟨h2,rfl,rfl⟩)
  ·refine sB ?_
   refine⟨⟨oM,oM⟩,_,SWk.refl _,ws.length-(j+1),oM,j+1,oM,rfl,?_⟩
   rw[qHY h2]at hms
   have hsame:mix fixW ws (j+1)=mix fixW ws j:=by
    rw[<- hms,<- hmg];exact qI0 _ _ _ (by rw[qHU];exact hj')
   rw[hsame,htk,qI2,qI1 _ _ h2,h2]
   rw[show(qDv (ws.take j)&&decide ((2:Nat)≠2))=false from by simp]
   rfl
  ·rw[qHZ h2]at hms
   rw[hms,hup _ _ _ oM,qH8 hlj,List.set_set]
   refine sB ?_
   refine⟨⟨oM,oM⟩,_,SWk.refl _,ws.length-(j+1),oM,j+1,oM,rfl,?_⟩
   rw[htk,qI2,qHH _ _ h2,decide_eq_true h2,Bool.and_true,show(r:Int)+(qDw (ws.take j):Nat)+(chkW w:Nat)=((r+(qDw (ws.take j)+chkW w):Nat):Int)from by omega]
   rfl
 ·obtain rfl:j=ws.length:=by omega
  rw[List.take_length,qHT]
  have hset2:=hset ws.length
  rw[qHT]at hset2
  have f46:anyT nul (isId 46) (qB0 3000 (rsW M))=false:=qFf _ _ _ fun y r _=>beq_false_of_ne oM
  have f47:anyT nul (isId 47) (qB0 3000 (rsW M))=false:=qFf _ _ _ fun y r _=>beq_false_of_ne oM
  have hu: ∀id A,id<3000->up (qB1 1 59 3000 (rsW (M.set x (ws.map fixW)))) id A=(id,A)::qB1 1 59 3000 (rsW (M.set x (ws.map fixW))):=fun id A hid=>qBb _ _ _ fun y hy=>by have:=qBc 1 59 3000 _ y hy;omega
  rw[hset2]at f46 f47 ⊢
  refine qnX (fun h=> ?_) fun h=> ?_
  ·have hk:qDv ws=false:=by simpa using h
   have hr1:(List.replicate 1 (0:Int)).length=1:=rfl
   cases bad with
   |nil=>
     simp only[qGD,qGF,f46,f47,List.nil_append,hu 46 _ (by decide),push_cast,reduceIte,zA,zB,zC,zD,zE,zF,zG,reduceCtorEq,zH,zJ,cNI]
     simp only[rep1,rows,zW,List.map_nil,zV,List.length_nil,f47,push_cast,reduceIte,zA,zB,zC,zD,zE,zF,zG,reduceCtorEq,zH,zJ,cNI]
     rw[hu 47 _ (by decide)]
     exact hQ2 hk .nil ⟨1,3,ints [(x:Int)]⟩
   |cons y b=>
     simp only[qGE,qGG,f46,f47,List.cons_append,List.nil_append,hu 46 _ (by decide),push_cast,reduceIte,zA,zB,zC,zD,zE,zF,zG,reduceCtorEq,zH,zJ,cNI]
     refine⟨by decide,⟨by simp at hbad;omega,by simp at hbad;omega⟩,?_⟩
     have hq:=hQ2 hk .bot ⟨1,3,ints [(x:Int)]⟩
     simp only[List.cons_append,nlS,nlA,zV,zU,List.length_nil,scrB]at hq
     exact hq
  ·have hk:qDv ws=true:=by simpa using h
   rw[hk]
   exact hQ1 hk
end Go.Proofs.YtecoaapkcnhlhaaGreatDoor
namespace Go.Proofs.YtecoaapkcnhlhaaGreatDoor
open Go Go.Vc Go.Ham Txt
def scrF(l:List (List Nat)):List (List Nat):=l.map fun ws=>ws.map fixW
def scrV(l:List (List Nat)):PV:= .tup [.sl true 1 (rows (frmC true) (scrF l)),.int (cntF l:Nat),.sl true 1 (ints (badN l l.length))]
theorem fz47(bad:List Int)(s s' :List (Nat×PV))(B:List (Nat×List PV))(rs:List (Option (List (List PV))))(hB:refB nul (isId 47) B=false)(hs:fzS 47 ⟨1,3,ints bad⟩ s=s')(hn:bad=[]->s=s'):SWk ⟨s,B,nlA 47 3 bad++qB1 1 59 3000 rs,[]⟩ ⟨s',B,qB1 1 59 3000 rs,[]⟩:=by
 by_cases hb:bad=[]
 ·rw[<- hn hb,hb]
  exact SWk.refl _
 ·obtain⟨y,b,rfl⟩:=List.exists_cons_of_ne_nil hb
  have hf:=SWk.frz ⟨s,B,nlA 47 3 (y::b)++qB1 1 59 3000 rs,[]⟩ 47
  have e1: ∀b' :List (Nat×List PV),refB nul (isId 47) b' =false->fzB 47 ⟨1,3,ints (y::b)⟩ b' =b' :=by
   intro b'
   induction b' with
   |nil=>exact fun _=>rfl
   |cons x b' ih=>
     obtain⟨i,v⟩:=x
     intro h
     rw[qiq,Bool.or_eq_false_iff]at h
     rw[qjR,h.1,ih h.2];rfl
  rw[qkc]at hf
  simp only[nlA,List.cons_append,List.nil_append]at hf ⊢
  rw[show lk ((47,(⟨1,3,ints (y::b)⟩:Arr))::qB1 1 59 3000 rs) 47=some ⟨1,3,ints (y::b)⟩from rfl,qka,qFb,hs,e1 B hB,qFc _ _ _ _ _ (by decide)]at hf
  exact hf
theorem qI6(r:Int)(s s' :List (Nat×PV))(l:List (List Nat))(hs: ∀j,3000<=j->farL j s)(h:(s.map fun x=>(x.1,x.2.fbV 2507 ((rsW l).map rowP)))=s'):SWk ⟨s,[(6,[.int r]),(2507,qB0 3000 (rsW l))],qB1 1 59 3000 (rsW l),[]⟩ ⟨s',[(6,[.int r])],[],[]⟩:=by
 refine SWk.trans (SWk.frzRows (b1:=[(6,[.int r])]) (b2:=[]) (id:=2507) (k:=3000) [] (rsW l) hs (fun _ _=>rfl) (fun _ _=>rfl)) ?_
 exact SWk.frzB 2507 rfl (qHa l) h rfl
def bdV(bad:List Int):PV:=match bad with|[]=> .nil|_::_=> .sl true 1 (ints bad)
theorem qI7(bad:List Int)(A:Arr)(rs:List (Option (List (List PV)))):((46,A)::(nlA 47 3 bad++qB1 1 59 3000 rs)).filter (fun x=>x.1 !=46)=nlA 47 3 bad++qB1 1 59 3000 rs:=by
 have h:=qBe 1 59 (fun x=>x.1 !=46) 3000 rs fun y r _=>bne_iff_ne.2 (show 3000+y≠46 by omega)
 rw[List.filter_cons_of_neg zQ,List.filter_append,h]
 congr 1
 cases bad<;>rfl
set_option maxHeartbeats 1000000 in
theorem qI8(l:List (List Nat))(hl:FrmSm l):FnEq Tryz.prog 47 [.sl false 1 (rows (frmC false) l)] (scrV l):=by
 have hn:=hl.n
 refine FnEq.of_awp Tryz.func47 ok47 (by show 1<=_;decide) (by unfold scrV;simp only[push_cast,reduceIte,zA,zB,zC,zD,zE,zF,zG,reduceCtorEq,zH,zJ,cNI];simp) ?_
 simp only[ac47,rv47,push_cast,reduceIte,zA,zB,zC,zD,zE,zF,zG,reduceCtorEq,zH,zJ,cNI]
 refine qDP [2507] (naK l.length) (qGY l hl) rfl rfl (qH1 l) ?_
 rw[qH5]
 have f6: ∀M,anyT (isId 6) nul (qB0 3000 (rsW M))=false:=fun M=>by rw[<- qhK];exact qB5 _ _ _ _ fun _ _=>rfl
 simp only[ac47_r5,f6,List.nil_append,push_cast,reduceIte,zA,zB,zC,zD,zE,zF,zG,reduceCtorEq,zH,zJ,cNI]
 refine qoO (fun m st=> ∃k:Nat,k<=l.length/\m=l.length-k/\st=⟨[(5,.bv 2507 1 l.length),(6,.ptr 6 0),(7,nlS 47 (badN l k)),(8,.clo 74 [6]),(16,.int l.length),(17,.int k)],scrB (cntF (l.take k):Nat) (mix (fun ws=>ws.map fixW) l k),nlA 47 3 (badN l k)++qB1 1 59 3000 (rsW (mix (fun ws=>ws.map fixW) l k)),[]⟩) l.length ⟨_,SWk.refl _,0,oM,oM,?_⟩ ?_
 ·rw[qHS]
  refine sB ?_
  rfl
 rintro m st ⟨k,hk,rfl,rfl⟩
 refine sB ?_
 have hbl:=qI4 l k
 have hcb:=qHO (l:=l.take k) fun ws hw=>hl.len ws (List.mem_of_mem_take hw)
 rw[List.length_take]at hcb
 refine qnY (fun h=> ?_) fun h=> ?_
 ·have hk' :k<l.length:=by omega
  obtain⟨ws,hws⟩: ∃ws,ws=l.getD k []:=⟨_,rfl⟩
  have hmem:ws∈l:=by rw[hws,zK,zL hk'];exact List.getElem_mem hk'
  have htk:l.take (k+1)=l.take k++[ws]:=by
   rw[zZ hk',hws,zK,zL hk'];rfl
  have hms:=qHX (fun ws:List Nat=>ws.map fixW) [] hk'
  rw[<- hws]at hms
  have hbs:=qI3 l k
  rw[<- hws]at hbs
  refine qI5 l.length k (mix (fun ws=>ws.map fixW) l k) (qHU _ _ _) hk' ws ((qHW _ [] hk').trans hws.symm) (hl.ok ws hmem) (hl.len ws hmem) (cntF (l.take k)) oM oM (badN l k) oM _ [(18,.bool (decide ((k:Int)<l.length))),(19,.int k)] sC ?_ ?_
  ·intro hk2
   simp only[scrB,push_cast,reduceIte,zA,zB,zC,zD,zE,zF,zG,reduceCtorEq,zH,zJ,cNI]
   refine⟨⟨oM,oM⟩,_,SWk.refl _,l.length-(k+1),oM,k+1,oM,rfl,?_⟩
   rw[hms,htk,qHN,hbs,if_pos hk2]
   rfl
  ·intro hk2 z A
   simp only[scrB,push_cast,reduceIte,zA,zB,zC,zD,zE,zF,zG,reduceCtorEq,zH,zJ,cNI]
   refine⟨⟨oM,oM⟩,_,SWk.drop (fun _=>true) (fun i=>i !=46),l.length-(k+1),oM,k+1,oM,rfl,?_⟩
   rw[qI7,hms,htk,qHN,hbs,if_neg (by rw[hk2];decide)]
   rfl
 ·obtain rfl:k=l.length:=by omega
  rw[List.take_length,qHT,show(l.map fun ws=>ws.map fixW)=scrF l from rfl]
  have hf47:anyT nul (isId 47) (qB0 3000 (rsW (scrF l)))=false:=qFf _ _ _ fun y r _=>beq_false_of_ne oM
  have hml:(scrF l).length=l.length:=by simp[scrF]
  refine qr9 ⟨[(5,.sl true 1 (rows (frmC true) (scrF l))),(6,.ptr 6 0),(7,bdV (badN l l.length))],[(6,[.int (cntF l:Nat)])],[],[]⟩ ?_ ?_
  ·refine SWk.trans (SWk.dropS (fun i=>i==5||i==6||i==7) (fun _=>true) (fun _=>true)) ?_
   have hfa: ∀A:List (Nat×Arr),A.filter (fun _=>true)=A:=fun A=>List.filter_eq_self.2 fun _ _=>rfl
   rw[hfa]
   refine SWk.trans (fz47 (badN l l.length) [(5,.bv 2507 1 l.length),(6,.ptr 6 0),(7,nlS 47 (badN l l.length))] [(5,.bv 2507 1 l.length),(6,.ptr 6 0),(7,bdV (badN l l.length))] [(6,[.int (cntF l:Nat)]),(2507,qB0 3000 (rsW (scrF l)))] (rsW (scrF l)) ?_ ?_ ?_) ?_
   ·rw[qiq,qiq,hf47];rfl
   ·cases badN l l.length with
    |nil=>rfl
    |cons y b=>
      simp only[nlS,bdV,qjP,qjO,push_cast,reduceIte,zA,zB,zC,zD,zE,zF,zG,reduceCtorEq,zH,zJ,cNI]
      rw[zY (by simp[rows])]
   ·intro hb;rw[hb];rfl
   ·refine qI6 (cntF l:Nat) _ _ (scrF l) (fun j hj=> ?_) ?_
    ·have h7 : (bdV (badN l l.length)).toV (isId j) nul = false /\ (bdV (badN l l.length)).toV nul (isId j) = false := by
      unfold bdV;split<;>exact⟨rfl,rfl⟩
     exact⟨⟨beq_false_of_ne (show 2507≠j by omega),rfl⟩,⟨beq_false_of_ne (show 6≠j by omega),rfl⟩,h7,trivial⟩
    ·have h7 : (bdV (badN l l.length)).fbV 2507 ((rsW (scrF l)).map rowP) = bdV (badN l l.length) := by
      unfold bdV;split<;>rfl
     have h5:PV.fbV 2507 ((rsW (scrF l)).map rowP) (.bv 2507 1 l.length)= .sl true 1 (rows (frmC true) (scrF l)):=by
      rw[<- qH9]
      simp only[PV.fbV,PV.fbA,PV.fb,if_true,yG,qH2,hml,and_self]
     simp only[zW,List.map_nil,h7,h5]
     rfl
  ·unfold scrV bdV
   cases badN l l.length with
   |nil=>
     refine sB ?_
     exact fun _ _ _ _=>trivial
   |cons y b=>
     refine sB ?_
     exact⟨fun _ _ _ _=>trivial,fun _ _=>trivial⟩
end Go.Proofs.YtecoaapkcnhlhaaGreatDoor
namespace Go.Proofs.YtecoaapkcnhlhaaGreatDoor
open Go Go.Vc Go.Ham Txt
theorem qI9(v k:Nat)(hv:v<2^64)(hk:k<=64):bitF .and .u64 (shfF .shr .u64 (v:Int) (k:Int)) 1=((v.testBit k).toNat:Int):=by
 rw[qBr v k hk,show(1:Int)=((1:Nat):Int)from rfl,qBl (Nat.lt_of_le_of_lt (Nat.div_le_self _ _) hv) (by decide)]
 have:v/2^k&&&1=(v.testBit k).toNat:=by
  rw[Nat.testBit_eq_decide_div_mod_eq,Nat.and_one_is_mod]
  rcases Nat.mod_two_eq_zero_or_one (v/2^k)with e|e<;>rw[e]<;>rfl
 rw[this]
set_option maxHeartbeats 2000000 in
theorem qIa {E : Env} (hE : E.p = Tryz.prog) (hkk : E.kk <= 2000) (hpn : ∀ ch st, ¬ E.pan ch st) {s : List (Nat × PV)} (hs : qtX 2000 s = true) (n x : Nat) (hx : x < n) (hn : n <= 1000) (D : Nat -> List Nat) (B : List (Nat × List PV)) (A : List (Nat × Arr)) (L : List Int) (m : List (Nat × Mp))
  (h8:lk B 8=some [.bv 31 1 n]) (h31:lk B 31=some (outC datW n D n)) (h17:lk B 17=some [.view 74 0 n]) (hA:lk A 74=some ⟨1,3,ints L⟩) (hL:L.length=n) (c:Nat) (hc:L.getD x default=c) (hcl:c/57<(D x).length) (hcb:c<2000000000):
  FnM E 70 [.int x,.ptr 8 0,.ptr 17 0] ⟨s,B,A,m⟩ (fun r st' =>r= .int ((datW ((D x).getD (c/57) 0)).testBit (c%57)).toNat/\st' =⟨s,B,up A 74 ⟨1,3,ints (L.set x ((c:Int)+1))⟩,m⟩):=by
 refine quf 2000 (by rw[hE];exact Tryz.func70) (by rw[hE];exact ok70_2000) (by show 3<=_;decide) hs hkk ?_ hpn
 have hlen:(outC datW n D n).length=n:=qGb _ _ _
 have hcell:(outC datW n D n).getD x .bot= .sl true 1 (rows u64C (nats ((D x).map datW))):=by
  have hne: ¬D x=[]:=fun e=>by rw[e]at hcl;exact absurd hcl (Nat.not_lt_zero _)
  simp only[outC,zK,zS,List.getElem?_range hx,Option.map_some,Option.getD_some,if_pos hx,outP,if_neg hne]
 generalize outC datW n D n=C at *
 obtain⟨q,hq⟩: ∃q,q=c/57:=⟨_,rfl⟩
 obtain⟨r,hr⟩: ∃r,r=c%57:=⟨_,rfl⟩
 have hd:(c:Int)/57=(q:Int):=by omega
 have hm:(c:Int)%57=(r:Int):=by omega
 rw[<- hq]at hcl
 have hget:(nats ((D x).map datW)).getD q default=((datW ((D x).getD q 0):Nat):Int):=by
  rw[qFG,zK,zK,zS,zL hcl]
  rfl
 have hw:=qAr ((D x).getD q 0)
 have hb:=qI9 (datW ((D x).getD q 0)) r oM oM
 have hbn:=Bool.toNat_le ((datW ((D x).getD q 0)).testBit r)
 simp only[ac70_2000,rv70_2000,h8,h31,h17,hA,hL,hc,Nat.mul_one,qFh C,hlen,hcell,qCx hs,qCw hs,qCy hs,qCz hs,qCA hs,hd,hm,hget,hb,push_cast,reduceIte,zA,zB,zC,zD,zE,zF,zG,reduceCtorEq,zH,zJ,cNI]
 rw[<- hq,<- hr,qF0,yG]
 exact⟨⟨oM,oM⟩,oM,⟨oM,oM⟩,hx,⟨oM,oM,by decide⟩,⟨oM,oM⟩,hcl,⟨oM,oM⟩,hx,⟨oM,oM,by decide⟩,oM,⟨oM,oM⟩,hx,⟨oM,oM⟩,⟨oM,oM⟩,hx,⟨oM,oM⟩,rfl⟩
end Go.Proofs.YtecoaapkcnhlhaaGreatDoor
namespace Go.Proofs.YtecoaapkcnhlhaaGreatDoor
open Go Go.Vc Go.Ham Txt
def qIb(aK i:Nat)(v:Int)(x:Nat)(bt:Int)(k:Nat)(w1 w2:Int):Nat->PV
 |0=> .ptr 1020 0
 |1=> .eptr aK i 0
 |2=> .eptr aK i 0
 |3=> .int v
 |4=> .clo 70 [8,17]
 |5=> .int x
 |6=> .int bt
 |7=> .int k
 |8=> .int w1
 |9=> .int w2
 |10=> .eptr aK i 0
 |_=> .bot
def qIc(B:List (Nat×List PV))(A A6 A11:List (Nat×Arr))(dn:List Nat):List (Nat×List PV)×List (Nat×Arr)×List (Nat×Mp):=(B,if dn.contains 11=true then A11 else if dn.contains 6=true then A6 else A,[])
set_option maxHeartbeats 4000000 in
theorem qId {s0 : List (Nat × PV)} (hs : qtX 2000 s0 = true) (aK i v x k n : Nat) (l L : List Int) (D : Nat -> List Nat) (c : Nat) (B : List (Nat × List PV)) (A : List (Nat × Arr)) (nb : Int) (K : St -> Prop)
  (g18:getL s0 1018= .ptr 18 0) (g19:getL s0 1019= .int x) (g20:getL s0 1020= .ptr 1020 0) (g21:getL s0 1021= .int k)
  (h18:lk B 18=some [.clo 70 [8,17]]) (h20:lk B 1020=some [.eptr aK i 0,.int nb])
  (h8:lk B 8=some [.bv 31 1 n]) (h31:lk B 31=some (outC datW n D n)) (h17:lk B 17=some [.view 74 0 n]) (hA:lk A 74=some ⟨1,3,ints L⟩) (hL:L.length=n) (hc:L.getD x default=c) (hx:x<n) (hn:n<=1000) (hcl:c/57<(D x).length) (hcb:c<2000000000)
  (haK:lk A aK=some ⟨1,3,ints l⟩) (hne:aK≠74) (hi:i<l.length) (hv:l.getD i default=v) (hvb:v<2^k) (hk:k<62)
  (hK:K ⟨slA (qIb aK i v x ((datW ((D x).getD (c/57) 0)).testBit (c%57)).toNat k (((datW ((D x).getD (c/57) 0)).testBit (c%57)).toNat<<<k:Nat) (v|||(((datW ((D x).getD (c/57) 0)).testBit (c%57)).toNat<<<k):Nat)) xs44_27 s0,B,up (up A 74 ⟨1,3,ints (L.set x ((c:Int)+1))⟩) aK ⟨1,3,ints (l.set i (v|||(((datW ((D x).getD (c/57) 0)).testBit (c%57)).toNat<<<k):Nat))⟩,[]⟩):
  allK (Env.of Tryz.prog) xs44_27 xs44_27.length [] ⟨s0,B,A,[]⟩ K:=by
 have hbn:=Bool.toNat_le ((datW ((D x).getD (c/57) 0)).testBit (c%57))
 have hnx:=fun(s:List (Nat×PV)) hs=>qIa (E:=Env.of Tryz.prog) rfl (Nat.zero_le _) (fun _ _ h=>h) (s:=s) hs n x hx hn D B A L [] h8 h31 h17 hA hL c hc hcl hcb
 generalize ((datW ((D x).getD (c/57) 0)).testBit (c%57)).toNat=bt at *
 have hsh:bt<<<k<2^62:=by
  rw[Nat.shiftLeft_eq]
  have:2^k<=2^61:=Nat.pow_le_pow_right (by decide) oM
  rcases Nat.le_one_iff_eq_zero_or_eq_one.1 hbn with e|e<;>rw[e]<;>omega
 have hv62:v<2^62:=Nat.lt_of_lt_of_le hvb (Nat.pow_le_pow_right (by decide) oM)
 have e1:shfF .shl .i64 (bt:Int) (k:Int)=((bt<<<k:Nat):Int):=by
  show IntKind.i64.wrap ((bt:Int)*2^(min (k:Int).toNat 64))=_
  rw[Int.toNat_natCast,Nat.min_eq_left oM,show(bt:Int)*2^k=((bt<<<k:Nat):Int)from by rw[Nat.shiftLeft_eq];norm_cast]
  have hw: ∀z:Nat,z<2^62->IntKind.i64.wrap (z:Int)=(z:Int):=fun z hz=>qap (by simp only[ikLo];omega) (by simp only[ikHi];omega)
  exact hw _ hsh
 have e2:bitF .or .i64 (v:Int) ((bt<<<k:Nat):Int)=((v|||bt<<<k:Nat):Int):=qBp (Nat.lt_trans hv62 (by decide)) (Nat.lt_trans hsh (by decide))
 generalize bt<<<k=w1 at *
 generalize v|||w1=w2 at *
 have hlkA: ∀Z,lk (up A 74 Z) aK=some ⟨1,3,ints l⟩:=fun Z=>by rw[qa2,if_neg (Ne.symm hne)];exact haK
 refine qFn (ops:=xs44_27) (fun _=>qIb aK i v x bt k w1 w2) (qIc B A (up A 74 ⟨1,3,ints (L.set x ((c:Int)+1))⟩) (up (up A 74 ⟨1,3,ints (L.set x ((c:Int)+1))⟩) aK ⟨1,3,ints (l.set i w2)⟩)) rfl rfl ?_ ?_ rfl
 ·rw[xs44_27_all]
  refine⟨?_,?_,?_,?_,?_,?_,?_,?_,?_,?_,?_,?_⟩
  ·intro dn S hr hc2 hS L2 K hK
   have q1020:getL S 1020= .ptr 1020 0:=(L2 1020 trivial).trans g20
   have em: ∀q1 q2 q3 q4,qIc q1 q2 q3 q4 (0::dn)=qIc q1 q2 q3 q4 dn:=fun _ _ _ _=>rfl
   rw[em,<- hS]at hK
   have hb:(qIc B A (up A 74 ⟨1,3,ints (L.set x ((c:Int)+1))⟩) (up (up A 74 ⟨1,3,ints (L.set x ((c:Int)+1))⟩) aK ⟨1,3,ints (l.set i w2)⟩) dn).1=B:=rfl
   rw[hb]at hK ⊢
   simp only[q1020,push_cast,reduceIte,zA,zB,zC,zD,zE,zF,zG,reduceCtorEq,zH,zJ,cNI]
   first|exact hK|exact⟨oM,hK⟩
  ·intro dn S hr hc2 hS L2 K hK
   have q1085:getL S 1085= .ptr 1020 0:=L2 1085 (qAR hr (j:=0) (by decide))
   have em: ∀q1 q2 q3 q4,qIc q1 q2 q3 q4 (1::dn)=qIc q1 q2 q3 q4 dn:=fun _ _ _ _=>rfl
   rw[em,<- hS]at hK
   have hb:(qIc B A (up A 74 ⟨1,3,ints (L.set x ((c:Int)+1))⟩) (up (up A 74 ⟨1,3,ints (L.set x ((c:Int)+1))⟩) aK ⟨1,3,ints (l.set i w2)⟩) dn).1=B:=rfl
   rw[hb]at hK ⊢
   simp only[q1085,h20,push_cast,reduceIte,zA,zB,zC,zD,zE,zF,zG,reduceCtorEq,zH,zJ,cNI]
   first|exact hK|exact⟨oM,hK⟩
  ·intro dn S hr hc2 hS L2 K hK
   have q1086:getL S 1086= .eptr aK i 0:=L2 1086 (qAR hr (j:=1) (by decide))
   have em: ∀q1 q2 q3 q4,qIc q1 q2 q3 q4 (2::dn)=qIc q1 q2 q3 q4 dn:=fun _ _ _ _=>rfl
   rw[em,<- hS]at hK
   have hb:(qIc B A (up A 74 ⟨1,3,ints (L.set x ((c:Int)+1))⟩) (up (up A 74 ⟨1,3,ints (L.set x ((c:Int)+1))⟩) aK ⟨1,3,ints (l.set i w2)⟩) dn).1=B:=rfl
   rw[hb]at hK ⊢
   simp only[q1086,push_cast,reduceIte,zA,zB,zC,zD,zE,zF,zG,reduceCtorEq,zH,zJ,cNI]
   first|exact hK|exact⟨oM,hK⟩
  ·intro dn S hr hc2 hS L2 K hK
   have q1087:getL S 1087= .eptr aK i 0:=L2 1087 (qAR hr (j:=2) (by decide))
   have h11:dn.contains 11=false:=qAT hc2 hr (zP (i:=11) rfl) (by decide)
   have em: ∀q1 q2 q3 q4,qIc q1 q2 q3 q4 (3::dn)=qIc q1 q2 q3 q4 dn:=fun _ _ _ _=>rfl
   rw[em,<- hS]at hK
   revert hK
   unfold qIc
   rw[h11]
   intro hK
   cases h6:dn.contains 6<;>rw[h6]at hK<;>simp only[q1087,haK,hlkA,hv,push_cast,reduceIte,zA,zB,zC,zD,zE,zF,zG,reduceCtorEq,zH,zJ,cNI]at hK ⊢ <;>exact⟨hi,hK⟩
  ·intro dn S hr hc2 hS L2 K hK
   have q1018:getL S 1018= .ptr 18 0:=(L2 1018 trivial).trans g18
   have em: ∀q1 q2 q3 q4,qIc q1 q2 q3 q4 (4::dn)=qIc q1 q2 q3 q4 dn:=fun _ _ _ _=>rfl
   rw[em,<- hS]at hK
   have hb:(qIc B A (up A 74 ⟨1,3,ints (L.set x ((c:Int)+1))⟩) (up (up A 74 ⟨1,3,ints (L.set x ((c:Int)+1))⟩) aK ⟨1,3,ints (l.set i w2)⟩) dn).1=B:=rfl
   rw[hb]at hK ⊢
   simp only[q1018,h18,push_cast,reduceIte,zA,zB,zC,zD,zE,zF,zG,reduceCtorEq,zH,zJ,cNI]
   first|exact hK|exact⟨oM,hK⟩
  ·intro dn S hr hc2 hS L2 K hK
   have q1019:getL S 1019= .int x:=(L2 1019 trivial).trans g19
   have em: ∀q1 q2 q3 q4,qIc q1 q2 q3 q4 (5::dn)=qIc q1 q2 q3 q4 dn:=fun _ _ _ _=>rfl
   rw[em,<- hS]at hK
   have hb:(qIc B A (up A 74 ⟨1,3,ints (L.set x ((c:Int)+1))⟩) (up (up A 74 ⟨1,3,ints (L.set x ((c:Int)+1))⟩) aK ⟨1,3,ints (l.set i w2)⟩) dn).1=B:=rfl
   rw[hb]at hK ⊢
   simp only[q1019,push_cast,reduceIte,zA,zB,zC,zD,zE,zF,zG,reduceCtorEq,zH,zJ,cNI]
   first|exact hK|exact⟨oM,hK⟩
  ·intro dn S hr hc2 hS L2 K hK
   have q1089:getL S 1089= .clo 70 [8,17]:=L2 1089 (qAR hr (j:=4) (by decide))
   have q1090:getL S 1090= .int x:=L2 1090 (qAR hr (j:=5) (by decide))
   have h6:dn.contains 6=false:=qAS hr
   have h11:dn.contains 11=false:=qAT hc2 hr (zP (i:=11) rfl) (by decide)
   have em: ∀q1 q2 q3 q4,qIc q1 q2 q3 q4 (6::dn)=(q1,q3,[]):=fun q1 q2 q3 q4=>by
    show(q1,if dn.contains 11=true then _ else if true=true then _ else _,_)=_
    rw[h11];rfl
   have em0: ∀q1 q2 q3 q4,qIc q1 q2 q3 q4 dn=(q1,q2,[]):=fun q1 q2 q3 q4=>by
    unfold qIc
    rw[h11,h6];rfl
   rw[em,<- hS]at hK
   rw[em0]
   have hSl:qtX 2000 S=true:=by rw[hS];exact qFp hs rfl
   simp only[q1089,q1090,push_cast,reduceIte,zA,zB,zC,zD,zE,zF,zG,reduceCtorEq,zH,zJ,cNI]
   refine FnM.mono (hnx S hSl) ?_
   rintro _ _ ⟨rfl,rfl⟩
   exact hK
  ·intro dn S hr hc2 hS L2 K hK
   have q1021:getL S 1021= .int k:=(L2 1021 trivial).trans g21
   have em: ∀q1 q2 q3 q4,qIc q1 q2 q3 q4 (7::dn)=qIc q1 q2 q3 q4 dn:=fun _ _ _ _=>rfl
   rw[em,<- hS]at hK
   have hb:(qIc B A (up A 74 ⟨1,3,ints (L.set x ((c:Int)+1))⟩) (up (up A 74 ⟨1,3,ints (L.set x ((c:Int)+1))⟩) aK ⟨1,3,ints (l.set i w2)⟩) dn).1=B:=rfl
   rw[hb]at hK ⊢
   simp only[q1021,push_cast,reduceIte,zA,zB,zC,zD,zE,zF,zG,reduceCtorEq,zH,zJ,cNI]
   first|exact hK|exact⟨oM,hK⟩
  ·intro dn S hr hc2 hS L2 K hK
   have q1091:getL S 1091= .int bt:=L2 1091 (qAR hr (j:=6) (by decide))
   have q1092:getL S 1092= .int k:=L2 1092 (qAR hr (j:=7) (by decide))
   have em: ∀q1 q2 q3 q4,qIc q1 q2 q3 q4 (8::dn)=qIc q1 q2 q3 q4 dn:=fun _ _ _ _=>rfl
   rw[em,<- hS]at hK
   have hb:(qIc B A (up A 74 ⟨1,3,ints (L.set x ((c:Int)+1))⟩) (up (up A 74 ⟨1,3,ints (L.set x ((c:Int)+1))⟩) aK ⟨1,3,ints (l.set i w2)⟩) dn).1=B:=rfl
   rw[hb]at hK ⊢
   simp only[q1091,q1092,e1,push_cast,reduceIte,zA,zB,zC,zD,zE,zF,zG,reduceCtorEq,zH,zJ,cNI]
   first|exact hK|exact⟨oM,hK⟩
  ·intro dn S hr hc2 hS L2 K hK
   have q1088:getL S 1088= .int v:=L2 1088 (qAR hr (j:=3) (by decide))
   have q1093:getL S 1093= .int w1:=L2 1093 (qAR hr (j:=8) (by decide))
   have em: ∀q1 q2 q3 q4,qIc q1 q2 q3 q4 (9::dn)=qIc q1 q2 q3 q4 dn:=fun _ _ _ _=>rfl
   rw[em,<- hS]at hK
   have hb:(qIc B A (up A 74 ⟨1,3,ints (L.set x ((c:Int)+1))⟩) (up (up A 74 ⟨1,3,ints (L.set x ((c:Int)+1))⟩) aK ⟨1,3,ints (l.set i w2)⟩) dn).1=B:=rfl
   rw[hb]at hK ⊢
   simp only[q1088,q1093,e2,push_cast,reduceIte,zA,zB,zC,zD,zE,zF,zG,reduceCtorEq,zH,zJ,cNI]
   first|exact hK|exact⟨oM,hK⟩
  ·intro dn S hr hc2 hS L2 K hK
   have q1086:getL S 1086= .eptr aK i 0:=L2 1086 (qAR hr (j:=1) (by decide))
   have em: ∀q1 q2 q3 q4,qIc q1 q2 q3 q4 (10::dn)=qIc q1 q2 q3 q4 dn:=fun _ _ _ _=>rfl
   rw[em,<- hS]at hK
   have hb:(qIc B A (up A 74 ⟨1,3,ints (L.set x ((c:Int)+1))⟩) (up (up A 74 ⟨1,3,ints (L.set x ((c:Int)+1))⟩) aK ⟨1,3,ints (l.set i w2)⟩) dn).1=B:=rfl
   rw[hb]at hK ⊢
   simp only[q1086,push_cast,reduceIte,zA,zB,zC,zD,zE,zF,zG,reduceCtorEq,zH,zJ,cNI]
   first|exact hK|exact⟨oM,hK⟩
  ·intro dn S hr hc2 hS L2 K hK
   have q1095:getL S 1095= .eptr aK i 0:=L2 1095 (qAR hr (j:=10) (by decide))
   have q1094:getL S 1094= .int w2:=L2 1094 (qAR hr (j:=9) (by decide))
   have h6:dn.contains 6=true:=qAR hr (j:=6) (by decide)
   have h11:dn.contains 11=false:=qAS hr
   have em: ∀q1 q2 q3 q4,qIc q1 q2 q3 q4 (11::dn)=(q1,q4,[]):=fun q1 q2 q3 q4=>rfl
   have em0: ∀q1 q2 q3 q4,qIc q1 q2 q3 q4 dn=(q1,q3,[]):=fun q1 q2 q3 q4=>by
    unfold qIc
    rw[h11,h6];rfl
   rw[em,<- hS]at hK
   rw[em0]
   have hK:K ⟨S,_,_,_⟩:=hK
   simp only[q1095,q1094,hlkA,push_cast,reduceIte,zA,zB,zC,zD,zE,zF,zG,reduceCtorEq,zH,zJ,cNI]at hK ⊢
   exact⟨hi,hK⟩
 ·intro dn h
  rw[xs44_27_all]at h
  obtain⟨h0_,h1_,h2_,h3_,h4_,h5_,h6_,h7_,h8_,h9_,h10_,h11_⟩:=h
  have em: ∀q1 q2 q3 q4,qIc q1 q2 q3 q4 dn=(q1,q4,[]):=fun q1 q2 q3 q4=>by
   unfold qIc
   rw[if_pos h11_]
  rw[em]
  exact hK
end Go.Proofs.YtecoaapkcnhlhaaGreatDoor
