/- VcY VcF VcG VcH: lemmas -/
import Derived.Test.YtecoaapkcnhlhabGreatDoorPart01
import Derived.Deep.AppendSrc
import Derived.RangeFuncOwn
set_option linter.unusedSimpArgs false
set_option linter.unusedVariables false
open Option renaming map_eq_some_iff->zR
open Array renaming getD_eq_getD_getElem? ->zO
open Bool renaming and_eq_true->zN,false_ne_true->zQ
open List renaming getD_eq_getElem?_getD->zK,getElem?_eq_getElem->zL,getElem?_eq_some_iff->zM,mem_of_getElem? ->zP,getElem?_map->zS,map_cons->zW,getElem?_append_left->yA,getElem?_append_right->yB,any_eq_false->yD,all_eq_true->yE
namespace Go.Vc
open Go Go.RowKit
section
variable {w0:World} {Z0:Zone} {N:Fr} {Z:Zone} {L:Lay} {st:St} {a:Act} {w:World} {P:Program}
theorem qb9 (h : Inv w0 Z0 N Z L st a w) : ∀ {caps : List Opd} {ys : List Operand} {ids : List Nat}, qaA N.sh caps ys = true -> qau (caps.map (·.ev st)) = some ids ->
  ys.map a.eval=ids.map fun i=>Value.pointer (some ⟨L.bx i,0,none⟩)
 |[],[],ids,_,h2=>by simp[qau]at h2;subst h2;rfl
 |[],_::_,_,hm,_=>by simp[qaA]at hm
 |_::_,[],_,hm,_=>by simp[qaA]at hm
 | x :: r, y :: s, ids, hm, h2 => by
   simp only[qaA,zN]at hm
   simp only[zW]at h2
   unfold qau at h2
   split at h2
   ·rename_i e;cases e
   ·rename_i i r' e
    injection e with e1 e2
    subst e2
    obtain⟨ids',h3,rfl⟩:=zR.1 h2
    have hv:=h.ev hm.1
    rw[e1]at hv
    simp only[zW,qb9 h hm.2 h3,hv.ptr]
   ·cases h2
theorem qba(h:Inv w0 Z0 N Z L st a w){f:Nat}{caps:List Opd}{op:Op}(hm:okQ P N.sh (.mkf f caps) op=true)(hv:(aev st (.mkf f caps)).1):qaD P w Z L a op (aev st (.mkf f caps)).2:=by
 cases op<;>simp only[okQ]at hm<;>first|(exact absurd hm zQ)|skip
 rename_i fn first cs
 cases fn<;>simp only at hm<;>first|(exact absurd hm zQ)|skip
 rename_i g
 simp only[zN,beq_iff_eq,Array.isEmpty_iff]at hm
 obtain⟨⟨rfl,rfl⟩,hc⟩:=hm
 simp only[aev]at hv ⊢
 split at hv
 ·rename_i e
  have hr:=qb9 h hc e
  have:cs.map a.eval= #[]:=by rw[<- Array.toArray_toList (xs:=cs.map a.eval),Array.toList_map,hr];rfl
  exact⟨_,fun _ _ _ _ _=>by simp[execOp,Instr.makeFunc,this],TR.sc _ rfl⟩
 ·rename_i ids _ e
  have hr:=qb9 h hc e
  have:cs.map a.eval=(ids.map fun i=>Value.pointer (some ⟨L.bx i,0,none⟩)).toArray:=by rw[<- Array.toArray_toList (xs:=cs.map a.eval),Array.toList_map,hr]
  exact⟨_,fun _ _ _ _ _=>by simp[execOp,Instr.makeFunc,this],rfl⟩
 ·exact hv.elim
theorem qbb(a b:ByteArray):(a==b)=true ↔ a=b:=by
 cases a;cases b
 rename_i x y
 show(x==y)=true ↔ _
 simp
theorem KD.same{P:Program}{t:Nat}{kd:KD}{d:TypeDesc}(hd:P.underlying t=some d)(hk:qaC P t kd=true)(hs:kd.sc=true){x y:Value}(hx:kd.has x=true)(hy:kd.has y=true):Instr.sameNow d x y=some (vEq y x):=by
 have hc: ∀a b:Int,(a==b)=(b==a):=fun a b=>by rw[Bool.eq_iff_iff,beq_iff_eq,beq_iff_eq];exact⟨Eq.symm,Eq.symm⟩
 unfold qaC at hk
 rw[hd]at hk
 cases kd with
 |st n=>cases hs
 |int q=>
   cases x<;>first|(cases hx;done)|skip
   cases y<;>first|(cases hy;done)|skip
   rename_i k a l b
   have e1:q=k:=by simpa[KD.has]using hx
   have e2:q=l:=by simpa[KD.has]using hy
   subst e1;subst e2
   cases d<;>first|(exact absurd hk zQ)|skip
   show(if q=q then some (a==b)else none)=some (q==q&&b==a)
   rw[if_pos rfl,beq_self_eq_true,Bool.true_and,hc]
 |str=>
   cases x<;>first|(cases hx;done)|skip
   cases y<;>first|(cases hy;done)|skip
   rename_i a b
   cases d<;>first|(exact absurd hk zQ)|skip
   show some (a==b)=some (decide (b=a))
   rw[Option.some.injEq,Bool.eq_iff_iff,qbb,decide_eq_true_eq]
   exact⟨Eq.symm,Eq.symm⟩
 |bol=>
   cases x<;>first|(cases hx;done)|skip
   cases y<;>first|(cases hy;done)|skip
   rename_i a b
   cases d<;>first|(exact absurd hk zQ)|skip
   show some (a==b)=some (b==a)
   cases a<;>cases b<;>rfl
theorem qbc {t : Nat} {kd : KD} {d : TypeDesc} (hd : P.underlying t = some d) (hk : qaC P t kd = true) (hsc : kd.sc = true) {k : Value} (hkv : kd.has k = true) : ∀ (ents : List MapEntry) (es : List (Value × PV)) (i : Nat), ents.length = es.length ->
  (∀(j:Nat) (e:MapEntry) (x:Value×PV),ents[j]? =some e->es[j]? =some x->e.key=x.1/\kd.has x.1=true)->
  (mget es k=none/\(∀x∈es,vEq x.1 k=false)/\Instr.findNow d k ents i=some none)\/
  (∃(j:Nat) (e:MapEntry) (x:Value×PV),ents[j]? =some e/\es[j]? =some x/\mget es k=some x.2/\Instr.findNow d k ents i=some (some (i+j,e.val))/\vEq x.1 k=true/\ ∀j' x',j' <j->es[j']? =some x' ->vEq x'.1 k=false)
 |[],[],i,_,_=> .inl ⟨rfl,by simp,rfl⟩
 |[],_::_,_,h,_=>by simp at h
 |_::_,[],_,h,_=>by simp at h
 | e :: ents, (k0, v0) :: es, i, hl, hr => by
   obtain⟨h1,h2⟩:=hr 0 e (k0,v0) rfl rfl
   simp only at h1 h2
   have hs:=KD.same hd hk hsc hkv (y:=e.key) (by rw[h1];exact h2)
   rw[h1]at hs
   cases hb:vEq k0 k with
   |true=>
     refine .inr ⟨0,e,(k0,v0),rfl,rfl,by simp[mget,hb],?_,hb,fun j' x' h=>by omega⟩
     simp only[Instr.findNow,h1,hs,hb,Nat.add_zero]
   |false=>
     have ih:=qbc hd hk hsc hkv ents es (i+1) (by simpa using hl) (fun j e x h3 h4=>hr (j+1) e x (by simpa using h3) (by simpa using h4))
     rcases ih with⟨h3,h4,h5⟩|⟨j,e',x,h3,h4,h5,h6,h7,h8⟩
     ·refine .inl ⟨by simp[mget,hb,h3],fun x hx=> ?_,by simp only[Instr.findNow,h1,hs,hb,h5]⟩
      rcases List.mem_cons.1 hx with rfl|hx
      ·exact hb
      ·exact h4 x hx
     ·refine .inr ⟨j+1,e',x,by simpa using h3,by simpa using h4,by simp[mget,hb,h5],?_,h7,fun j' x' hj hx=> ?_⟩
      ·simp only[Instr.findNow,h1,hs,hb,h6]
       rw[Nat.add_assoc,Nat.add_comm 1 j]
      ·cases j' with
       |zero=>simp at hx;subst hx;exact hb
       |succ j' =>exact h8 j' x' (by omega) (by simpa using hx)
theorem qbd{t:Nat}{n:Nat}(h:qaC P t (.st n)=true): ∃fs,P.underlying t=some (.struct fs)/\fs.size=n/\P.stoodInHeld t=false/\qaB P 0 fs.toList=true:=by
 unfold qaC at h
 split at h<;>first|(rename_i e;cases e;done)|skip
 all_goals first|(cases h;done)|skip
 rename_i fs n' hu e
 cases e
 simp only[zN,beq_iff_eq,Bool.not_eq_true']at h
 exact⟨fs,hu,h.1.1,h.1.2,h.2⟩
theorem qbe: ∀ {n:Nat} {l:List Value},i64s n l=true->l.length=n/\ ∀j,j<n-> ∃m,l[j]? =some (.int .i64 m)
 |0,[],_=>⟨rfl,fun j hj=>by omega⟩
 | n + 1, .int .i64 m :: r, h => by
   obtain⟨h1,h2⟩:=qbe (n:=n) (l:=r) h
   refine⟨by simp[h1],fun j hj=> ?_⟩
   cases j with
   |zero=>exact⟨m,rfl⟩
   |succ j=>simpa using h2 j (by omega)
theorem qbf : ∀ {fs : List Field} {j : Nat}, qaB P j fs = true -> ∀ i f, fs[i]? = some f -> f.offset = j + i /\ f.name ≠ "_" /\ P.underlying f.type = some (.int .i64)
 |[],_,_,i,f,h=>by simp at h
 | f0 :: fs, j, h, i, f, hf => by
   simp only[qaB,zN,beq_iff_eq,bne_iff_ne,ne_eq]at h
   obtain⟨⟨⟨h1,h2⟩,h3⟩,h4⟩:=h
   cases i with
   |zero=>
     simp at hf;subst hf
     refine⟨h1,h2,?_⟩
     split at h3
     ·assumption
     ·cases h3
   |succ i=>
     have:=qbf h4 i f (by simpa using hf)
     exact⟨by omega,this.2⟩
theorem qbg{f:Field}{cs:Array Value}{m:Int}(hu:P.underlying f.type=some (.int .i64))(hc:cs.toList[f.offset]? =some (.int .i64 m)):(part f.type cs f.offset).run P w= .ok (.int .i64 m) w:=by
 have hc:cs[f.offset]? =some (.int .i64 m):=by simpa using hc
 simp[part,isAgg,run_underlying hu,hc]
theorem qbh{t:Nat}{kd:KD}(hk:qaC P t kd=true){v:Value}(hv:kd.has v=true)(b:Bool):(Instr.checkKey b 10000 t v).run P w= .ok () w:=by
 cases kd with
 |st n=>
   obtain⟨fs,hu,hn,_,hf⟩:=qbd hk
   cases v<;>first|(cases hv;done)|skip
   rename_i cs
   obtain⟨_,hat⟩:=qbe (l:=cs.toList) hv
   rw[show(10000:Nat)=9999+1 from rfl,Instr.checkKey]
   simp only[Sem.run_bind,run_underlying hu,Result.andThen_ok]
   rw[<- Array.forIn_toList]
   have each : ∀ f ∈ fs.toList, f.name ≠ "_" /\ P.underlying f.type = some (.int .i64) /\ ∃ m, cs.toList[f.offset]? = some (.int .i64 m) := fun f hfm => by
    obtain⟨i,hi⟩:=List.getElem?_of_mem hfm
    obtain⟨h1,h2,h3⟩:=qbf hf i f hi
    have hil:=(zM.1 hi).1
    exact⟨h2,h3,by rw[h1,Nat.zero_add];exact hat i (by simpa[hn]using hil)⟩
   generalize fs.toList=L at each
   induction L with
   |nil=>simp
   |cons f L ih=>
     obtain⟨h1,h2,m,h3⟩:=each f (by simp)
     have p2:(Instr.checkKey b 9999 f.type (.int .i64 m)).run P w= .ok () w:=by
      rw[show(9999:Nat)=9998+1 from rfl,Instr.checkKey]
      simp only[Sem.run_bind,run_underlying h2,Result.andThen_ok,Sem.run_pure]
     simp only[List.forIn_cons,Sem.run_bind,h1,ne_eq,not_false_eq_true,if_true,Result.andThen_ok,qbg h2 h3,p2,Sem.run_pure]
     exact ih (fun y hy=>each y (by simp[hy]))
 |_=>
   have key: ∀n,(Instr.checkKey b (n+1) t v).run P w= .ok () w:=by
    intro n
    unfold qaC at hk
    split at hk<;>first|(rename_i e;cases e;done)|skip
    all_goals first
     |(rename_i h;cases v<;>simp only[Instr.checkKey,Sem.run_bind,run_underlying h,Result.andThen_ok,Sem.run_pure];done)
     |(rename_i h _;cases v<;>simp only[Instr.checkKey,Sem.run_bind,run_underlying h,Result.andThen_ok,Sem.run_pure];done)
     |(cases hk;done)
     |(rename_i e;cases e;done)
     |(rename_i e _;cases e;done)
   exact key 9999
theorem qbi{t:Nat}{d:TypeDesc}(hd:P.underlying t=some d){k:Value}{es:List MapEntry}{r:Option (Nat×Value)}(h:Instr.findNow d k es 0=some r):(Instr.findKey t k es).run P w= .ok r w:=by
 simp[Instr.findKey,run_underlying hd,h]
theorem qbj {xs ys : Array Value} : ∀ (fs : List Field) (j : Nat), qaB P j fs = true -> i64s fs.length (xs.toList.drop j) = true -> i64s fs.length (ys.toList.drop j) = true ->
  (Op.eqFields 9999 xs ys fs).run P w= .ok (vEqI (xs.toList.drop j) (ys.toList.drop j)) w:=by
 intro fs
 induction fs with
 |nil=>
   intro j _ h1 h2
   have e1:=List.length_eq_zero_iff.1 (qbe h1).1
   have e2:=List.length_eq_zero_iff.1 (qbe h2).1
   rw[e1,e2];rfl
 |cons f fs ih=>
   intro j hf h1 h2
   obtain⟨g1,g2⟩:=qbe h1
   obtain⟨g3,g4⟩:=qbe h2
   obtain⟨f1,f2,f3⟩:=qbf hf 0 f rfl
   obtain⟨p,hp⟩:=g2 0 (by simp)
   obtain⟨q,hq⟩:=g4 0 (by simp)
   rw[List.getElem?_drop,Nat.add_zero]at hp hq
   have hjx:=(zM.1 hp).1
   have hjy:=(zM.1 hq).1
   have ex:xs.toList.drop j= .int .i64 p::xs.toList.drop (j+1):=by rw[List.drop_eq_getElem_cons hjx,(zM.1 hp).2]
   have ey:ys.toList.drop j= .int .i64 q::ys.toList.drop (j+1):=by rw[List.drop_eq_getElem_cons hjy,(zM.1 hq).2]
   rw[ex]at h1 ⊢
   rw[ey]at h2 ⊢
   have hpx:(part f.type xs f.offset).run P w= .ok (.int .i64 p) w:=qbg f3 (by rw[f1];exact hp)
   have hpy:(part f.type ys f.offset).run P w= .ok (.int .i64 q) w:=qbg f3 (by rw[f1];exact hq)
   have heq:(Op.equalIn 9999 f.type (.int .i64 p) (.int .i64 q)).run P w= .ok (p==q) w:=run_equalIn_int w 9998 f.type .i64 .i64 p q f3
   have hf' :qaB P (j+1) fs=true:=by
    simp only[qaB,zN]at hf
    exact hf.2
   have ih' :=ih (j+1) hf' h1 h2
   simp only[Op.eqFields,ne_eq,f2,not_false_eq_true,if_true,Sem.run_bind,hpx,hpy,heq,Result.andThen_ok,Sem.run_ite,vEqI,beq_self_eq_true,Bool.true_and]
   cases hpq:p==q
   ·rfl
   ·simp only[Bool.true_and];exact ih'
theorem qbk: ∀ {n:Nat} {x y:List Value},i64s n x=true->i64s n y=true->vEqI x y=vEqI y x
 |0,[],[],_,_=>rfl
 | n + 1, .int .i64 a :: r, .int .i64 b :: s, h1, h2 => by
   simp only[vEqI,beq_self_eq_true,Bool.true_and]
   rw[qbk (n:=n) (x:=r) (y:=s) h1 h2,show(a==b)=(b==a)from by rw[Bool.eq_iff_iff,beq_iff_eq,beq_iff_eq];exact⟨Eq.symm,Eq.symm⟩]
theorem qbl{t:Nat}{n:Nat}(hk:qaC P t (.st n)=true){x y:Value}(hx:(KD.st n).has x=true)(hy:(KD.st n).has y=true):(Op.equal t x y).run P w= .ok (vEq y x) w:=by
 obtain⟨fs,hu,hn,hst,hf⟩:=qbd hk
 cases x<;>first|(cases hx;done)|skip
 cases y<;>first|(cases hy;done)|skip
 rename_i xs ys
 have:=run_equalIn_struct (P:=P) w 9999 t xs ys (by unfold Program.fieldsOf;rw[hu]) hst
 refine this.trans ?_
 have hff:P.fieldsOf t=fs:=by unfold Program.fieldsOf;rw[hu]
 rw[hff]
 have hx:i64s n xs.toList=true:=hx
 have hy:i64s n ys.toList=true:=hy
 have hfl:fs.toList.length=n:=by simpa using hn
 have:=qbj (P:=P) (w:=w) (xs:=xs) (ys:=ys) fs.toList 0 hf (by rw[hfl];exact hx) (by rw[hfl];exact hy)
 rw[List.drop_zero,List.drop_zero]at this
 rw[this,qbk hx hy]
 rfl
theorem qbm {t n : Nat} (hk : qaC P t (.st n) = true) {k : Value} (hkv : (KD.st n).has k = true) : ∀ (ents : List MapEntry) (es : List (Value × PV)) (i : Nat), ents.length = es.length ->
  (∀(j:Nat) (e:MapEntry) (x:Value×PV),ents[j]? =some e->es[j]? =some x->e.key=x.1/\(KD.st n).has x.1=true)->
  (mget es k=none/\(∀x∈es,vEq x.1 k=false)/\(Instr.findAsking t k ents i).run P w= .ok none w)\/
  (∃(j:Nat) (e:MapEntry) (x:Value×PV),ents[j]? =some e/\es[j]? =some x/\mget es k=some x.2/\(Instr.findAsking t k ents i).run P w= .ok (some (i+j,e.val)) w/\vEq x.1 k=true/\ ∀j' x',j' <j->es[j']? =some x' ->vEq x'.1 k=false)
 |[],[],i,_,_=> .inl ⟨rfl,by simp,by simp[Instr.findAsking]⟩
 |[],_::_,_,h,_=>by simp at h
 |_::_,[],_,h,_=>by simp at h
 | e :: ents, (k0, v0) :: es, i, hl, hr => by
   obtain⟨h1,h2⟩:=hr 0 e (k0,v0) rfl rfl
   simp only at h1 h2
   have hs:=qbl (P:=P) (w:=w) hk hkv (y:=e.key) (by rw[h1];exact h2)
   rw[h1]at hs
   cases hb:vEq k0 k with
   |true=>
     refine .inr ⟨0,e,(k0,v0),rfl,rfl,by simp[mget,hb],?_,hb,fun j' x' h=>by omega⟩
     simp[Instr.findAsking,hs,h1,hb]
   |false=>
     have ih:=qbm hk hkv ents es (i+1) (by simpa using hl) (fun j e x h3 h4=>hr (j+1) e x (by simpa using h3) (by simpa using h4))
     rcases ih with⟨h3,h4,h5⟩|⟨j,e',x,h3,h4,h5,h6,h7,h8⟩
     ·refine .inl ⟨by simp[mget,hb,h3],fun x hx=> ?_,by simp[Instr.findAsking,hs,h1,hb,h5]⟩
      rcases List.mem_cons.1 hx with rfl|hx
      ·exact hb
      ·exact h4 x hx
     ·refine .inr ⟨j+1,e',x,by simpa using h3,by simpa using h4,by simp[mget,hb,h5],?_,h7,fun j' x' hj hx=> ?_⟩
      ·rw[show i+(j+1)=i+1+j by omega]
       simp[Instr.findAsking,hs,h1,hb,h6]
      ·cases j' with
       |zero=>simp at hx;subst hx;exact hb
       |succ j' =>exact h8 j' x' (by omega) (by simpa using hx)
theorem qbn {t : Nat} {kd : KD} (hk : qaC P t kd = true) {k : Value} (hkv : kd.has k = true) (ents : List MapEntry) (es : List (Value × PV)) (hl : ents.length = es.length)
  (hr: ∀(j:Nat) (e:MapEntry) (x:Value×PV),ents[j]? =some e->es[j]? =some x->e.key=x.1/\kd.has x.1=true):
  (mget es k=none/\(∀x∈es,vEq x.1 k=false)/\(Instr.findKey t k ents).run P w= .ok none w)\/
  (∃(j:Nat) (e:MapEntry) (x:Value×PV),ents[j]? =some e/\es[j]? =some x/\mget es k=some x.2/\(Instr.findKey t k ents).run P w= .ok (some (j,e.val)) w/\vEq x.1 k=true/\ ∀j' x',j' <j->es[j']? =some x' ->vEq x'.1 k=false):=by
 cases hsc:kd.sc with
 |true=>
   obtain⟨d,hd⟩: ∃d,P.underlying t=some d:=by unfold qaC at hk;cases hh:P.underlying t with|none=>rw[hh]at hk;simp at hk|some d=>exact⟨d,rfl⟩
   rcases qbc hd hk hsc hkv ents es 0 hl hr with⟨h1,h2,h3⟩|⟨j,e,x,h1,h2,h3,h4,h5⟩
   ·exact .inl ⟨h1,h2,qbi hd h3⟩
   ·rw[Nat.zero_add]at h4
    exact .inr ⟨j,e,x,h1,h2,h3,qbi hd h4,h5⟩
 |false=>
   cases kd<;>first|(cases hsc;done)|skip
   rename_i n
   obtain⟨fs,hu,_⟩:=qbd hk
   cases ents with
   |nil=>
     cases es with
     |nil=>exact .inl ⟨rfl,by simp,by simp[Instr.findKey,run_underlying hu,Instr.findNow]⟩
     |cons x r=>simp at hl
   |cons e0 er=>
     have hnow:Instr.findNow (.struct fs) k (e0::er) 0=none:=by
      unfold Instr.findNow
      have:Instr.sameNow (.struct fs) k e0.key=none:=rfl
      rw[this]
     have hrun:(Instr.findKey t k (e0::er)).run P w=(Instr.findAsking t k (e0::er) 0).run P w:=by
      simp[Instr.findKey,run_underlying hu,hnow]
     rw[hrun]
     rcases qbm (P:=P) (w:=w) hk hkv (e0::er) es 0 hl hr with h|⟨j,e,x,h1,h2,h3,h4,h5⟩
     ·exact .inl h
     ·rw[Nat.zero_add]at h4
      exact .inr ⟨j,e,x,h1,h2,h3,h4,h5⟩
theorem qbo{cs:List PV} : ∀ {l:List Value},keyL cs=some l-> ∀ {vs:List Value},vs.length=cs.length->(∀j c,cs[j]? =some c->CM w Z L c (vs.getD j undef))->vs=l:=by
 induction cs with
 |nil=>intro l h vs hl _;simp[keyL]at h;subst h;exact List.length_eq_zero_iff.1 hl
 |cons c cs ih=>
   intro l h vs hl hc
   unfold keyL at h
   split at h
   ·rename_i e;cases e
   ·rename_i n r e
    cases e
    obtain⟨l',h1,rfl⟩:=zR.1 h
    cases vs with
    |nil=>simp at hl
    |cons v vs=>
      have h0:=(VR.cr (hc 0 _ rfl).1).sc
      simp at h0
      have:=ih h1 (vs:=vs) (by simpa using hl) fun j c hj=>by simpa using hc (j+1) c (by simpa using hj)
      rw[h0,this]
   ·cases h
theorem qbp{c:PV}{kv v:Value}(hk:keyV c=some kv)(h:VR w Z L c v):v=kv:=by
 cases c<;>simp only[keyV]at hk<;>first|(cases hk;done)|skip
 ·cases hk;exact h.sc
 ·rename_i cs
  obtain⟨l,h1,rfl⟩:=zR.1 hk
  obtain⟨vs,rfl,h3,h4⟩:=h
  have:=qbo (w:=w) (Z:=Z) (L:=L) h1 (vs:=vs.toList) (by simpa using h3) fun j c hj=>by simpa[zO,zK]using h4 j c hj
  rw[<- this]
theorem qbq{id:Nat}{ents:Array MapEntry}{clock:Nat}(h:w.heap[id]? =some (.map ents clock)):(getObj id).run P w= .ok (.map ents clock) w:=by simp[getObj,Sem.run,h]
theorem qbr{c:PV}{v:Value}(h:TA w Z c v):VR w Z L c v:=h.tv.vr L
theorem qbs(h:Inv w0 Z0 N Z L st a w){kd:KD}{ok:Bool}{zero:PV}{x k:Opd}{op:Op}(hm:okQ P N.sh (.mlk kd ok zero x k) op=true)(hv:(aev st (.mlk kd ok zero x k)).1):qaD P w Z L a op (aev st (.mlk kd ok zero x k)).2:=by
 cases op<;>simp only[okQ,zN,beq_iff_eq]at hm<;>first|(exact absurd hm zQ)|skip
 rename_i t y k' ok'
 obtain⟨⟨⟨rfl,ht⟩,hx⟩,hk⟩:=hm
 split at ht
 ·rename_i kt e htu
  simp only[zN]at ht
  obtain⟨hkd,hz⟩:=ht
  split at hz
  ·rename_i ti hti
   split at hz
   ·rename_i z hzz
    simp only[aev]at hv ⊢
    split at hv
    ·rename_i id kv e1 e2
     split at hv
     ·rename_i M hM
      obtain⟨hv1,hv2⟩:=hv
      have h1:=h.ev hx
      rw[e1]at h1
      have h2:=(h.ev hk)
      have h1:a.eval y= .map (some (L.bx id)):=h1
      have h2:a.eval k' =kv:=qbp e2 h2
      obtain⟨ents,clock,hR⟩:=h.maps id M hM
      have hzero:(zeroValue e).run P w= .ok z w:=by simp[zeroValue,typeInfo,hti,hzz]
      have hfn:=qbn (P:=P) (w:=w) hkd hv2 ents.toList M.es (by simpa using hR.size) (fun j e x h3 h4=>⟨(hR.ent j e x (by simpa using h3) h4).1,by have:=hR.kind x (zP h4);rwa [hv1]at this⟩)
      rcases hfn with⟨h3,_,h5⟩|⟨j,e',x',h3,h4,h5,h6,_,_⟩
      ·have hrun : (Instr.lookup t (a.eval y) (a.eval k') ok).run P w = .ok (if ok then .tuple #[z, .bool false] else z) w := by
        simp[Instr.lookup,run_underlying htu,h1,h2,qbq hR.blk,qbh hkd hv2,h5,hzero]
       refine⟨_,fun _ _ _ _ _=>by simp only[execOp,Sem.run_bind,hrun,Result.andThen_ok];rfl,?_⟩
       rw[h3]
       have hzr:TA w Z zero z:=qah hz
       cases ok with
       |false=>exact qbr hzr
       |true=>
         refine⟨#[z,.bool false],rfl,rfl,fun j c hj=> ?_⟩
         match j with
         |0=>simp at hj;subst hj;exact hzr.ar L
         |1=>simp at hj;subst hj;exact TR.sc _ rfl
         |j+2=>simp at hj
      ·have hrun : (Instr.lookup t (a.eval y) (a.eval k') ok).run P w = .ok (if ok then .tuple #[e'.val, .bool true] else e'.val) w := by
        simp[Instr.lookup,run_underlying htu,h1,h2,qbq hR.blk,qbh hkd hv2,h6]
       refine⟨_,fun _ _ _ _ _=>by simp only[execOp,Sem.run_bind,hrun,Result.andThen_ok];rfl,?_⟩
       rw[h5]
       have hzr:TA w Z x'.2 e'.val:=(hR.ent j e' x' (by simpa using h3) h4).2
       cases ok with
       |false=>exact qbr hzr
       |true=>
         refine⟨#[e'.val,.bool true],rfl,rfl,fun j c hj=> ?_⟩
         match j with
         |0=>simp at hj;subst hj;exact hzr.ar L
         |1=>simp at hj;subst hj;exact TR.sc _ rfl
         |j+2=>simp at hj
     ·exact hv.elim
    ·exact hv.elim
   ·cases hz
  ·cases hz
 ·cases ht
theorem qbt(h:Inv w0 Z0 N Z L st a w){x:Opd}{op:Op}(hm:okQ P N.sh (.mln x) op=true)(hv:(aev st (.mln x)).1):qaD P w Z L a op (aev st (.mln x)).2:=by
 unfold okQ at hm
 split at hm<;>(first|(rename_i heq;cases heq;done)|skip)
 all_goals (try(rename_i heq;cases heq))
 ·rename_i args tys heq
  cases heq
  split at hm
  ·rename_i y t e1 e2
   simp only[zN]at hm
   obtain⟨hx,ht⟩:=hm
   have e1:=qaV e1;have e2:=qaV e2;cases e1;cases e2
   split at ht
   ·rename_i kt e he
    have hr:=h.ev hx
    simp only[aev]at hv ⊢
    split at hv
    ·rename_i id e3
     split at hv
     ·rename_i M hM
      rw[e3]at hr
      have hr:a.eval y= .map (some (L.bx id)):=hr
      obtain⟨ents,clock,hR⟩:=h.maps id M hM
      refine⟨_,fun _ _ _ _ _=>by simp[execOp,resolve,invoke,builtin,hr,Builtin.len_,run_underlying he,goInt,qbq hR.blk,hR.size],qaG⟩
     ·exact hv.elim
    ·exact hv.elim
   ·cases ht
  ·cases hm
 ·cases hm
theorem qbu(h:Inv w0 Z0 N Z L st a w){x:Opd}{op:Op}(hm:okQ P N.sh (.ent x) op=true)(hv:(aev st (.ent x)).1):qaD P w Z L a op (aev st (.ent x)).2:=by
 cases op<;>simp only[okQ]at hm<;>first|(exact absurd hm zQ)|skip
 rename_i y
 simp only[aev]at hv ⊢
 split at hv
 ·rename_i id it e1
  split at hv
  ·rename_i M hM
   split at hv
   ·rename_i it' left k v e2
    obtain⟨rfl,hsc⟩:=hv
    have h1:=h.ev hm
    rw[e1]at h1
    have h1:a.eval y= .pointer (some ⟨L.bx it',0,none⟩):=h1
    obtain⟨ents,clock,hR⟩:=h.maps id M hM
    have hit:=hR.it
    rw[e2]at hit
    obtain⟨seen,i1,i2,i3,i4,i5,i6⟩:=hit
    obtain⟨b,e,b1,b2,b3,b4⟩:=i6 (k,v) rfl
    have hgo:(getObj (L.bx it')).run P w= .ok (.mapIter (some (L.bx id)) clock seen clock) w:=by simp[getObj,Sem.run,i1]
    have hfind:ents.find? (fun e=>e.born==b)=some e:=by
     rw[<- Array.find?_toList]
     have: ∀l:List MapEntry,l.Pairwise (fun x y=>x.born≠y.born)->e∈l->l.find? (fun e=>e.born==b)=some e:=by
      intro l
      induction l with
      |nil=>intro _ hh;cases hh
      |cons z r ih=>
        intro hp hh
        rw[List.pairwise_cons]at hp
        rcases List.mem_cons.1 hh with rfl|hh
        ·simp[b3]
        ·have:z.born≠b:=fun e' =>hp.1 e hh (by rw[e',b3])
         rw[List.find?_cons_of_neg (by simpa using this)]
         exact ih hp.2 hh
     exact this _ hR.born b2
    have hrun:(Instr.entry (a.eval y)).run P w= .ok (.tuple #[k,e.val]) w:=by
     have hk:e.key=k:=b4.1
     simp[Instr.entry,h1,hgo,b1,qbq hR.blk,hfind,hk]
    refine⟨_,fun _ _ _ _ _=>by simp only[execOp,Sem.run_bind,hrun,Result.andThen_ok];rfl,?_⟩
    have hkk:=hR.kind
    refine⟨#[k,e.val],rfl,rfl,fun j c hj=> ?_⟩
    match j with
    |0=>
      simp at hj;subst hj
      refine TR.sc _ ?_
      obtain⟨j,hj⟩:=List.getElem?_of_mem b2
      have hjl:j<M.es.length:=by rw[<- hR.size];have:=(zM.1 hj).1;simpa using this
      have h9:=hR.ent j e M.es[j] (by simpa using hj) (zL hjl)
      have h10:=hR.kind _ (List.getElem_mem hjl)
      rw[<- h9.1,b4.1]at h10
      revert h10 hsc
      simp only[Array.getD]
      cases M.kd<;>cases k<;>simp[KD.has,KD.sc,scOk]
    |1=>simp at hj;subst hj;exact b4.2.ar L
    |j+2=>simp at hj
   ·exact hv.elim
  ·exact hv.elim
 ·exact hv.elim
end
end Go.Vc
namespace Go.Vc
open Go Go.RowKit
theorem qbv (off : Nat) : ∀ (l : List Value) (k : Nat) (cs : Array Value),
  ((l.zipIdx k).foldl (fun(cs:Array Value) (x:Value×Nat)=>cs.setIfInBounds (off+x.2) x.1) cs).size=cs.size/\
  ∀m,m<cs.size->((l.zipIdx k).foldl (fun(cs:Array Value) (x:Value×Nat)=>cs.setIfInBounds (off+x.2) x.1) cs).getD m undef=if off+k<=m/\m<off+k+l.length then l.getD (m-(off+k)) undef else cs.getD m undef:=by
 intro l
 induction l with
 |nil=>intro k cs;simp;intros;omega
 |cons v l ih=>
   intro k cs
   obtain⟨h1,h2⟩:=ih (k+1) (cs.setIfInBounds (off+k) v)
   simp only[List.zipIdx_cons,List.foldl_cons]
   refine⟨by rw[h1];simp,fun m hm=> ?_⟩
   rw[h2 m (by simpa using hm)]
   by_cases e:m=off+k
   ·subst e
    rw[if_neg (by omega),if_pos (by simp)]
    simp[Array.getD,hm]
   ·by_cases hr:off+(k+1)<=m/\m<off+(k+1)+l.length
    ·rw[if_pos hr,if_pos (by simp;omega)]
     rw[show m-(off+k)=(m-(off+(k+1)))+1 from by omega,List.getD_cons_succ]
    ·rw[if_neg hr,if_neg (by simp;omega)]
     simp[zO,Array.getElem?_setIfInBounds_ne (Ne.symm e)]
theorem qbw {cs new : List PV} {off : Nat} (h : off + new.length <= cs.length) {j : Nat} {c : PV} (hj : (spl cs off new)[j]? = some c) :
  (off<=j/\j<off+new.length/\new[j-off]? =some c)\/(¬(off<=j/\j<off+new.length)/\cs[j]? =some c):=by
 unfold spl at hj
 have hl:(cs.take off).length=off:=by simp;omega
 rw[List.append_assoc]at hj
 by_cases h1:j<off
 ·rw[yA (by omega),List.getElem?_take,if_pos h1]at hj
  exact .inr ⟨by omega,hj⟩
 ·rw[yB (by omega),hl]at hj
  by_cases h2:j<off+new.length
  ·rw[yA (by omega)]at hj
   exact .inl ⟨by omega,h2,hj⟩
  ·rw[yB (by omega),List.getElem?_drop]at hj
   refine .inr ⟨by omega,?_⟩
   rw[show off+new.length+(j-off-new.length)=j from by omega]at hj
   exact hj
theorem qbx{cs new:List PV}{off:Nat}(h:off+new.length<=cs.length):(spl cs off new).length=cs.length:=by
 simp[spl];omega
section
variable {w0:World} {Z0:Zone} {N:Fr} {Z:Zone} {L:Lay} {st:St} {a:Act} {w:World} {P:Program}
theorem VR.cells{c:PV}{v:Value}(h:VR w Z L c v)(hk:qas c=true):v.cells.size=(cellsOf c).length/\ ∀j x,(cellsOf c)[j]? =some x->CM w Z L x (v.cells.getD j undef):=by
 cases c with
 |agg cs=>
   obtain⟨vs,rfl,h1,h2⟩:=h
   exact⟨h1,h2⟩
 |tup cs=>cases hk
 |bot=>cases hk
 |cld ids=>cases hk
 |_=>
   have hone:v.oneCell' =true/\v.cells= #[v]:=by
    simp only[VR,AR,CR]at h
    first
     |(cases h;rename_i hs;exact⟨qa0 hs,by cases v<;>simp_all[scOk,Value.cells]⟩)
     |(cases h<;>exact⟨rfl,rfl⟩)
     |(obtain⟨ad,c',rfl,_⟩:=h;exact⟨rfl,rfl⟩)
     |(obtain⟨c',rfl,_⟩:=h;exact⟨rfl,rfl⟩)
     |(subst h;exact⟨rfl,rfl⟩)
     |(obtain⟨rfl,_⟩:=h;exact⟨rfl,rfl⟩)
   refine⟨by simp[hone.2,cellsOf],fun j x hj=> ?_⟩
   cases j with
   |zero=>
     simp only[cellsOf,List.getElem?_cons_zero,Option.some.injEq]at hj
     subst hj
     rw[hone.2]
     exact⟨h,hone.1⟩
   |succ j=>simp[cellsOf]at hj
theorem qby (h : Inv w0 Z0 N Z L st a w) (f : Nat -> Option (Nat × Nat)) : ∀ (parts : List (Nat × Nat × Opd)) (ps : List (Nat × Operand)) (cs : List PV) (vs : Array Value),
  qav N.sh parts ps f=true->(bldF st parts cs).1->vs.size=cs.length->(∀j c,cs[j]? =some c->CM w Z L c (vs.getD j undef))->
  ∃us,Instr.fill f vs (ps.map fun x=>(x.1,a.eval x.2))=some us/\us.size=(bldF st parts cs).2.length/\ ∀j c,(bldF st parts cs).2[j]? =some c->CM w Z L c (us.getD j undef):=by
 intro parts
 induction parts with
 |nil=>
   intro ps cs vs hp _ hs hc
   cases ps with
   |nil=>exact⟨vs,rfl,hs,hc⟩
   |cons=>simp[qav]at hp
 |cons p parts ih=>
   intro ps cs vs hp hv hs hc
   obtain⟨off,sz,x⟩:=p
   cases ps with
   |nil=>simp[qav]at hp
   |cons q ps=>
     obtain⟨i,y⟩:=q
     simp only[qav,zN,beq_iff_eq]at hp
     obtain⟨⟨hf,hx⟩,hp⟩:=hp
     simp only[bldF]at hv ⊢
     obtain⟨hok,hsz,hoff,hv⟩:=hv
     obtain⟨hcs,hcc⟩:=(h.ev hx).cells hok
     have hlen:off+(cellsOf (x.ev st)).length<=cs.length:=by omega
     obtain⟨g1,g2⟩:=qbv off (a.eval y).cells.toList 0 vs
     obtain⟨us,h1,h2,h3⟩:=ih ps (spl cs off (cellsOf (x.ev st))) ((((a.eval y).cells.toList.zipIdx 0).foldl (fun(cs:Array Value) (x:Value×Nat)=>cs.setIfInBounds (off+x.2) x.1) vs)) hp hv
      (by rw[g1,qbx hlen,hs]) (fun j c hj=>by
       have hjl:j<cs.length:=by
        have:=(zM.1 hj).1
        rwa [qbx hlen]at this
       rw[g2 j (by omega)]
       simp only[Nat.add_zero,Array.length_toList,hcs]
       rcases qbw hlen hj with⟨e1,e2,e3⟩|⟨e1,e2⟩
       ·rw[if_pos ⟨e1,e2⟩]
        have:=hcc _ _ e3
        simpa[zO,zK]using this
       ·rw[if_neg e1];exact hc j c e2)
     refine⟨us,?_,h2,h3⟩
     simp only[zW,Instr.fill,hf]
     rw[if_neg (by simp only[ne_eq,Bool.or_eq_true,decide_eq_true_eq,not_or];omega)]
     have e: ∀(l:Array Value) (vs:Array Value),l.zipIdx.foldl (fun(cs:Array Value) (x:Value×Nat)=>cs.setIfInBounds (off+x.2) x.1) vs=(l.toList.zipIdx 0).foldl (fun(cs:Array Value) (x:Value×Nat)=>cs.setIfInBounds (off+x.2) x.1) vs:=by
      intro l vs
      rw[<- Array.foldl_toList,Array.toList_zipIdx]
     rw[<- h1]
     congr 1
     exact e _ _
theorem qbz{t:Nat}{zero:List PV}(h:qaz P t zero=true): ∃i z,P.info? t=some i/\i.zero=some z/\zero.length=z.cells.size/\ ∀(w:World) (Z:Zone) j c,zero[j]? =some c->TR w Z c (z.cells.getD j undef)/\(z.cells.getD j undef).oneCell' =true:=by
 unfold qaz at h
 split at h
 ·rename_i i hi
  split at h
  ·rename_i z hz
   refine⟨i,z,hi,hz,?_,fun w Z j c hj=> ?_⟩
   ·have:=(qag (w:=default) (Z:=fun _ _=>False) h).1
    simpa using this
   ·have:=(qag (w:=w) (Z:=Z) h).2 j c hj
    simpa[zO,zK]using this
  ·cases h
 ·cases h
theorem qbA(h:Inv w0 Z0 N Z L st a w){zero:List PV}{parts:List (Nat×Nat×Opd)}{op:Op}(hm:okQ P N.sh (.bld zero parts) op=true)(hv:(aev st (.bld zero parts)).1):qaD P w Z L a op (aev st (.bld zero parts)).2:=by
 cases op<;>simp only[okQ,zN]at hm<;>first|(exact absurd hm zQ)|skip
 rename_i t ps
 obtain⟨hz,hp⟩:=hm
 obtain⟨i,z,hi,hzz,hzl,hzc⟩:=qbz hz
 simp only[aev]at hv ⊢
 have hc: ∀j c,zero[j]? =some c->CM w Z L c (z.cells.getD j undef):=fun j c hj=>⟨(hzc w Z j c hj).1.cr L,(hzc w Z j c hj).2⟩
 have key : ∀ us, P.built t ((ps.map fun (x : Nat × Operand) => (x.1, a.eval x.2)).toList) = some us -> us.size = (bldF st parts zero).2.length ->
   (∀j c,(bldF st parts zero).2[j]? =some c->CM w Z L c (us.getD j undef))->qaD P w Z L a (.build t ps) (.agg (bldF st parts zero).2):=by
  intro us hb h1 h2
  refine⟨.agg us,fun _ _ _ _ _=> ?_,us,rfl,h1,h2⟩
  simp[execOp,run_build (P:=P) w t _ us hb]
 have hm' :(ps.map fun(x:Nat×Operand)=>(x.1,a.eval x.2)).toList=ps.toList.map fun x=>(x.1,a.eval x.2):=by simp
 split at hp
 ·rename_i fs hfs
  split at hp
  ·rename_i places hpl
   obtain⟨us,h1,h2,h3⟩:=qby h _ parts ps.toList zero z.cells hp hv hzl.symm hc
   refine key us ?_ h2 h3
   unfold Program.built
   rw[hm',hi,hfs]
   simp only[hzz,hpl]
   exact h1
  ·cases hp
 ·rename_i n e hfs
  split at hp
  ·rename_i ti hti
   obtain⟨us,h1,h2,h3⟩:=qby h _ parts ps.toList zero z.cells hp hv hzl.symm hc
   refine key us ?_ h2 h3
   unfold Program.built
   rw[hm',hi,hfs]
   simp only[hzz,hti]
   exact h1
  ·cases hp
 ·cases hp
theorem qbB {t e : TypeId} {es : Nat} (he : P.underlying t = some (.slice e)) (hs : szIs P e es = true) {x : Value} {ad : Option Addr} {n c : Nat} (hx : x = .slice ad n c) (hnc : n <= c)
  (h:Inv w0 Z0 N Z L st a w) {lo hi:Option Opd} {lo' hi' :Option Operand} (hlo:qaw N.sh lo lo' =true) (hhi:qaw N.sh hi hi' =true) {p q:Int} (hb:slcB st n lo hi=some (p,q)) (h0:0<=p) (hpq:p<=q) (hqn:q<=n):
  (Instr.sliceAt t x (lo'.map a.eval) (hi'.map a.eval) none).run P w= .ok (.slice (if c=p.toNat then ad else ad.map (·.add (p.toNat*es))) (q.toNat-p.toNat) (c-p.toNat)) w:=by
 have hqc:q<=(c:Int):=by omega
 have hq0:0<=q:=by omega
 subst hx
 cases lo with
 |none=>
   cases lo' with
   |some _=>cases hlo
   |none=>
     cases hi with
     |none=>
       cases hi' with
       |some _=>cases hhi
       |none=>
         simp only[slcB,Option.some.injEq,Prod.mk.injEq]at hb
         obtain⟨rfl,rfl⟩:=hb
         simp[Instr.sliceAt,Instr.slice,run_underlying he,Instr.sliceBounds,qak hs]
     |some o=>
       cases hi' with
       |none=>cases hhi
       |some o' =>
         simp only[slcB]at hb
         split at hb
         ·rename_i k b e1
          simp only[Option.some.injEq,Prod.mk.injEq]at hb
          obtain⟨rfl,rfl⟩:=hb
          have:=h.evInt hhi e1
          simp[Instr.sliceAt,Instr.slice,run_underlying he,Instr.sliceBounds,Instr.sliceBound,asIntOf,this,hq0,hqc,qak hs]
         ·cases hb
 |some o1=>
   cases lo' with
   |none=>cases hlo
   |some o1' =>
     cases hi with
     |none=>
       cases hi' with
       |some _=>cases hhi
       |none=>
         simp only[slcB]at hb
         split at hb
         ·rename_i k b e1
          simp only[Option.some.injEq,Prod.mk.injEq]at hb
          obtain⟨rfl,rfl⟩:=hb
          have:=h.evInt hlo e1
          simp[Instr.sliceAt,Instr.slice,run_underlying he,Instr.sliceBounds,Instr.sliceBound,asIntOf,this,h0,hpq,qak hs]
         ·cases hb
     |some o=>
       cases hi' with
       |none=>cases hhi
       |some o' =>
         simp only[slcB]at hb
         split at hb
         ·rename_i k b k2 b2 e1 e2
          simp only[Option.some.injEq,Prod.mk.injEq]at hb
          obtain⟨rfl,rfl⟩:=hb
          have h1:=h.evInt hlo e1
          have h2:=h.evInt hhi e2
          simp[Instr.sliceAt,Instr.slice,run_underlying he,Instr.sliceBounds,Instr.sliceBound,asIntOf,h1,h2,h0,hq0,hqc,qak hs]
          intro hc;exfalso;omega
         ·cases hb
theorem qbC(h:Inv w0 Z0 N Z L st a w){es:Nat}{x:Opd}{lo hi:Option Opd}{op:Op}(hm:okQ P N.sh (.slc es x lo hi) op=true)(hv:(aev st (.slc es x lo hi)).1):qaD P w Z L a op (aev st (.slc es x lo hi)).2:=by
 unfold okQ at hm
 split at hm<;>(first|(rename_i heq;cases heq;done)|skip)
 all_goals (try(rename_i heq;cases heq))
 ·simp only[zN]at hm
  obtain⟨⟨⟨ht,hx⟩,hlo⟩,hhi⟩:=hm
  split at ht
  ·rename_i e he
   have hr:=h.ev hx
   simp only[aev]at hv ⊢
   split at hv
   ·rename_i id l n e1
    rw[e1]at hr
    obtain⟨ad,c,hy,hnc,hcm,hal,hpos,hzero⟩:=hr
    split at hv
    ·rename_i A p q hA hb
     obtain⟨hes,h0,hpq,hqn⟩:=hv
     obtain⟨cur,hX⟩:=h.arrs id A hA
     have hrun:=qbB (P:=P) he ht hy hnc h hlo hhi hb h0 hpq hqn
     refine⟨_,fun _ _ _ _ _=>by simp only[execOp,Option.map_none,Sem.run_bind,hrun,Result.andThen_ok];rfl,?_⟩
     have hle:q.toNat-p.toNat<=c-p.toNat:=by omega
     by_cases hcp:c=p.toNat
     ·refine⟨ad,c-p.toNat,by simp[hcp],hle,by omega,by omega,fun hlt=>by omega,fun hz=> ?_⟩
      have hl0:l=0:=by omega
      obtain⟨z1,z2⟩:=hzero hl0
      exact⟨z1,by omega⟩
     ·refine⟨ad.add (p.toNat*es),c-p.toNat,by simp[hcp],hle,by omega,by omega,fun hlt=> ?_,fun hz=> ?_⟩
      ·have hn:0<n:=by omega
       rw[hpos hn,Addr.add_lit,Nat.add_mul,hX.ae,hes]
      ·have hl0:l=0:=by omega
       have hp0:p.toNat=0:=by omega
       obtain⟨z1,z2⟩:=hzero hl0
       rw[z1,hp0,Addr.add_lit]
       exact⟨by simp,by omega⟩
    ·exact hv.elim
   ·rename_i pm es' xs e1
    rw[e1]at hr
    split at hv
    ·rename_i p q hb
     obtain⟨hes,h0,hpq,hqn⟩:=hv
     subst hes
     simp only[VR,AR,CR]at hr
     generalize hy:a.eval _=u at hr
     have hll:((xs.take q.toNat).drop p.toNat).length=q.toNat-p.toNat:=by simp;omega
     cases hr with
     |sl0 _ _ ad c hc=>
       have hrun:=qbB (P:=P) he ht hy (Nat.zero_le _) h hlo hhi (by simpa using hb) h0 hpq (by simpa using hqn)
       refine⟨_,fun _ _ _ _ _=>by simp only[execOp,Option.map_none,Sem.run_bind,hrun,Result.andThen_ok];rfl,?_⟩
       have hq:q.toNat-p.toNat=0:=by simp at hqn;omega
       rw[hq]
       simp only[List.take_nil,List.drop_nil]
       exact TR.sl0 _ _ _ _ (by omega)
     |sl _ _ _ b o c g h0' h1 h2 h3 h4 h5 h6 h7=>
       have hrun:=qbB (P:=P) he ht hy h3 h hlo hhi hb h0 hpq hqn
       refine⟨_,fun _ _ _ _ _=>by simp only[execOp,Option.map_none,Sem.run_bind,hrun,Result.andThen_ok];rfl,?_⟩
       by_cases hlt:q.toNat-p.toNat=0
       ·have hnil:(xs.take q.toNat).drop p.toNat=[]:=List.eq_nil_of_length_eq_zero (by omega)
        rw[hnil,hlt]
        exact TR.sl0 _ _ _ _ (by omega)
       ·have hcp: ¬c=p.toNat:=by omega
        rw[if_neg hcp,<- hll]
        simp only[Option.map_some,Addr.add_lit]
        refine TR.sl _ _ _ b (o+p.toNat*es') (c-p.toNat) (fun i j=>g (p.toNat+i) j) h0' h1 (by omega) (by omega) (by omega) ?_ ?_ ?_
        ·intro y hy'
         exact h5 y (List.mem_of_mem_take (List.mem_of_mem_drop hy'))
        ·intro i j hi hj
         have:=h6 (p.toNat+i) j (by omega) hj
         rw[Nat.add_mul,<- Nat.add_assoc,<- Nat.add_assoc]at this
         rw[<- Nat.add_assoc]
         exact this
        ·intro i j y c' hi hj
         rw[List.getElem?_drop,List.getElem?_take]at hi
         split at hi
         ·exact h7 _ _ _ _ hi hj
         ·cases hi
    ·exact hv.elim
   ·rename_i e1
    rw[e1]at hr
    split at hv
    ·rename_i p q hb
     obtain⟨rfl,rfl⟩:=hv
     simp only[VR,AR,CR]at hr
     generalize hy:a.eval _=u at hr
     cases hr
     have hrun:=qbB (P:=P) he ht hy (Nat.le_refl _) h hlo hhi hb (by omega) (by omega) (by omega)
     refine⟨_,fun _ _ _ _ _=>by simp only[execOp,Option.map_none,Sem.run_bind,hrun,Result.andThen_ok];rfl,?_⟩
     exact TR.nil
    ·exact hv.elim
   ·exact hv.elim
  ·cases ht
 ·cases hm
theorem qbD(h:Inv w0 Z0 N Z L st a w){ao:AOp}{op:Op}(hm:okQ P N.sh ao op=true)(hv:(aev st ao).1):qaD P w Z L a op (aev st ao).2:=by
 cases ao
 ·exact s_mv h hm hv
 ·exact qaK h hm hv
 ·exact qbA h hm hv
 ·exact s_ld h hm hv
 ·exact qaM h hm hv
 ·exact qaN h hm hv
 ·exact qaO h hm hv
 ·exact qaP h hm hv
 ·exact qaQ h hm hv
 ·exact qaR h hm hv
 ·exact qb1 h hm hv
 ·exact qaS h hm hv
 ·exact qaT h hm hv
 ·exact qaU h hm hv
 ·exact qaX h hm hv
 ·exact qaY h hm hv
 ·exact s_mn h hm hv
 ·exact s_fa h hm hv
 ·exact s_fl h hm hv
 ·exact qb3 h hm hv
 ·exact qb4 h hm hv
 ·exact qb5 h hm hv
 ·exact qbC h hm hv
 ·exact qb6 h hm hv
 ·exact qb7 h hm hv
 all_goals first|exact hv.elim|exact qba h hm hv|exact qbs h hm hv|exact qbu h hm hv|exact qbt h hm hv
end
end Go.Vc
namespace Go.Vc
open Go Go.RowKit
def PV.killed(pb:Nat->Bool):PV->PV
 | .clo _ ids=> .cld (ids.filter fun i=> !pb i)
 | .itr i j=> .cld ([i,j].filter fun i=> !pb i)
 | .cld ids=> .cld (ids.filter fun i=> !pb i)
 |_=> .bot
def PV.kill(pb pa:Nat->Bool)(c:PV):PV:=bif c.to pb pa then c.killed pb else c
theorem qbE(pb pa:Nat->Bool)(c:PV):(c.killed pb).to pb pa=false:=by
 cases c<;>first|rfl|skip
 all_goals
  show List.any (List.filter _ _) _=false
  rw[yD]
  intro x hx
  have:=(List.mem_filter.1 hx).2
  simpa using this
theorem qbF(pb:Nat->Bool)(c:PV):(∀cs,c.killed pb≠ .agg cs)/\ ∀cs,c.killed pb≠ .tup cs:=by
 cases c<;>exact⟨fun _ h=>(by cases h),fun _ h=>(by cases h)⟩
def PV.killA(pb pa:Nat->Bool):PV->PV
 | .agg cs=> .agg (cs.map (PV.kill pb pa))
 |c=>c.kill pb pa
def PV.killV(pb pa:Nat->Bool):PV->PV
 | .tup cs=> .tup (cs.map (PV.killA pb pa))
 |c=>c.killA pb pa
def St.kill(st:St)(pb pa:Nat->Bool):St:=
 { s:=st.s.map fun x=>(x.1,x.2.killV pb pa),b:=st.b.map fun x=>(x.1,x.2.map (PV.kill pb pa)),a:=st.a,m:=st.m.filter fun x=> !pb x.1&& !mpTo st.m pb x.1 }
theorem PV.kill_to(pb pa:Nat->Bool)(c:PV):(c.kill pb pa).to pb pa=false:=by
 unfold PV.kill
 cases h:c.to pb pa
 ·simpa using h
 ·exact qbE pb pa c
theorem qbG{c:PV}(hc: ∀cs,c≠ .agg cs)(pb pa:Nat->Bool): ∀cs,c.kill pb pa≠ .agg cs:=by
 unfold PV.kill
 cases c.to pb pa
 ·exact hc
 ·exact(qbF pb c).1
theorem qbH{c:PV}(hc: ∀cs,c≠ .tup cs)(pb pa:Nat->Bool): ∀cs,c.kill pb pa≠ .tup cs:=by
 unfold PV.kill
 cases c.to pb pa
 ·exact hc
 ·exact(qbF pb c).2
theorem qbI{pb pa:Nat->Bool}{c:PV}(h:c.to pb pa=false)(hc: ∀cs,c≠ .agg cs):c.toA pb pa=false:=by
 cases c<;>first|exact absurd rfl (hc _)|exact h
theorem qbJ{pb pa:Nat->Bool}{c:PV}(h:c.to pb pa=false)(hc: ∀cs,c≠ .agg cs)(hd: ∀cs,c≠ .tup cs):c.toV pb pa=false:=by
 cases c<;>first|exact absurd rfl (hc _)|exact absurd rfl (hd _)|exact h
theorem PV.killA_to(pb pa:Nat->Bool)(c:PV):(c.killA pb pa).toA pb pa=false:=by
 cases c with
 |agg cs=>simp[PV.killA,PV.toA,PV.kill_to]
 |_=>exact qbI (PV.kill_to pb pa _) (qbG (fun _ h=>by cases h) pb pa)
theorem PV.killV_to(pb pa:Nat->Bool)(c:PV):(c.killV pb pa).toV pb pa=false:=by
 cases c with
 |tup cs=>simp[PV.killV,PV.toV,PV.killA_to]
 |agg cs=>simp[PV.killV,PV.killA,PV.toV,PV.toA,PV.kill_to]
 |_=>
   simp only[PV.killV,PV.killA]
   refine qbJ (PV.kill_to pb pa _) (qbG ?_ pb pa) (qbH ?_ pb pa)<;>(intro _ h;cases h)
theorem St.noTo_kill(st:St)(pb pa:Nat->Bool):(st.kill pb pa).noTo pb pa=true:=by
 simp only[St.noTo,zN,yE]
 refine⟨⟨?_,?_⟩,fun x hx=> ?_⟩
 ·intro x hx
  simp only[St.kill,List.mem_map]at hx
  obtain⟨y,_,rfl⟩:=hx
  simp[PV.killV_to]
 ·intro x hx
  simp only[St.kill,List.mem_map]at hx
  obtain⟨y,_,rfl⟩:=hx
  simp[PV.kill_to]
 ·simp only[St.kill]at hx ⊢
  have h1:=(List.mem_filter.1 hx).2
  simp only[zN]at h1
  refine⟨h1.1,?_⟩
  rw[mpTo,qa5 st.m (fun i=> !pb i&& !mpTo st.m pb i),if_pos (by simpa using h1)]
  exact h1.2
theorem qbK{α β:Type}(l:List (Nat×α))(f:α->β)(j:Nat)(v:β)(h:lk (l.map fun x=>(x.1,f x.2)) j=some v): ∃u,lk l j=some u/\v=f u:=by
 rw[qa6]at h
 obtain⟨u,h1,h2⟩:=zR.1 h
 exact⟨u,h1,h2.symm⟩
section
variable {w0:World} {Z0:Zone} {N:Fr} {Z:Zone} {L:Lay} {st:St} {a:Act} {w:World} {P:Program} {pb pa:Nat->Bool}
theorem AR.cr{c:PV}{v:Value}(h:CR w Z L c v):AR w Z L c v:=by
 cases c<;>simp only[AR]<;>first|exact h|(simp only[CR]at h;cases h)
theorem AR.toCR{c:PV}{v:Value}(hc: ∀cs,c≠ .agg cs)(h:AR w Z L c v):CR w Z L c v:=by
 cases c<;>simp only[AR]at h<;>first|exact h|exact absurd rfl (hc _)
theorem VR.toAR{c:PV}{v:Value}(hc: ∀cs,c≠ .tup cs)(h:VR w Z L c v):AR w Z L c v:=by
 cases c<;>simp only[VR]at h<;>first|exact h|exact absurd rfl (hc _)
theorem CR.kill{c:PV}{v:Value}(h:CR w Z L c v):CR w Z L (c.kill pb pa) v:=by
 unfold PV.kill
 cases c.to pb pa
 ·exact h
 ·show CR w Z L (c.killed pb) v
  cases c<;>first|exact TR.bot v|trivial
theorem CM.kill{c:PV}{v:Value}(h:CM w Z L c v):CM w Z L (c.kill pb pa) v:=⟨h.1.kill,h.2⟩
theorem AR.kill{c:PV}{v:Value}(h:AR w Z L c v):AR w Z L (c.killA pb pa) v:=by
 cases c with
 |agg cs=>
   obtain⟨vs,h1,h2,h3⟩:=h
   refine⟨vs,h1,by simpa using h2,fun j c hj=> ?_⟩
   rw[zS]at hj
   obtain⟨c',h4,rfl⟩:=zR.1 hj
   exact(h3 j c' h4).kill
 |_=>exact AR.cr (CR.kill (AR.toCR (by simp) h))
theorem VR.kill{c:PV}{v:Value}(h:VR w Z L c v):VR w Z L (c.killV pb pa) v:=by
 cases c with
 |tup cs=>
   obtain⟨vs,h1,h2,h3⟩:=h
   refine⟨vs,h1,by simpa using h2,fun j c hj=> ?_⟩
   rw[zS]at hj
   obtain⟨c',h4,rfl⟩:=zR.1 hj
   exact(h3 j c' h4).kill
 |_=>exact VR.ar (AR.kill (VR.toAR (by simp) h))
def Rest(w0:World)(Z:Zone)(L:Lay)(X:Gh)(dm:Option (Bool×List Deferred))(m:List (Nat×Mp))(ds:List Deferred)(w:World):Prop:=
 (∀id M,lk m id=some M->w0.heap.size<=L.bx id/\L.bx id<w.heap.size/\ ∀p,¬Z p (L.bx id))/\(∀i j hi hj,lk m i=some hi->lk m j=some hj->L.bx i=L.bx j->i=j)/\
 (∀id M,lk m id=some M-> ∃ents clock,MR w0 w Z L id M ents clock)/\(∀x∈X.x,RecAt w0 Z w x)/\(∀dd,dm=some dd-> ∃l:List Nat,(ds=l.map mark++dd.2/\(dd.1=true->l=[]))/\qab X l/\ ∀D∈l,RecAt w0 Z w (D,.deferred (some [])))
theorem Inv.rest(h:Inv w0 Z0 N Z L st a w):Rest w0 Z L N.X N.dm st.m a.defers w:=⟨h.ownm,h.injm,h.maps,h.oth,h.defers⟩
theorem Rest.keep {X : Gh} {dm : Option (Bool × List Deferred)} {m m' : List (Nat × Mp)} {ds : List Deferred} {w' : World} {Z' : Zone} {L' : Lay} (h : Rest w0 Z L X dm m ds w) (hk : Kept Z w w') (hz : ∀ p b, Z p b -> Z' p b)
  (hnz: ∀(b:Nat) (o:Obj) (p:Bool),w.heap[b]? =some o->o.isCells=false->Z' p b->Z p b) (hb: ∀(b:Nat) (o:Obj),w.heap[b]? =some o->o.isCells=false->w'.heap[b]? =w.heap[b]?) (hsz:w.heap.size<=w'.heap.size)
  (hl:LSame L L' pb pa) (hm: ∀id M,lk m' id=some M->lk m id=some M/\pb id=false/\M.to pb=false):Rest w0 Z' L' X dm m' ds w' :=by
 obtain⟨h1,h2,h3,h4,h5⟩:=h
 have hrec: ∀x,RecAt w0 Z w x->RecAt w0 Z' w' x:=fun x hx=>by
  have hc:x.2.isCells=false:=by have:=hx.2.1;revert this;cases x.2<;>simp[qaa,Obj.isCells]
  exact hx.keep (hb _ _ hx.1 hc) (fun p hp=>hnz _ _ p hx.1 hc hp)
 refine⟨fun id M hM=> ?_,fun i j x y hx hy e=> ?_,fun id M hM=> ?_,fun x hx=>hrec x (h4 x hx),?_⟩
 ·obtain⟨e1,e2,_⟩:=hm id M hM
  obtain⟨a1,a2,a3⟩:=h1 id M e1
  obtain⟨ents,clock,hR⟩:=h3 id M e1
  rw[hl.bx id e2]
  exact⟨a1,Nat.lt_of_lt_of_le a2 hsz,fun p hp=>a3 p (hnz _ _ p hR.blk rfl hp)⟩
 ·obtain⟨e1,e2,_⟩:=hm i x hx
  obtain⟨e3,e4,_⟩:=hm j y hy
  rw[hl.bx i e2,hl.bx j e4]at e
  exact h2 i j x y e1 e3 e
 ·obtain⟨e1,e2,e3⟩:=hm id M hM
  obtain⟨ents,clock,hR⟩:=h3 id M e1
  refine⟨ents,clock,hR.keep hk hz (hb _ _ hR.blk rfl) (fun i x y hi=> ?_) hl e2 e3⟩
  obtain⟨seen,b1,b2,b3⟩:=hR.itAt hi
  exact⟨hb _ _ b1 rfl,fun p hp=>b3 p (hnz _ _ p b1 rfl hp)⟩
 ·intro dd hdm
  obtain⟨l,e1,en,e2⟩:=h5 dd hdm
  exact⟨l,e1,en,fun D hD=>hrec _ (e2 D hD)⟩
theorem XR.notCells{id:Nat}{A:Arr}{cur:Array Value}(hx:XR w Z L id A cur){b:Nat}{o:Obj}(h:w.heap[b]? =some o)(hc:o.isCells=false):b≠L.ab id:=fun e=>by
 rw[e,hx.blk]at h;cases h;cases hc
theorem BR.notCells{id:Nat}{cs:List PV}(hx:BR w Z L id cs){b:Nat}{o:Obj}(h:w.heap[b]? =some o)(hc:o.isCells=false):b≠L.bx id:=fun e=>by
 obtain⟨vs,T,h1,_⟩:=hx
 rw[e,h1]at h;cases h;cases hc
theorem Inv.kill(h:Inv w0 Z0 N Z L st a w)(pb pa:Nat->Bool):Inv w0 Z0 N Z L (st.kill pb pa) a w:=by
 have hm: ∀id M,lk (st.kill pb pa).m id=some M->lk st.m id=some M:=fun id M hM=>by
  simp only[St.kill]at hM
  rw[qa5 st.m (fun i=> !pb i&& !mpTo st.m pb i)]at hM
  split at hM
  ·exact hM
  ·cases hM
 refine⟨h.zt,h.z0,h.zn,h.zb,h.below,?_,h.owna,?_,h.inja,?_,?_,h.arrs,fun i v hl=>h.ownm i v (hm _ _ hl),fun i j x y hx hy=>h.injm i j x y (hm _ _ hx) (hm _ _ hy),fun i v hl=>h.maps i v (hm _ _ hl),h.oth,h.yb,h.size,h.defers,?_⟩
 ·intro id cs hl
  obtain⟨u,h1,_⟩:=qbK st.b _ id cs hl
  exact h.ownb id u h1
 ·intro i j x y hx hy
  obtain⟨u,h1,_⟩:=qbK st.b _ _ _ hx
  obtain⟨u',h2,_⟩:=qbK st.b _ _ _ hy
  exact h.injb i j u u' h1 h2
 ·intro i j x y hx hy
  obtain⟨u,h1,_⟩:=qbK st.b _ _ _ hx
  exact h.injx i j u y h1 hy
 ·intro id cs hl
  obtain⟨u,h1,rfl⟩:=qbK st.b _ id cs hl
  obtain⟨vs,T,h2,h3,h4⟩:=h.boxes id u h1
  refine⟨vs,T,h2,by simpa using h3,fun j c hj=> ?_⟩
  rw[zS]at hj
  obtain⟨c',h5,rfl⟩:=zR.1 hj
  exact(h4 j c' h5).kill
 ·intro i v hl
  obtain⟨u,h1,rfl⟩:=qbK st.s _ i v hl
  exact(h.slots i u h1).kill
theorem Inv.setArr (h : Inv w0 Z0 N Z L st a w) {w' : World} {row : Option Nat} {id : Nat} (hg : w.grownBy w' row) (hrow : ∀ k, row = some k -> ∃ A, lk st.a id = some A /\ k = L.ab id)
  {L' :Lay} (hl:LSame L L' nul pa) (hpa: ∀i,i≠id->pa i=false) (hblk:(∃A,lk st.a id=some A/\L'.ab id=L.ab id)\/w.heap.size<=L'.ab id) (hlt:L'.ab id<w'.heap.size)
  (hn:st.noTo nul pa=true) {A' :Arr} {cur:Array Value} (hx:XR w' Z L' id A' cur) (hy:L'.yb=L.yb:=by rfl):Inv w0 Z0 N Z L' { st with a:=up st.a id A' } a w' :=by
 have hrz: ∀p b,Z p b->some b≠row:=fun p b hp e=>by
  obtain⟨A,h1,h2⟩:=hrow b e.symm
  exact(h.owna id A h1).2.2 p (h2▸hp)
 have hk:Kept Z w w' :=⟨fun p b hp=>hg.block b (h.zb p b hp) (hrz p b hp)⟩
 have h0:w0.heap.size<=w.heap.size:=h.below.size
 have hnb: ∀i cs,lk st.b i=some cs->w'.heap[L.bx i]? =w.heap[L.bx i]? :=fun i cs hi=>hg.block _ (h.ownb i cs hi).2.1 fun e=>by
  obtain⟨A,h1,h2⟩:=hrow _ e.symm
  exact h.injx i id cs A hi h1 h2
 have hna: ∀i A,i≠id->lk st.a i=some A->w'.heap[L.ab i]? =w.heap[L.ab i]? :=fun i A hi hA=>hg.block _ (h.owna i A hA).2.1 fun e=>by
  obtain⟨A',h1,h2⟩:=hrow _ e.symm
  exact hi (h.inja i id A A' hA h1 h2)
 have hzid: ∀p,¬Z p (L'.ab id):=fun p hp=>by
  rcases hblk with⟨A,h1,h2⟩|h1
  ·exact(h.owna id A h1).2.2 p (h2▸hp)
  ·have:=h.zb p _ hp;omega
 have habI: ∀i A,i≠id->lk st.a i=some A->L'.ab i≠L'.ab id:=fun i A hi hA e=>by
  rw[hl.ab i (hpa i hi)]at e
  rcases hblk with⟨A',h1,h2⟩|h1
  ·exact hi (h.inja i id A A' hA h1 (e.trans h2))
  ·have:=(h.owna i A hA).2.1;omega
 have hR := Rest.keep h.rest hk (fun _ _ h => h) (fun _ _ _ _ _ hp => hp) (fun b o hb hc => hg.block b (qac hb) (fun e => by
   obtain⟨A,h1,h2⟩:=hrow b e.symm
   obtain⟨cur,hX⟩:=h.arrs id A h1
   exact hX.notCells hb hc h2)) hg.size hl (m' :=st.m) (fun i M hM=>⟨hM,(St.noTo_map hn hM)⟩)
 refine⟨h.zt,h.z0,h.zn,fun p b hp=>Nat.lt_of_lt_of_le (h.zb p b hp) hg.size,h.below.grown hg h0 (fun k hk=> ?_),?_,?_,?_,?_,?_,?_,?_,hR.1,hR.2.1,hR.2.2.1,hR.2.2.2.1,by rw[hy];exact h.yb,h.size,hR.2.2.2.2,?_⟩
 ·obtain⟨A,h1,h2⟩:=hrow k hk
  exact h2▸(h.owna id A h1).1
 ·intro i cs hi
  rw[hl.bx i rfl]
  obtain⟨h1,h2,h3⟩:=h.ownb i cs hi
  exact⟨h1,Nat.lt_of_lt_of_le h2 hg.size,h3⟩
 ·intro i A hi
  rw[qa2]at hi
  by_cases e:id=i
  ·subst e
   refine⟨?_,hlt,hzid⟩
   rcases hblk with⟨A,h1,h2⟩|h1
   ·rw[h2];exact(h.owna id A h1).1
   ·omega
  ·rw[if_neg e]at hi
   rw[hl.ab i (hpa i (Ne.symm e))]
   obtain⟨h1,h2,h3⟩:=h.owna i A hi
   exact⟨h1,Nat.lt_of_lt_of_le h2 hg.size,h3⟩
 ·intro i j x y hx hy he
  rw[hl.bx i rfl,hl.bx j rfl]at he
  exact h.injb i j x y hx hy he
 ·intro i j x y hx hy he
  rw[qa2]at hx hy
  by_cases e1:id=i<;>by_cases e2:id=j
  ·rw[<- e1,<- e2]
  ·subst e1;rw[if_neg e2]at hy;exact absurd he.symm (habI j y (Ne.symm e2) hy)
  ·subst e2;rw[if_neg e1]at hx;exact absurd he (habI i x (Ne.symm e1) hx)
  ·rw[if_neg e1]at hx;rw[if_neg e2]at hy
   rw[hl.ab i (hpa i (Ne.symm e1)),hl.ab j (hpa j (Ne.symm e2))]at he
   exact h.inja i j x y hx hy he
 ·intro i j x y hx hy he
  rw[qa2]at hy
  rw[hl.bx i rfl]at he
  by_cases e:id=j
  ·subst e
   rcases hblk with⟨A,h1,h2⟩|h1
   ·exact h.injx i id x A hx h1 (he.trans h2)
   ·have:=(h.ownb i x hx).2.1;omega
  ·rw[if_neg e]at hy
   rw[hl.ab j (hpa j (Ne.symm e))]at he
   exact h.injx i j x y hx hy he
 ·intro i cs hi
  exact(h.boxes i cs hi).keep hk (fun _ _ h=>h) (hnb i cs hi) hl rfl (St.noTo_box hn hi)
 ·intro i A hi
  rw[qa2]at hi
  by_cases e:id=i
  ·subst e;rw[if_pos rfl]at hi;cases hi;exact⟨cur,hx⟩
  ·rw[if_neg e]at hi
   obtain⟨c,hX⟩:=h.arrs i A hi
   exact⟨c,hX.keep hk (fun _ _ h=>h) (hna i A (Ne.symm e) hi) hl (hpa i (Ne.symm e))⟩
 ·intro i v hi
  exact(h.slots i v hi).keep hk (fun _ _ h=>h) hl (St.noTo_slot hn hi)
theorem Inv.setBox (h : Inv w0 Z0 N Z L st a w) {w' : World} {row : Option Nat} {id : Nat} (hg : w.grownBy w' row) (hrow : ∀ k, row = some k -> ∃ A, lk st.b id = some A /\ k = L.bx id)
  {L' :Lay} (hl:LSame L L' pb nul) (hpb: ∀i,i≠id->pb i=false) (hblk:(∃A,lk st.b id=some A/\L'.bx id=L.bx id)\/w.heap.size<=L'.bx id) (hlt:L'.bx id<w'.heap.size)
  (hn:st.noTo pb nul=true) {cs' :List PV} (hx:BR w' Z L' id cs') (hy:L'.yb=L.yb:=by rfl):Inv w0 Z0 N Z L' { st with b:=up st.b id cs' } a w' :=by
 have hrz: ∀p b,Z p b->some b≠row:=fun p b hp e=>by
  obtain⟨A,h1,h2⟩:=hrow b e.symm
  exact(h.ownb id A h1).2.2 p (h2▸hp)
 have hk:Kept Z w w' :=⟨fun p b hp=>hg.block b (h.zb p b hp) (hrz p b hp)⟩
 have h0:w0.heap.size<=w.heap.size:=h.below.size
 have hna: ∀i A,lk st.a i=some A->w'.heap[L.ab i]? =w.heap[L.ab i]? :=fun i A hi=>hg.block _ (h.owna i A hi).2.1 fun e=>by
  obtain⟨cs,h1,h2⟩:=hrow _ e.symm
  exact h.injx id i cs A h1 hi h2.symm
 have hnb: ∀i A,i≠id->lk st.b i=some A->w'.heap[L.bx i]? =w.heap[L.bx i]? :=fun i A hi hA=>hg.block _ (h.ownb i A hA).2.1 fun e=>by
  obtain⟨A',h1,h2⟩:=hrow _ e.symm
  exact hi (h.injb i id A A' hA h1 h2)
 have hzid: ∀p,¬Z p (L'.bx id):=fun p hp=>by
  rcases hblk with⟨A,h1,h2⟩|h1
  ·exact(h.ownb id A h1).2.2 p (h2▸hp)
  ·have:=h.zb p _ hp;omega
 have hbxI: ∀i A,i≠id->lk st.b i=some A->L'.bx i≠L'.bx id:=fun i A hi hA e=>by
  rw[hl.bx i (hpb i hi)]at e
  rcases hblk with⟨A',h1,h2⟩|h1
  ·exact hi (h.injb i id A A' hA h1 (e.trans h2))
  ·have:=(h.ownb i A hA).2.1;omega
 have hR := Rest.keep h.rest hk (fun _ _ h => h) (fun _ _ _ _ _ hp => hp) (fun b o hb hc => hg.block b (qac hb) (fun e => by
   obtain⟨A,h1,h2⟩:=hrow b e.symm
   exact(h.boxes id A h1).notCells hb hc h2)) hg.size hl (m' :=st.m) (fun i M hM=>⟨hM,(St.noTo_map hn hM)⟩)
 refine⟨h.zt,h.z0,h.zn,fun p b hp=>Nat.lt_of_lt_of_le (h.zb p b hp) hg.size,h.below.grown hg h0 (fun k hk=> ?_),?_,?_,?_,?_,?_,?_,?_,hR.1,hR.2.1,hR.2.2.1,hR.2.2.2.1,by rw[hy];exact h.yb,h.size,hR.2.2.2.2,?_⟩
 ·obtain⟨A,h1,h2⟩:=hrow k hk
  exact h2▸(h.ownb id A h1).1
 ·intro i A hi
  rw[qa2]at hi
  by_cases e:id=i
  ·subst e
   refine⟨?_,hlt,hzid⟩
   rcases hblk with⟨A,h1,h2⟩|h1
   ·rw[h2];exact(h.ownb id A h1).1
   ·omega
  ·rw[if_neg e]at hi
   rw[hl.bx i (hpb i (Ne.symm e))]
   obtain⟨h1,h2,h3⟩:=h.ownb i A hi
   exact⟨h1,Nat.lt_of_lt_of_le h2 hg.size,h3⟩
 ·intro i A hi
  rw[hl.ab i rfl]
  obtain⟨h1,h2,h3⟩:=h.owna i A hi
  exact⟨h1,Nat.lt_of_lt_of_le h2 hg.size,h3⟩
 ·intro i j x y hx hy he
  rw[qa2]at hx hy
  by_cases e1:id=i<;>by_cases e2:id=j
  ·rw[<- e1,<- e2]
  ·subst e1;rw[if_neg e2]at hy;exact absurd he.symm (hbxI j y (Ne.symm e2) hy)
  ·subst e2;rw[if_neg e1]at hx;exact absurd he (hbxI i x (Ne.symm e1) hx)
  ·rw[if_neg e1]at hx;rw[if_neg e2]at hy
   rw[hl.bx i (hpb i (Ne.symm e1)),hl.bx j (hpb j (Ne.symm e2))]at he
   exact h.injb i j x y hx hy he
 ·intro i j x y hx hy he
  rw[hl.ab i rfl,hl.ab j rfl]at he
  exact h.inja i j x y hx hy he
 ·intro i j x y hx hy he
  rw[qa2]at hx
  rw[hl.ab j rfl]at he
  by_cases e:id=i
  ·subst e
   rcases hblk with⟨A,h1,h2⟩|h1
   ·exact h.injx id j A y h1 hy (h2.symm.trans he)
   ·have:=(h.owna j y hy).2.1;omega
  ·rw[if_neg e]at hx
   rw[hl.bx i (hpb i (Ne.symm e))]at he
   exact h.injx i j x y hx hy he
 ·intro i cs hi
  rw[qa2]at hi
  by_cases e:id=i
  ·subst e;rw[if_pos rfl]at hi;cases hi;exact hx
  ·rw[if_neg e]at hi
   exact(h.boxes i cs hi).keep hk (fun _ _ h=>h) (hnb i cs (Ne.symm e) hi) hl (hpb i (Ne.symm e)) (St.noTo_box hn hi)
 ·intro i A hi
  obtain⟨c,hX⟩:=h.arrs i A hi
  exact⟨c,hX.keep hk (fun _ _ h=>h) (hna i A hi) hl rfl⟩
 ·intro i v hi
  exact(h.slots i v hi).keep hk (fun _ _ h=>h) hl (St.noTo_slot hn hi)
def PV.fz(id:Nat)(A:Arr):PV->PV
 | .view i lo n=>if i=id then .sl true A.es ((A.xs.drop lo).take n)else .view i lo n
 | .eptr i j off=>if i=id then .iptr true (A.xs.getD j []) off else .eptr i j off
 |c=>c
def PV.fzA(id:Nat)(A:Arr):PV->PV
 | .agg cs=> .agg (cs.map (PV.fz id A))
 |c=>c.fz id A
def PV.fzV(id:Nat)(A:Arr):PV->PV
 | .tup cs=> .tup (cs.map (PV.fzA id A))
 |c=>c.fzA id A
def St.frz(st:St)(id:Nat):St:=
 match lk st.a id with
 |some A=> { s:=st.s.map fun x=>(x.1,x.2.fzV id A),b:=st.b.map fun x=>(x.1,x.2.map (PV.fz id A)),a:=rm st.a id,m:=st.m }
 |none=>st
theorem CR.fz{Z' :Zone}{id:Nat}{A:Arr}{cur:Array Value}(hX:XR w Z L id A cur)(hz: ∀p b,Z p b->Z' p b)(hid:Z' true (L.ab id)){c:PV}{v:Value}(h:CR w Z L c v):CR w Z' L (c.fz id A) v:=by
 have hk:Kept Z w w:=⟨fun _ _ _=>rfl⟩
 cases c with
 |view i lo n=>
   simp only[PV.fz]
   split
   ·rename_i e;subst e
    obtain⟨ad,c',rfl,h1,h2,h3,h4,h5⟩:=h
    rw[hX.al]at h3
    have hlen:((A.xs.drop lo).take n).length=n:=by simp;omega
    by_cases hn:n=0
    ·subst hn
     rw[List.take_zero]
     exact TR.sl0 _ _ _ _ h2
    ·rw[h4 (by omega)]
     show TR w Z' _ _
     have:=TR.sl (w:=w) (Z:=Z') true A.es ((A.xs.drop lo).take n) (L.ab i) (lo*L.ae i) c' (fun p q=>cur.getD ((lo+p)*A.es+q) undef) hX.pos hid (by omega) (by omega) h2
      (fun x hx=>hX.rows x (List.mem_of_mem_drop (List.mem_of_mem_take hx)))
      (fun p q hp hq=>by
       rw[hlen]at hp
       have hpl:lo+p<A.xs.length:=by omega
       have hlt:(lo+p)*A.es+q<cur.size:=by rw[hX.size];exact Nat.lt_of_lt_of_le (qan hpl hq) (Nat.mul_le_mul_right _ hX.fits)
       have hrow:=hX.rows _ (List.getElem_mem hpl)
       have hx' :=hX.cell (lo+p) q _ (A.xs[lo+p])[q] (zL hpl) (zL (by omega))
       refine⟨?_,hx'.2⟩
       rw[cell_of_row w _ _ _ _ _ hX.blk,hX.ae,<- Nat.add_assoc,<- Nat.add_mul]
       simp[Array.getD,hlt])
      (fun p q x c hp hq=>by
       rw[List.getElem?_take]at hp
       split at hp
       ·rw[List.getElem?_drop]at hp
        exact(hX.cell _ _ _ _ hp hq).1.keep hk hz
       ·cases hp)
     rw[hlen]at this
     exact this
   ·exact h
 |eptr i j off=>
   simp only[PV.fz]
   split
   ·rename_i e;subst e
    obtain⟨rfl,h1⟩:=h
    rw[hX.al]at h1
    have hl:=hX.lies h1
    show TR w Z' _ _
    refine TR.iptr true _ (L.ab i) (j*L.ae i) off (fun q=>cur.getD (j*A.es+q) undef) hid (fun q hq=>⟨hl.cell q hq,?_⟩) (fun q c hq=> ?_)
    ·exact(hl.rel q _ (zL hq)).2
    ·rw[zK,zL h1]at hq
     exact(hX.cell j q _ c (zL h1) hq).1.keep hk hz
   ·exact h
 |_=>exact CR.keep' hk hz h
where
 CR.keep' {w w' :World} {Z Z' :Zone} {L:Lay} {c:PV} {v:Value} (hk:Kept Z w w') (hz: ∀p b,Z p b->Z' p b) (h:CR w Z L c v):CR w' Z' L c v:=h.keep hk hz (LSame.refl L) (PV.to_nul c)
theorem CM.fz{Z' :Zone}{id:Nat}{A:Arr}{cur:Array Value}(hX:XR w Z L id A cur)(hz: ∀p b,Z p b->Z' p b)(hid:Z' true (L.ab id)){c:PV}{v:Value}(h:CM w Z L c v):CM w Z' L (c.fz id A) v:=
 ⟨h.1.fz hX hz hid,h.2⟩
theorem AR.fz{Z' :Zone}{id:Nat}{A:Arr}{cur:Array Value}(hX:XR w Z L id A cur)(hz: ∀p b,Z p b->Z' p b)(hid:Z' true (L.ab id)){c:PV}{v:Value}(h:AR w Z L c v):AR w Z' L (c.fzA id A) v:=by
 cases c with
 |agg cs=>
   obtain⟨vs,h1,h2,h3⟩:=h
   refine⟨vs,h1,by simpa using h2,fun j c hj=> ?_⟩
   rw[zS]at hj
   obtain⟨c',h4,rfl⟩:=zR.1 hj
   exact(h3 j c' h4).fz hX hz hid
 |_=>exact AR.cr (CR.fz hX hz hid (AR.toCR (by simp) h))
theorem VR.fz{Z' :Zone}{id:Nat}{A:Arr}{cur:Array Value}(hX:XR w Z L id A cur)(hz: ∀p b,Z p b->Z' p b)(hid:Z' true (L.ab id)){c:PV}{v:Value}(h:VR w Z L c v):VR w Z' L (c.fzV id A) v:=by
 cases c with
 |tup cs=>
   obtain⟨vs,h1,h2,h3⟩:=h
   refine⟨vs,h1,by simpa using h2,fun j c hj=> ?_⟩
   rw[zS]at hj
   obtain⟨c',h4,rfl⟩:=zR.1 hj
   exact(h3 j c' h4).fz hX hz hid
 |_=>exact VR.ar (AR.fz hX hz hid (VR.toAR (by simp) h))
theorem Inv.frz(h:Inv w0 Z0 N Z L st a w)(id:Nat): ∃Z',Inv w0 Z0 N Z' L (st.frz id) a w:=by
 unfold St.frz
 split
 ·rename_i A hA
  obtain⟨cur,hX⟩:=h.arrs id A hA
  obtain⟨o1,o2,o3⟩:=h.owna id A hA
  have hk:Kept Z w w:=⟨fun _ _ _=>rfl⟩
  have hz: ∀p b,Z p b->(Z p b\/b=L.ab id):=fun _ _ h=> .inl h
  have hR:=h.rest.keep (Z' :=fun p b=>Z p b\/b=L.ab id) hk hz (fun b o p hb hc hp=>hp.elim (fun e=>e) (fun e=>absurd e (hX.notCells hb hc))) (fun _ _ _ _=>rfl) (Nat.le_refl _) (LSame.refl L) (m' :=st.m)
   (fun i M hM=>⟨hM,rfl,by unfold Mp.to;split<;>rfl⟩)
  refine⟨fun p b=>Z p b\/b=L.ab id,fun b hb=>hb.imp (h.zt b) (fun e=>e),fun p b hp=> .inl (h.z0 p b hp),?_,?_,h.below,?_,?_,?_,?_,?_,?_,?_,hR.1,hR.2.1,hR.2.2.1,hR.2.2.2.1,h.yb,h.size,hR.2.2.2.2,?_⟩
  ·rintro p b (hp|rfl)
   ·exact h.zn p b hp
   ·exact .inr o1
  ·rintro p b (hp|rfl)
   ·exact h.zb p b hp
   ·exact o2
  ·intro i cs hl
   obtain⟨u,h1,_⟩:=qbK st.b _ i cs hl
   obtain⟨p1,p2,p3⟩:=h.ownb i u h1
   exact⟨p1,p2,fun p hp=>hp.elim (p3 p) (fun e=>h.injx i id u A h1 hA e)⟩
  ·intro i B hl
   rw[qa4]at hl
   by_cases e:id=i
   ·rw[if_pos e]at hl;cases hl
   ·rw[if_neg e]at hl
    obtain⟨p1,p2,p3⟩:=h.owna i B hl
    exact⟨p1,p2,fun p hp=>hp.elim (p3 p) (fun e' =>e (h.inja i id B A hl hA e').symm)⟩
  ·intro i j x y hx hy
   obtain⟨u,h1,_⟩:=qbK st.b _ _ _ hx
   obtain⟨u',h2,_⟩:=qbK st.b _ _ _ hy
   exact h.injb i j u u' h1 h2
  ·intro i j x y hx hy
   rw[qa4]at hx hy
   split at hx
   ·cases hx
   ·split at hy
    ·cases hy
    ·exact h.inja i j x y hx hy
  ·intro i j x y hx hy
   obtain⟨u,h1,_⟩:=qbK st.b _ _ _ hx
   rw[qa4]at hy
   split at hy
   ·cases hy
   ·exact h.injx i j u y h1 hy
  ·intro i cs hl
   obtain⟨u,h1,rfl⟩:=qbK st.b _ i cs hl
   obtain⟨vs,T,h2,h3,h4⟩:=h.boxes i u h1
   refine⟨vs,T,h2,by simpa using h3,fun j c hj=> ?_⟩
   rw[zS]at hj
   obtain⟨c',h5,rfl⟩:=zR.1 hj
   exact(h4 j c' h5).fz hX hz (.inr rfl)
  ·intro i B hl
   rw[qa4]at hl
   split at hl
   ·cases hl
   ·obtain⟨c,hc⟩:=h.arrs i B hl
    exact⟨c,hc.keep hk hz rfl (LSame.refl L) rfl⟩
  ·intro i v hl
   obtain⟨u,h1,rfl⟩:=qbK st.s _ i v hl
   exact(h.slots i u h1).fz hX hz (.inr rfl)
 ·exact⟨Z,h⟩
end
end Go.Vc
namespace Go.Vc
open Go Go.RowKit
def qbL:List PV->List Nat
 |[]=>[]
 | .view id _ _::r=>id::qbL r
 | .eptr id _ _::r=>id::qbL r
 |_::r=>qbL r
def St.frzs(st:St)(cs:List PV):St:=(qbL cs).foldl St.frz st
def qbM:PV->Bool
 | .sc _| .nil| .sl .. | .iptr .. =>true
 |_=>false
def frzParts:St->List (Nat×Opd)->St
 |st,[]=>st
 |st,(_,x)::r=>frzParts (st.frzs (cellsOf (x.ev st))) r
def bslF(st:St)(es:Nat):List (Nat×Opd)->List (List PV)->Prop×List (List PV)
 |[],rows=>(True,rows)
 |(j,x)::r,rows=>
   let q:=bslF st es r (rows.set j (cellsOf (x.ev st)))
   (qas (x.ev st)=true/\(cellsOf (x.ev st)).all qbM=true/\(cellsOf (x.ev st)).length=es/\j<rows.length/\q.1,q.2)
def qbN(st:St)(es:Nat):PV->Prop×List (List PV)
 | .nil=>(True,[])
 | .sl _ es' ys=>(es' =es,ys)
 | .view id lo n=>match lk st.a id with|some A=>(A.es=es,(A.xs.drop lo).take n)|none=>(False,[])
 |_=>(False,[])
def St.newBox(st:St)(i:Nat)(cs:List PV):St:=
 let st' :=st.kill (fun j=>j==i) nul
 { s:=up st'.s i (.ptr i 0),b:=up st'.b i cs,a:=st'.a,m:=st'.m }
def St.newArr(st:St)(i:Nat)(A:Arr):St:=
 let st' :=st.kill nul (fun j=>j==i)
 { s:=up st'.s i (.view i 0 A.xs.length),b:=st'.b,a:=up st'.a i A,m:=st'.m }
def St.newBx(st:St)(i es:Nat)(cs:List PV)(n:Nat):St:=
 let st' :=st.kill (fun j=>j==i) nul
 { s:=up st'.s i (.bv i es n),b:=up st'.b i cs,a:=st'.a,m:=st'.m }
def St.growBx(st:St)(i id es:Nat)(cs:List PV)(n:Nat):St:=
 let st' :=st.kill (fun j=>j==id) nul
 { s:=up st'.s i (.bv id es n),b:=up st'.b id cs,a:=st'.a,m:=st'.m }
def St.newMap(st:St)(i:Nat)(M:Mp):St:=
 let st' :=st.kill (fun j=>j==i) nul
 { s:=up st'.s i (.mp i),b:=rm st'.b i,a:=st'.a,m:=up st'.m i M }
def qbO:PV->Bool
 | .agg cs=>cs.all qbM
 |c=>qbM c
def cpyF(xs:List (List PV))(lo:Nat)(ys:List (List PV)):List (List PV):=xs.take lo++ys++xs.drop (lo+ys.length)
def hev(st:St)(d:Option Nat):AOp->Prop×St
 | .alc zero=>match d with|some i=>(True,st.newBox i zero)|none=>(False,st)
 | .box x=>match d with|some i=>(qas (x.ev st)=true/\(cellsOf (x.ev st)).any (PV.to (fun j=>j==i) nul)=false,st.newBox i (cellsOf (x.ev st)))|none=>(False,st)
 | .bsl es ty zero n parts => match d with
   |some i=>let st1:=frzParts st parts;let q:=bslF st1 es parts (List.replicate n zero);((0<es/\zero.length=es/\n*es<=16777216)/\q.1,st1.newArr i ⟨es,ty,q.2⟩)
   |none=>(False,st)
 | .mks es ty by_ zero l c => match d, l.ev st, c.ev st with
   |some i,.sc (.int _ n),.sc (.int _ m)=>((0<es/\zero.length=es)/\0<=n/\n<=m/\m.toNat*by_<=140737488355328/\m<=9223372036854775807,st.newArr i ⟨es,ty,List.replicate n.toNat zero⟩)
   |_,_,_=>(False,st)
 | .sto sz x v => match x.ev st with
   | .ptr id off => match lk st.b id with
     |some cs=>((qas (v.ev st)=true/\(cellsOf (v.ev st)).length=sz)/\off+sz<=cs.length,{ st with b:=up st.b id (spl cs off (cellsOf (v.ev st))) })
     |none=>(False,st)
   | .eptr id i off => let st1 := st.frzs (cellsOf (v.ev st)); match lk st1.a id with
     | some A => (((qas (v.ev st1) = true /\ (cellsOf (v.ev st1)).all qbM = true) /\ (cellsOf (v.ev st1)).length = sz /\ x.ev st1 = .eptr id i off) /\ off + sz <= A.es /\ i < A.xs.length,
       { st1 with a:=up st1.a id { A with xs:=A.xs.set i (spl (A.xs.getD i []) off (cellsOf (v.ev st1))) } })
     |none=>(False,st1)
   |_=>(False,st)
 | .app es ty by_ s x => let q := qbN st es (x.ev st); match d, s.ev st with
   | some i, .nil => match q.2 with
     |[]=>(0<es/\q.1,{ st with s:=up st.s i .nil })
     |y::r=>((0<es/\q.1)/\(r.length+1)*by_<=140737488355328/\r.length+1<=9223372036854775807,st.newArr i ⟨es,ty,y::r⟩)
   | some i, .view id lo n => match lk st.a id with
     | some A => let st' := st.kill nul (fun j => j == id);
       (((lo = 0 /\ A.es = es /\ A.ty = ty) /\ q.1) /\ n = A.xs.length /\ (n + q.2.length) * by_ <= 140737488355328 /\ n + q.2.length <= 9223372036854775807,
         { s:=up st'.s i (.view id 0 (n+q.2.length)),b:=st'.b,a:=up st'.a id { A with xs:=A.xs++q.2 },m:=st'.m })
     |none=>(False,st)
   |_,_=>(False,st)
 | .cpy es x y => let q := qbN st es (y.ev st); match x.ev st with
   | .view id lo n => match lk st.a id with
     |some A=>((0<es/\A.es=es)/\q.1,({ st with a:=up st.a id { A with xs:=cpyF A.xs lo (q.2.take n) } } :St).put d (.int (min q.2.length n:Nat)))
     |none=>(False,st)
   |_=>(False,st)
 | .mkm kd=>match d with|some i=>(True,st.newMap i ⟨kd,[],none⟩)|none=>(False,st)
 | .mup kd x k v => match x.ev st, keyV (k.ev st) with
   | .mp id, some kv => match lk st.m id with
     |some M=>((M.kd=kd/\kd.has kv=true)/\qbO (v.ev st)=true,{ st with m:=up st.m id ⟨kd,mput M.es kv (v.ev st),none⟩ })
     |none=>(False,st)
   |_,_=>(False,st)
 | .men kd zero x k => match d, x.ev st, keyV (k.ev st) with
   | some i, .mp id, some kv => match lk st.m id with
     | some M => match M.it with
       |some (.stp l c)=>(((M.kd=kd/\kd.has kv=true)/\mget M.es kv=none)/\qbO zero=true,({ st with m:=up st.m id ⟨kd,M.es++[(kv,zero)],some (.stp (l++[c]) (c+1))⟩ } :St).put (some i) (.tup [zero,.sc (.int .i64 c)]))
       |_=>(False,st)
     |none=>(False,st)
   |_,_,_=>(False,st)
 | .est x s v => match x.ev st, s.ev st with
   | .mp id, .sc (.int .i64 n) => match lk st.m id with
     | some M => match M.it with
       | some (.stp l c) => match l.findIdx? (fun (q : Nat) => (q : Int) == n) with
         |some j=>(qbO (v.ev st)=true,{ st with m:=up st.m id ⟨M.kd,M.es.modify j fun y=>(y.1,v.ev st),none⟩ })
         |none=>(False,st)
       |_=>(False,st)
     |none=>(False,st)
   |_,_=>(False,st)
 | .rng x => match d, x.ev st with
   | some i, .mp id => match lk (st.kill (fun j => j == i) nul).m id with
     |some M=>(True,{ s:=up (st.kill (fun j=>j==i) nul).s i (.itr id i),b:=rm (st.kill (fun j=>j==i) nul).b i,a:=st.a,m:=up (st.kill (fun j=>j==i) nul).m id { M with it:=some (.run i M.es none) } })
     |none=>(False,st)
   |_,_=>(False,st)
 |_=>(False,st)
def byIs(P:Program)(t n:Nat):Bool:=match P.info? t with|some i=>i.bytes==n|none=>false
def qbP(κ:Sh):List (Nat×Opd)->List (Nat×Operand)->Bool
 |[],[]=>true
 |(i,x)::r,(j,y)::s=>i==j&&qai κ x y&&qbP κ r s
 |_,_=>false
def okH(P:Program)(κ:Sh):AOp->Op->Bool
 | .alc zero,.alloc t=>qaz P t zero
 | .box x,.box _ y=>qai κ x y
 | .mkm kd,.makeMap t none=>(match P.underlying t with|some (.map kt _)=>qaC P kt kd|_=>false)
 | .mup kd x k v,.mapUpdate t y k' u=>(match P.underlying t with|some (.map kt _)=>qaC P kt kd|_=>false)&&qai κ x y&&qai κ k k' &&qai κ v u
 | .men kd zero x k,.mapEntry t y k' =>(match P.underlying t with|some (.map kt e)=>qaC P kt kd&&(match P.info? e with|some i=>(match i.zero with|some z=>cM zero z|none=>false)|none=>false)|_=>false)&&qai κ x y&&qai κ k k'
 | .est x s v,.entryStore _ y s' v' =>qai κ x y&&qai κ s s' &&qai κ v v'
 | .nxt x,.next y false=>qai κ x y
 | .rng x,.range t y=>(match P.underlying t with|some (.map _ _)=>true|_=>false)&&qai κ x y
 | .bsl es ty zero n parts,.buildSlice t m ps=>(match P.underlying t with|some (.slice e)=>e==ty&&szIs P e es&&qaz P e zero|_=>false)&&n==m&&qbP κ parts ps.toList
 | .mks es ty by_ zero l c,.makeSlice t l' c' =>(match P.underlying t with|some (.slice e)=>e==ty&&szIs P e es&&qaz P e zero&&byIs P e by_|_=>false)&&qai κ l l' &&qai κ c c'
 | .sto sz x v,.store t y u=>szIs P t sz&&qai κ x y&&qai κ v u
 | .app es ty by_ s x, .call { callee := .builtin .append, args, argTypes } => (match args.toList, argTypes.toList with
   |[s',x'],[t,t']=>qai κ s s' &&qai κ x x' &&t==t' &&(match P.underlying t with|some (.slice e)=>e==ty&&szIs P e es&&byIs P e by_&&(match P.info? e with|some i=>(match i.zero with|some z=>z.cells.size==es|none=>false)|none=>false)|_=>false)
   |_,_=>false)
 | .cpy es x y, .call { callee := .builtin .copy, args, argTypes } => (match args.toList, argTypes.toList with
   |[x',y'],[t,_]=>qai κ x x' &&qai κ y y' &&(match P.underlying t with|some (.slice e)=>szIs P e es|_=>false)
   |_,_=>false)
 |_,_=>false
section
variable {w0:World} {Z0:Zone} {N:Fr} {Z:Zone} {L:Lay} {st:St} {a:Act} {w:World} {P:Program}
def Runs(P:Program)(w0:World)(Z0:Zone)(N:Fr)(w:World)(a:Act)(op:Op)(d:Option Nat)(st' :St):Prop:=
 ∃(v:Value) (n:Next) (w' :World),(n= .value v\/(n= .skip/\v=undef))/\
  (∀(ty:TypeId) (pos:String) (after:Array Edge) (g:Option (Nat×Bool)),(execOp a.eval ⟨d,op,ty,pos,after,g⟩).run P w= .ok n w')/\ ∃Z' L',Inv w0 Z0 N Z' L' st' (a.put d v) w'
theorem qbQ(w:World)(o:Obj):w.grownBy (w.alloc o) none:=World.grownBy_alloc w o none
theorem Inv.newBox (h : Inv w0 Z0 N Z L st a w) {i i' : Nat} (hi : N.dst (some i) (some i')) {cs : List PV} {vs : Array Value} (T : TypeId) (hs : vs.size = cs.length) (hc : ∀ j c, cs[j]? = some c -> CM w Z L c (vs.getD j undef))
  (hn:cs.any (PV.to (fun j=>j==i) nul)=false): ∃Z' L',Inv w0 Z0 N Z' L' (st.newBox i cs) (a.put (some i') (.pointer (some ⟨w.heap.size,0,none⟩))) (w.alloc (.cells vs T)):=by
 have hl:LSame L { L with bx:=fun j=>if j=i then w.heap.size else L.bx j,bc:=fun j=>if j=i then vs.size else L.bc j } (fun j=>j==i) nul:=⟨fun j hj=>by simp only[beq_eq_false_iff_ne]at hj;simp[hj],fun _ _=>rfl,fun _ _=>rfl,fun _ _=>rfl,fun _ _=>rfl,fun _ _=>rfl,fun j hj=>by simp only[beq_eq_false_iff_ne]at hj;simp[hj]⟩
 have hk:Kept Z w (w.alloc (.cells vs T)):=⟨fun p b hp=>Below.heap_alloc _ _ _ (h.zb p b hp)⟩
 have h1:=(h.kill (fun j=>j==i) nul).setBox (qbQ w (.cells vs T)) (row:=none) (by simp) (id:=i) hl (fun j hj=>by simpa using hj) (.inr (by simp)) (by simp) (St.noTo_kill st _ _)
  (cs' :=cs) ⟨vs,T,by simp only[if_true];exact heap_alloc_new w _,⟨Nat.le_of_eq hs.symm,by simp⟩,fun j c hj=>(hc j c hj).keep hk (fun _ _ h=>h) hl (qa1 hn hj)⟩
 exact⟨_,_,h1.put (d:=some i) (d' :=some i') hi (v:= .ptr i 0) (by simp[VR,AR,CR])⟩
theorem Inv.newBx (h : Inv w0 Z0 N Z L st a w) {i i' : Nat} (hi : N.dst (some i) (some i')) (es n : Nat) (hm : n <= maxLen) {cs : List PV} {vs : Array Value} (T : TypeId) (hs : vs.size = cs.length) (hc : ∀ j c, cs[j]? = some c -> CM w Z L c (vs.getD j undef))
  (hn:cs.any (PV.to (fun j=>j==i) nul)=false) (hen:n*es=cs.length): ∃Z' L',Inv w0 Z0 N Z' L' (st.newBx i es cs n) (a.put (some i') (.slice (some ⟨w.heap.size,0,none⟩) n n)) (w.alloc (.cells vs T)):=by
 have hl:LSame L { L with bx:=fun j=>if j=i then w.heap.size else L.bx j,bc:=fun j=>if j=i then vs.size else L.bc j } (fun j=>j==i) nul:=⟨fun j hj=>by simp only[beq_eq_false_iff_ne]at hj;simp[hj],fun _ _=>rfl,fun _ _=>rfl,fun _ _=>rfl,fun _ _=>rfl,fun _ _=>rfl,fun j hj=>by simp only[beq_eq_false_iff_ne]at hj;simp[hj]⟩
 have hk:Kept Z w (w.alloc (.cells vs T)):=⟨fun p b hp=>Below.heap_alloc _ _ _ (h.zb p b hp)⟩
 have h1:=(h.kill (fun j=>j==i) nul).setBox (qbQ w (.cells vs T)) (row:=none) (by simp) (id:=i) hl (fun j hj=>by simpa using hj) (.inr (by simp)) (by simp) (St.noTo_kill st _ _)
  (cs' :=cs) ⟨vs,T,by simp only[if_true];exact heap_alloc_new w _,⟨Nat.le_of_eq hs.symm,by simp⟩,fun j c hj=>(hc j c hj).keep hk (fun _ _ h=>h) hl (qa1 hn hj)⟩
 exact⟨_,_,h1.put (d:=some i) (d' :=some i') hi (v:= .bv i es n) ⟨n,by simp,Nat.le_refl _,hm,by simp only[if_true];omega⟩⟩
theorem qbR(h:Inv w0 Z0 N Z L st a w){i i' :Nat}(hi:N.dst (some i) (some i')){x:Opd}{op:Op}(hm:okH P N.sh (.box x) op=true)(hv:(hev st (some i) (.box x)).1):Runs P w0 Z0 N w a op (some i') (hev st (some i) (.box x)).2:=by
 cases op<;>simp only[okH]at hm<;>first|(exact absurd hm zQ)|skip
 rename_i t y
 simp only[hev]at hv ⊢
 obtain⟨h1,h2⟩:=(h.ev hm).cells hv.1
 exact⟨_,_,_,.inl rfl,fun _ _ _ _=>by simp[execOp,Instr.box,newVar,newRow],h.newBox hi t h1 h2 hv.2⟩
theorem qbS(h:Inv w0 Z0 N Z L st a w){i i' :Nat}(hi:N.dst (some i) (some i')){zero:List PV}{op:Op}(hm:okH P N.sh (.alc zero) op=true):Runs P w0 Z0 N w a op (some i') (hev st (some i) (.alc zero)).2:=by
 cases op<;>simp only[okH]at hm<;>first|(exact absurd hm zQ)|skip
 rename_i t
 obtain⟨ti,z,hti,hz,hzl,hzc⟩:=qbz hm
 simp only[hev]
 refine⟨_,_,_,.inl rfl,fun _ _ _ _=>by simp[execOp,Instr.alloc,zeroValue,typeInfo,hti,hz,newVar,newRow],h.newBox hi t hzl.symm (fun j c hj=>⟨(hzc w Z j c hj).1.cr L,(hzc w Z j c hj).2⟩) ?_⟩
 rw[yD]
 intro c hc
 obtain⟨j,hj⟩:=List.getElem?_of_mem hc
 have:=(hzc w Z j c hj).1
 generalize z.cells.getD j undef=u at this
 cases this<;>simp[PV.to]
theorem Inv.newArr (h : Inv w0 Z0 N Z L st a w) {i i' : Nat} (hi : N.dst (some i) (some i')) {A : Arr} {cur : Array Value} {cap : Nat} {w' : World} (hg : w.grownBy w' none) {g : Nat} (hgn : w.heap.size <= g) (hgl : g < w'.heap.size)
  (hb:w'.heap[g]? =some (.cells cur A.ty (0,0))) (hpos:0<A.es) (hsize:cur.size=cap*A.es) (hfit:A.xs.length<=cap) (hmax:cap<=maxLen) (hrows: ∀x∈A.xs,x.length=A.es)
  (hcell: ∀p q x c,A.xs[p]? =some x->x[q]? =some c->TR w Z c (cur.getD (p*A.es+q) undef)/\(cur.getD (p*A.es+q) undef).oneCell' =true):
  ∃Z' L',Inv w0 Z0 N Z' L' (st.newArr i A) (a.put (some i') (.slice (some ⟨g,0,none⟩) A.xs.length cap)) w' :=by
 have hl:LSame L { L with ab:=fun j=>if j=i then g else L.ab j,ac:=fun j=>if j=i then cap else L.ac j,ae:=fun j=>if j=i then A.es else L.ae j,al:=fun j=>if j=i then A.xs.length else L.al j } nul (fun j=>j==i):=
  ⟨fun _ _=>rfl,fun j hj=>by simp only[beq_eq_false_iff_ne]at hj;simp[hj],fun j hj=>by simp only[beq_eq_false_iff_ne]at hj;simp[hj],fun j hj=>by simp only[beq_eq_false_iff_ne]at hj;simp[hj],fun j hj=>by simp only[beq_eq_false_iff_ne]at hj;simp[hj],fun _ _=>rfl,fun _ _=>rfl⟩
 have hk:Kept Z w w' :=⟨fun p b hp=>hg.block b (h.zb p b hp) (by simp)⟩
 have h1:=(h.kill nul (fun j=>j==i)).setArr hg (by simp) (id:=i) hl (fun j hj=>by simpa using hj) (.inr (by simpa using hgn)) (by simpa using hgl) (St.noTo_kill st _ _)
  (A' :=A) (cur:=cur) ⟨hpos,by simp,by simp,by simpa using hb,by simpa using hsize,by simpa using hfit,by simpa using hmax,hrows,fun p q x c hp hq=>⟨(hcell p q x c hp hq).1.keep hk (fun _ _ h=>h),(hcell p q x c hp hq).2⟩⟩
 exact⟨_,_,h1.put (d:=some i) (d' :=some i') hi (v:= .view i 0 A.xs.length) ⟨_,_,rfl,hfit,hmax,by simp,by simp,by simp⟩⟩
theorem Inv.frzs(h:Inv w0 Z0 N Z L st a w)(cs:List PV): ∃Z',Inv w0 Z0 N Z' L (st.frzs cs) a w:=by
 unfold St.frzs
 generalize qbL cs=l
 induction l generalizing st Z with
 |nil=>exact⟨Z,h⟩
 |cons i l ih=>
   obtain⟨Z1,h1⟩:=h.frz i
   exact ih h1
theorem Inv.frzParts(h:Inv w0 Z0 N Z L st a w)(ps:List (Nat×Opd)): ∃Z',Inv w0 Z0 N Z' L (frzParts st ps) a w:=by
 induction ps generalizing st Z with
 |nil=>exact⟨Z,h⟩
 |cons p ps ih=>
   obtain⟨Z1,h1⟩:=h.frzs (cellsOf (p.2.ev st))
   exact ih h1
theorem CM.pure{c:PV}{v:Value}(h:CM w Z L c v)(hp:qbM c=true):TR w Z c v/\v.oneCell' =true:=by
 refine⟨?_,h.2⟩
 have:=h.1
 cases c<;>simp[qbM]at hp<;>exact this
theorem qbT (h : Inv w0 Z0 N Z L st a w) (es : Nat) : ∀ (parts : List (Nat × Opd)) (ps : List (Nat × Operand)) (rows : List (List PV)) (vs : Array Value),
  qbP N.sh parts ps=true->(bslF st es parts rows).1->vs.size=rows.length*es->(∀x∈rows,x.length=es)->
  (∀p q x c,rows[p]? =some x->x[q]? =some c->TR w Z c (vs.getD (p*es+q) undef)/\(vs.getD (p*es+q) undef).oneCell' =true)->
  ∃us,Instr.fill (fun i=>some (i*es,es)) vs (ps.map fun x=>(x.1,a.eval x.2))=some us/\us.size=(bslF st es parts rows).2.length*es/\(∀x∈(bslF st es parts rows).2,x.length=es)/\
   (bslF st es parts rows).2.length=rows.length/\
   (∀p q x c,(bslF st es parts rows).2[p]? =some x->x[q]? =some c->TR w Z c (us.getD (p*es+q) undef)/\(us.getD (p*es+q) undef).oneCell' =true):=by
 intro parts
 induction parts with
 |nil=>
   intro ps rows vs hp _ hs hr hc
   cases ps with
   |nil=>exact⟨vs,rfl,hs,hr,rfl,hc⟩
   |cons=>simp[qbP]at hp
 |cons p parts ih=>
   intro ps rows vs hp hv hs hr hc
   obtain⟨j,xo⟩:=p
   cases ps with
   |nil=>simp[qbP]at hp
   |cons q ps=>
     obtain⟨j',y⟩:=q
     simp only[qbP,zN,beq_iff_eq]at hp
     obtain⟨⟨rfl,hx⟩,hp⟩:=hp
     simp only[bslF]at hv ⊢
     obtain⟨hok,hpu,hlen,hjr,hv⟩:=hv
     obtain⟨hcs,hcc⟩:=(h.ev hx).cells hok
     obtain⟨g1,g2⟩:=qbv (j*es) (a.eval y).cells.toList 0 vs
     have hpos: ∀(p q:Nat),q<es->(j*es+0<=p*es+q/\p*es+q<j*es+0+es)->p=j:=by
      intro p q hq ⟨e1,e2⟩
      rcases Nat.lt_trichotomy p j with h1|h1|h1
      ·have:=qan h1 hq;omega
      ·exact h1
      ·have:(j+1)*es<=p*es:=Nat.mul_le_mul_right _ h1
       rw[Nat.add_mul,Nat.one_mul]at this;omega
     have hcell' : ∀ p q x c, (rows.set j (cellsOf (xo.ev st)))[p]? = some x -> x[q]? = some c ->
       TR w Z c (((((a.eval y).cells.toList.zipIdx 0).foldl (fun(cs:Array Value) (x:Value×Nat)=>cs.setIfInBounds (j*es+x.2) x.1) vs)).getD (p*es+q) undef)/\
       (((((a.eval y).cells.toList.zipIdx 0).foldl (fun(cs:Array Value) (x:Value×Nat)=>cs.setIfInBounds (j*es+x.2) x.1) vs)).getD (p*es+q) undef).oneCell' =true:=by
      intro p q x' c hp' hq
      have hpl:p<rows.length:=by
       have:=(zM.1 hp').1
       simpa using this
      have hxl:x'.length=es:=by
       rw[List.getElem?_set]at hp'
       split at hp'
       ·cases hp';exact hlen
       ·exact hr x' (zP hp')
      have hql:q<es:=by rw[<- hxl];exact(zM.1 hq).1
      rw[g2 _ (by rw[hs];exact qan hpl hql)]
      simp only[Array.length_toList,hcs,hlen]
      by_cases e:p=j
      ·subst e
       rw[if_pos ⟨by omega,by omega⟩]
       rw[List.getElem?_set_self hpl]at hp'
       cases hp'
       rw[show p*es+q-(p*es+0)=q from by omega]
       have h2:qbM c=true:=yE.1 hpu c (zP hq)
       have:=(hcc q c hq).pure h2
       simpa[zO,zK]using this
      ·rw[if_neg (fun hh=>e (hpos p q hql hh))]
       rw[List.getElem?_set_ne (Ne.symm e)]at hp'
       exact hc p q x' c hp' hq
     obtain⟨us,h1,h2,h3,h4,h5⟩:=ih ps (rows.set j (cellsOf (xo.ev st))) _ hp hv (by rw[g1,hs];simp) (fun x' hx' =>by
      rcases List.mem_or_eq_of_mem_set hx' with h1|h1
      ·exact hr x' h1
      ·rw[h1];exact hlen) hcell'
     refine⟨us,?_,h2,h3,by rw[h4];simp,h5⟩
     simp only[zW,Instr.fill]
     have hb:j*es+es<=rows.length*es:=by
      have:=Nat.mul_le_mul_right es hjr
      rwa [Nat.succ_mul]at this
     rw[if_neg (by simp only[ne_eq,Bool.or_eq_true,decide_eq_true_eq,not_or];omega)]
     have e: ∀(l:Array Value) (vs:Array Value),l.zipIdx.foldl (fun(cs:Array Value) (x:Value×Nat)=>cs.setIfInBounds (j*es+x.2) x.1) vs=(l.toList.zipIdx 0).foldl (fun(cs:Array Value) (x:Value×Nat)=>cs.setIfInBounds (j*es+x.2) x.1) vs:=by
      intro l vs
      rw[<- Array.foldl_toList,Array.toList_zipIdx]
     rw[<- h1]
     congr 1
     exact e _ _
theorem qbU {t es : Nat} {zero : List PV} {z : Value} (hzl : zero.length = z.cells.size) (hes : zero.length = es) (hzc : ∀ j c, zero[j]? = some c -> TR w Z c (z.cells.getD j undef) /\ (z.cells.getD j undef).oneCell' = true)
  (n m:Nat) (hnm:n<=m):t=t/\((Array.range (m*es)).map (z.cells[· %z.cells.size]!)).size=m*es/\ ∀p q x c,(List.replicate n zero)[p]? =some x->x[q]? =some c->
   TR w Z c (((Array.range (m*es)).map (z.cells[· %z.cells.size]!)).getD (p*es+q) undef)/\(((Array.range (m*es)).map (z.cells[· %z.cells.size]!)).getD (p*es+q) undef).oneCell' =true:=by
 refine⟨rfl,by simp,fun p q x c hp hq=> ?_⟩
 rw[List.getElem?_replicate]at hp
 split at hp
 ·rename_i hpn
  cases hp
  have hql:q<es:=by rw[<- hes];exact(zM.1 hq).1
  have hlt:p*es+q<m*es:=qan (by omega) hql
  have:=hzc q c hq
  have hmod:(p*es+q)%z.cells.size=q:=by rw[<- hzl,hes,Nat.add_comm,Nat.add_mul_mod_self_right];exact Nat.mod_eq_of_lt hql
  have hqs:q<z.cells.size:=by omega
  have e:((Array.range (m*es)).map (z.cells[· %z.cells.size]!)).getD (p*es+q) undef=z.cells.getD q undef:=by
   simp[Array.getD,hlt,hmod,hqs]
  rw[e];exact this
 ·cases hp
theorem qbV (h : Inv w0 Z0 N Z L st a w) {i i' : Nat} (hi : N.dst (some i) (some i')) {es ty : Nat} {zero : List PV} {n : Nat} {parts : List (Nat × Opd)} {op : Op} (hm : okH P N.sh (.bsl es ty zero n parts) op = true)
  (hv:(hev st (some i) (.bsl es ty zero n parts)).1):Runs P w0 Z0 N w a op (some i') (hev st (some i) (.bsl es ty zero n parts)).2:=by
 cases op<;>simp only[okH,zN,beq_iff_eq]at hm<;>first|(exact absurd hm zQ)|skip
 rename_i t m ps
 obtain⟨⟨ht,rfl⟩,hps⟩:=hm
 split at ht
 ·rename_i e he
  simp only[zN,beq_iff_eq]at ht
  obtain⟨⟨rfl,hsz⟩,hz⟩:=ht
  obtain⟨ti,z,hti,hzz,hzl,hzc⟩:=qbz hz
  simp only[hev]at hv ⊢
  obtain⟨⟨hpos,hes,h24⟩,hq⟩:=hv
  obtain⟨Z1,h1⟩:=h.frzParts parts
  obtain⟨_,_,m2⟩:=qbU (t:=t) (w:=w) (Z:=Z1) hzl hes (hzc w Z1) n n (Nat.le_refl n)
  obtain⟨us,f1,f2,f3,f4,f5⟩:=qbT h1 es parts ps.toList (List.replicate n zero) _ hps hq (by simp) (fun x hx=>by rw[List.eq_of_mem_replicate hx,hes]) m2
  have hlen:(bslF (frzParts st parts) es parts (List.replicate n zero)).2.length=n:=by simpa using f4
  have hrun:(Instr.buildSlice t n (ps.map fun(x:Nat×Operand)=>(x.1,a.eval x.2))).run P w= .ok (.slice (some ⟨w.heap.size,0,none⟩) n n) (w.alloc (.cells us e)):=by
   have h24' : ¬(16777216<n*es):=by omega
   by_cases hn0:n*es=0
   ·have f1' : Instr.fill (fun i => some (i * es, es)) (Array.map (fun (_ : Nat) => (default : Value)) (Array.range 0)) (ps.toList.map fun x => (x.1, a.eval x.2)) = some us := by
     rw[<- f1];congr 1;simp[hn0]
    simp[Instr.buildSlice,run_underlying he,qak hsz,hn0,newRow,f1']
   ·simp[Instr.buildSlice,run_underlying he,qak hsz,h24',hn0,newRow,zeroValue,typeInfo,hti,hzz,f1]
  refine⟨_,_,_,.inl rfl,fun _ _ _ _=>by simp only[execOp,Sem.run_bind,hrun,Result.andThen_ok];rfl,?_⟩
  have:=h1.newArr hi (A:=⟨es,e,(bslF (frzParts st parts) es parts (List.replicate n zero)).2⟩) (cur:=us) (cap:=n) (qbQ w (.cells us e)) (g:=w.heap.size) (Nat.le_refl _) (by simp) (heap_alloc_new w _) hpos
   (by rw[f2,hlen]) (by rw[hlen];exact Nat.le_refl n) (by
    have:n*1<=n*es:=Nat.mul_le_mul_left _ hpos
    simp only[maxLen];omega) f3 f5
  simp only[hlen]at this
  exact this
 ·cases ht
theorem qbW (h : Inv w0 Z0 N Z L st a w) {i i' : Nat} (hi : N.dst (some i) (some i')) {es ty by_ : Nat} {zero : List PV} {l c : Opd} {op : Op} (hm : okH P N.sh (.mks es ty by_ zero l c) op = true)
  (hv:(hev st (some i) (.mks es ty by_ zero l c)).1):Runs P w0 Z0 N w a op (some i') (hev st (some i) (.mks es ty by_ zero l c)).2:=by
 cases op<;>simp only[okH,zN]at hm<;>first|(exact absurd hm zQ)|skip
 rename_i t l' c'
 obtain⟨⟨ht,hl⟩,hc⟩:=hm
 split at ht
 ·rename_i e he
  simp only[zN,beq_iff_eq]at ht
  obtain⟨⟨⟨rfl,hsz⟩,hz⟩,hby⟩:=ht
  obtain⟨ti,z,hti,hzz,hzl,hzc⟩:=qbz hz
  have hby' :ti.bytes=by_:=by simpa[byIs,hti]using hby
  have hsz' :ti.size=es:=by simpa[szIs,hti]using hsz
  simp only[hev]at hv ⊢
  split at hv
  ·rename_i i' k1 n k2 m e1 e2 e3
   cases e1
   obtain⟨⟨hpos,hes⟩,h0,hnm,hb,h63⟩:=hv
   have hl' :=h.evInt hl e2
   have hc' :=h.evInt hc e3
   have hbb:((by_:Nat):Int)*m<=281474976710656:=by
    have h1:(m.toNat:Int)=m:=Int.toNat_of_nonneg (by omega)
    rw[<- h1,<- Int.natCast_mul,Nat.mul_comm];omega
   have hrun:=run_make (P:=P) w t e ti z he hti hzz k1 k2 n m h0 hnm (by rw[hby'];exact hbb) h63
   rw[hsz']at hrun
   obtain⟨_,m1,m2⟩:=qbU (t:=t) (w:=w) (Z:=Z) hzl hes (hzc w Z) n.toNat m.toNat (by omega)
   refine⟨_,_,_,.inl rfl,fun _ _ _ _=>by simp only[execOp,hl',hc',Sem.run_bind,hrun,Result.andThen_ok];rfl,?_⟩
   have:=h.newArr hi (A:=⟨es,e,List.replicate n.toNat zero⟩) (cur:=madeCells z.cells (m.toNat*es)) (cap:=m.toNat) (qbQ w (.cells (madeCells z.cells (m.toNat*es)) e)) (g:=w.heap.size) (Nat.le_refl _) (by simp) (heap_alloc_new w _) hpos
    m1 (by simp;omega) (by simp only[maxLen];omega) (fun x hx=>by rw[List.eq_of_mem_replicate hx,hes]) m2
   simp only[List.length_replicate]at this
   exact this
  ·exact hv.elim
 ·cases ht
end
end Go.Vc
