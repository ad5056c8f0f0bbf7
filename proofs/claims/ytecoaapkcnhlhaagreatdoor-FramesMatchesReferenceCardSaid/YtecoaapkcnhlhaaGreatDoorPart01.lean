/- VcA VcB VcC VcD VcE VcY VcF: lemmas -/
import Derived.WalkKit
set_option linter.unusedSimpArgs false
set_option linter.unusedVariables false
open Option renaming map_eq_some_iff->zR
open Array renaming getD_eq_getD_getElem? ->zO
open Bool renaming and_eq_true->zN,false_ne_true->zQ
open List renaming getD_eq_getElem?_getD->zK,getElem?_eq_getElem->zL,getElem?_eq_some_iff->zM,mem_of_getElem? ->zP,mem_cons_of_mem->zT,map_cons->zW,mem_cons_self->zX,getElem?_append_left->yA,getElem?_append_right->yB,any_eq_false->yD,all_eq_true->yE
namespace Go.Vc
open Go Go.RowKit
inductive PV where
 |bot
 |sc (v:Value)
 |nil
 |sl (p:Bool) (es:Nat) (xs:List (List PV))
 |iptr (p:Bool) (cs:List PV) (off:Nat)
 |view (id lo n:Nat)
 |ptr (id off:Nat)
 |eptr (id i off:Nat)
 |agg (cs:List PV)
 |tup (cs:List PV)
 |clo (f:Nat) (ids:List Nat)
 |yl (id:Nat)
 |mp (id:Nat)
 |itr (id it:Nat)
 |pcl (f:Nat) (caps:List PV)
 |cld (ids:List Nat)
 |bv (id es n:Nat)
 |bm (f id:Nat)
instance:Inhabited PV:=⟨.bot⟩
abbrev PV.int (n:Int):PV:= .sc (.int .i64 n)
abbrev PV.bool (b:Bool):PV:= .sc (.bool b)
def scOk:Value->Bool
 | .bool _| .int _ _| .string _| .nilFunc| .nilIface| .float _ _=>true
 | .pointer none=>true
 | .map none=>true
 | .func (.func _) x y=>x.isEmpty&&y.isEmpty
 | .iface _ (.int _ _)=>true
 | .iface _ (.agg c)=>c.isEmpty
 |_=>false
theorem qa0{v:Value}(h:scOk v=true):v.oneCell' =true:=by
 cases v<;>first|rfl|simp_all[scOk,Value.oneCell']
abbrev Zone:=Bool->Nat->Prop
inductive TR (w:World) (Z:Zone):PV->Value->Prop
 |bot (v):TR w Z .bot v
 |sc (v):scOk v=true->TR w Z (.sc v) v
 |nil:TR w Z .nil (.slice none 0 0)
 |sl0 (p es a cap):cap<=maxLen->TR w Z (.sl p es []) (.slice a 0 cap)
 | sl (p es xs b o cap) (g : Nat -> Nat -> Value) : 0 < es -> Z p b -> 0 < xs.length -> xs.length <= cap -> cap <= maxLen -> (∀ x ∈ xs, x.length = es) ->
   (∀i j,i<xs.length->j<es->w.cell? ⟨b,o+(i*es+j),none⟩=some (g i j)/\(g i j).oneCell' =true)->
   (∀i j x c,xs[i]? =some x->x[j]? =some c->TR w Z c (g i j))->
   TR w Z (.sl p es xs) (.slice (some ⟨b,o,none⟩) xs.length cap)
 | iptr (p cs b o off) (g : Nat -> Value) : Z p b ->
   (∀j,j<cs.length->w.cell? ⟨b,o+j,none⟩=some (g j)/\(g j).oneCell' =true)->
   (∀j c,cs[j]? =some c->TR w Z c (g j))->
   TR w Z (.iptr p cs off) (.pointer (some ⟨b,o+off,none⟩))
 |pcl (f caps) (vs:Array Value):vs.size=caps.length->(∀j c,caps[j]? =some c->TR w Z c (vs.getD j undef))->TR w Z (.pcl f caps) (.func (.func f) #[] vs)
structure Kept (Z:Zone) (w w' :World):Prop where
 blk: ∀p b,Z p b->w'.heap[b]? =w.heap[b]?
theorem Kept.cell{Z:Zone}{w w' :World}(h:Kept Z w w'){p b o}(hz:Z p b):w'.cell? ⟨b,o,none⟩=w.cell? ⟨b,o,none⟩:=
 World.cell?_of_block (w:=w) (h.blk p b hz)
theorem TR.keep{w w' :World}{Z Z' :Zone}{c:PV}{v:Value}(hk:Kept Z w w')(hz: ∀p b,Z p b->Z' p b)(h:TR w Z c v):TR w' Z' c v:=by
 induction h with
 |bot v=>exact .bot v
 |sc v h=>exact .sc v h
 |nil=>exact .nil
 |sl0 p es a cap h=>exact .sl0 p es a cap h
 |sl p es xs b o cap g h0 h1 h2 h3 h4 h5 h6 _ ih=>
   exact .sl p es xs b o cap g h0 (hz _ _ h1) h2 h3 h4 h5 (fun i j hi hj=>by rw[hk.cell h1];exact h6 i j hi hj) ih
 |iptr p cs b o off g h1 h2 _ ih=>
   exact .iptr p cs b o off g (hz _ _ h1) (fun j hj=>by rw[hk.cell h1];exact h2 j hj) ih
 |pcl f caps vs h1 _ ih=>exact .pcl f caps vs h1 ih
structure Lay where
 bx:Nat->Nat
 ab:Nat->Nat
 ac:Nat->Nat
 ae:Nat->Nat
 al:Nat->Nat
 yb:Nat->Nat
 bc:Nat->Nat
def CR(w:World)(Z:Zone)(L:Lay):PV->Value->Prop
 | .view id lo n,v=> ∃a cap',v= .slice (some a) n cap' /\n<=cap' /\cap' <=maxLen/\lo+n<=L.al id/\(0<n->a=⟨L.ab id,lo*L.ae id,none⟩)/\(lo=0->a=⟨L.ab id,0,none⟩/\cap' =L.ac id)
 | .ptr id off,v=>v= .pointer (some ⟨L.bx id,off,none⟩)
 | .eptr id i off,v=>v= .pointer (some ⟨L.ab id,i*L.ae id+off,none⟩)/\i<L.al id
 | .clo f ids,v=>v= .func (.func f) #[] (ids.map fun i=>Value.pointer (some ⟨L.bx i,0,none⟩)).toArray
 | .yl id,v=>v= .func (.yield (L.yb id)) #[] #[]
 | .mp id,v=>v= .map (some (L.bx id))
 | .itr _ it,v=>v= .pointer (some ⟨L.bx it,0,none⟩)
 | .cld _,_=>True
 | .bv id es n,v=> ∃c,v= .slice (some ⟨L.bx id,0,none⟩) n c/\n<=c/\c<=maxLen/\c*es<=L.bc id
 | .bm f id,v=>v= .func (.func f) #[.pointer (some ⟨L.bx id,0,none⟩)] #[]
 |pv,v=>TR w Z pv v
def CM(w:World)(Z:Zone)(L:Lay)(c:PV)(v:Value):Prop:=CR w Z L c v/\v.oneCell' =true
def AR(w:World)(Z:Zone)(L:Lay):PV->Value->Prop
 | .agg cs,v=> ∃vs:Array Value,v= .agg vs/\vs.size=cs.length/\ ∀j c,cs[j]? =some c->CM w Z L c (vs.getD j undef)
 |pv,v=>CR w Z L pv v
def VR(w:World)(Z:Zone)(L:Lay):PV->Value->Prop
 | .tup cs,v=> ∃vs:Array Value,v= .tuple vs/\vs.size=cs.length/\ ∀j c,cs[j]? =some c->AR w Z L c (vs.getD j undef)
 |pv,v=>AR w Z L pv v
def TA(w:World)(Z:Zone):PV->Value->Prop
 | .agg cs,v=> ∃vs:Array Value,v= .agg vs/\vs.size=cs.length/\ ∀j c,cs[j]? =some c->TR w Z c (vs.getD j undef)/\(vs.getD j undef).oneCell' =true
 |pv,v=>TR w Z pv v
def TV(w:World)(Z:Zone):PV->Value->Prop
 | .tup cs,v=> ∃vs:Array Value,v= .tuple vs/\vs.size=cs.length/\ ∀j c,cs[j]? =some c->TA w Z c (vs.getD j undef)
 |pv,v=>TA w Z pv v
theorem TR.cr{w:World}{Z:Zone}(L:Lay){c:PV}{v:Value}(h:TR w Z c v):CR w Z L c v:=by
 cases c<;>simp only[CR]<;>first|exact h|cases h
theorem TA.ar{w:World}{Z:Zone}(L:Lay){c:PV}{v:Value}(h:TA w Z c v):AR w Z L c v:=by
 cases c<;>simp only[AR,TA]at h ⊢ <;>first|exact h.cr L|skip
 obtain⟨vs,h1,h2,h3⟩:=h
 exact⟨vs,h1,h2,fun j c hj=>⟨(h3 j c hj).1.cr L,(h3 j c hj).2⟩⟩
theorem TV.vr{w:World}{Z:Zone}(L:Lay){c:PV}{v:Value}(h:TV w Z c v):VR w Z L c v:=by
 cases c<;>simp only[VR,TV]at h ⊢ <;>first|exact h.ar L|skip
 obtain⟨vs,h1,h2,h3⟩:=h
 exact⟨vs,h1,h2,fun j c hj=>(h3 j c hj).ar L⟩
structure LSame (L L' :Lay) (pb pa:Nat->Bool):Prop where
 bx: ∀i,pb i=false->L'.bx i=L.bx i
 ab: ∀i,pa i=false->L'.ab i=L.ab i
 ac: ∀i,pa i=false->L'.ac i=L.ac i
 ae: ∀i,pa i=false->L'.ae i=L.ae i
 al: ∀i,pa i=false->L'.al i=L.al i
 yb: ∀i,pb i=false->L'.yb i=L.yb i
 bc: ∀i,pb i=false->L'.bc i=L.bc i
def nul:Nat->Bool:=fun _=>false
theorem LSame.refl(L:Lay):LSame L L nul nul:=⟨fun _ _=>rfl,fun _ _=>rfl,fun _ _=>rfl,fun _ _=>rfl,fun _ _=>rfl,fun _ _=>rfl,fun _ _=>rfl⟩
def PV.to(pb pa:Nat->Bool):PV->Bool
 | .view i _ _| .eptr i _ _=>pa i
 | .ptr i _| .bv i _ _| .bm _ i=>pb i
 | .clo _ ids=>ids.any pb
 | .yl i=>pb i
 | .mp i=>pb i
 | .itr i j=>pb i||pb j
 | .cld ids=>ids.any pb
 |_=>false
def PV.toA(pb pa:Nat->Bool):PV->Bool
 | .agg cs=>cs.any (PV.to pb pa)
 |c=>c.to pb pa
def PV.toV(pb pa:Nat->Bool):PV->Bool
 | .tup cs=>cs.any (PV.toA pb pa)
 |c=>c.toA pb pa
section
variable {w w' :World} {Z Z' :Zone} {L L' :Lay} {pb pa:Nat->Bool} {c:PV} {v:Value}
theorem CR.keep(hk:Kept Z w w')(hz: ∀p b,Z p b->Z' p b)(hl:LSame L L' pb pa)(hn:c.to pb pa=false)(h:CR w Z L c v):CR w' Z' L' c v:=by
 cases c<;>simp only[CR,PV.to]at h hn ⊢ <;>first|exact TR.keep hk hz h|skip
 ·obtain⟨a,cap',h1,h2,h3,h4,h5,h6⟩:=h
  rw[hl.ab _ hn,hl.ae _ hn,hl.ac _ hn,hl.al _ hn]
  exact⟨a,cap',h1,h2,h3,h4,h5,h6⟩
 ·rw[hl.bx _ hn];exact h
 ·rw[hl.ab _ hn,hl.ae _ hn,hl.al _ hn];exact h
 ·rename_i f ids
  rw[h]
  have: ∀l:List Nat,l.any pb=false->(l.map fun i=>Value.pointer (some ⟨L.bx i,0,none⟩))=l.map fun i=>Value.pointer (some ⟨L'.bx i,0,none⟩):=fun l hl' =>List.map_congr_left fun i hi=>by
   rw[hl.bx i (by simpa using yD.1 hl' i hi)]
  rw[this ids hn]
 ·rw[hl.yb _ hn];exact h
 ·rw[hl.bx _ hn];exact h
 ·rw[Bool.or_eq_false_iff]at hn;rw[hl.bx _ hn.2];exact h
 ·rw[hl.bx _ hn,hl.bc _ hn];exact h
 ·rw[hl.bx _ hn];exact h
theorem CM.keep(hk:Kept Z w w')(hz: ∀p b,Z p b->Z' p b)(hl:LSame L L' pb pa)(hn:c.to pb pa=false)(h:CM w Z L c v):CM w' Z' L' c v:=⟨h.1.keep hk hz hl hn,h.2⟩
theorem qa1{α:Type}{p:α->Bool}{l:List α}{j:Nat}{x:α}(h:l.any p=false)(hj:l[j]? =some x):p x=false:=by
 have:=yD.1 h x (zP hj)
 simpa using this
theorem AR.keep(hk:Kept Z w w')(hz: ∀p b,Z p b->Z' p b)(hl:LSame L L' pb pa)(hn:c.toA pb pa=false)(h:AR w Z L c v):AR w' Z' L' c v:=by
 cases c<;>simp only[AR,PV.toA]at h hn ⊢ <;>first|exact CR.keep hk hz hl hn h|skip
 obtain⟨vs,h1,h2,h3⟩:=h
 exact⟨vs,h1,h2,fun j c hj=>(h3 j c hj).keep hk hz hl (qa1 hn hj)⟩
theorem VR.keep(hk:Kept Z w w')(hz: ∀p b,Z p b->Z' p b)(hl:LSame L L' pb pa)(hn:c.toV pb pa=false)(h:VR w Z L c v):VR w' Z' L' c v:=by
 cases c<;>simp only[VR,PV.toV]at h hn ⊢ <;>first|exact AR.keep hk hz hl hn h|skip
 obtain⟨vs,h1,h2,h3⟩:=h
 exact⟨vs,h1,h2,fun j c hj=>(h3 j c hj).keep hk hz hl (qa1 hn hj)⟩
end
theorem PV.to_nul(c:PV):c.to nul nul=false:=by
 cases c<;>first|rfl|skip
 all_goals (rename_i ids;show ids.any nul=false;simp[nul])
theorem PV.toA_nul(c:PV):c.toA nul nul=false:=by
 cases c<;>simp only[PV.toA]<;>first|exact PV.to_nul _|simp[PV.to_nul]
theorem PV.toV_nul(c:PV):c.toV nul nul=false:=by
 cases c<;>simp only[PV.toV]<;>first|exact PV.toA_nul _|simp[PV.toA_nul]
structure Arr where
 es:Nat
 ty:Nat
 xs:List (List PV)
def BR(w:World)(Z:Zone)(L:Lay)(id:Nat)(cs:List PV):Prop:=
 ∃(vs:Array Value) (T:TypeId),w.heap[L.bx id]? =some (.cells vs T (0,0))/\(cs.length<=vs.size/\vs.size=L.bc id)/\ ∀j c,cs[j]? =some c->CM w Z L c (vs.getD j undef)
structure XR (w:World) (Z:Zone) (L:Lay) (id:Nat) (A:Arr) (cur:Array Value):Prop where
 pos:0<A.es
 ae:L.ae id=A.es
 al:L.al id=A.xs.length
 blk:w.heap[L.ab id]? =some (.cells cur A.ty (0,0))
 size:cur.size=L.ac id*A.es
 fits:A.xs.length<=L.ac id
 max:L.ac id<=maxLen
 rows: ∀x∈A.xs,x.length=A.es
 cell: ∀i j x c,A.xs[i]? =some x->x[j]? =some c->TR w Z c (cur.getD (i*A.es+j) undef)/\(cur.getD (i*A.es+j) undef).oneCell' =true
inductive KD where
 |int (k:IntKind)
 |str
 |bol
 |st (n:Nat)
def i64s:Nat->List Value->Bool
 |0,[]=>true
 |n+1,.int .i64 _::r=>i64s n r
 |_,_=>false
def KD.has:KD->Value->Bool
 | .int k,.int l _=>k==l
 | .str,.string _=>true
 | .bol,.bool _=>true
 | .st n,.agg c=>i64s n c.toList
 |_,_=>false
def KD.sc:KD->Bool
 | .st _=>false
 |_=>true
inductive ItX where
 |run (i:Nat) (left:List (Value×PV)) (cur:Option (Value×PV))
 |stp (l:List Nat) (c:Nat)
structure Mp where
 kd:KD
 es:List (Value×PV)
 it:Option ItX:=none
def Mp.to(pb:Nat->Bool)(M:Mp):Bool:=match M.it with|some (.run i _ _)=>pb i|_=>false
def EntR(w:World)(Z:Zone)(e:MapEntry)(x:Value×PV):Prop:=e.key=x.1/\TA w Z x.2 e.val
def ItR(w0:World)(w:World)(Z:Zone)(L:Lay)(id:Nat)(ents:Array MapEntry)(clock:Nat):Option ItX->Prop
 |none=>True
 |some (.stp l c)=>clock=c/\ents.toList.map (·.born)=l
 | some (.run i left cur) => ∃ seen : Array Nat, w.heap[L.bx i]? = some (.mapIter (some (L.bx id)) clock seen clock) /\ w0.heap.size <= L.bx i /\ (∀ p, ¬ Z p (L.bx i)) /\
   (ents.toList.filter fun e=> !seen.contains e.born).length=left.length/\
   (∀(j:Nat) (e:MapEntry) (x:Value×PV),(ents.toList.filter fun e=> !seen.contains e.born)[j]? =some e->left[j]? =some x->EntR w Z e x)/\
   (∀x,cur=some x-> ∃(b:Nat) (e:MapEntry),seen.back? =some b/\e∈ents.toList/\e.born=b/\EntR w Z e x)
structure MR (w0:World) (w:World) (Z:Zone) (L:Lay) (id:Nat) (M:Mp) (ents:Array MapEntry) (clock:Nat):Prop where
 blk:w.heap[L.bx id]? =some (.map ents clock)
 size:ents.size=M.es.length
 ent: ∀(j:Nat) (e:MapEntry) (x:Value×PV),ents[j]? =some e->M.es[j]? =some x->EntR w Z e x
 kind: ∀x∈M.es,M.kd.has x.1=true
 old: ∀e∈ents.toList,e.born<clock
 born:ents.toList.Pairwise fun x y=>x.born≠y.born
 it:ItR w0 w Z L id ents clock M.it
structure St where
 s:List (Nat×PV)
 b:List (Nat×List PV)
 a:List (Nat×Arr)
 m:List (Nat×Mp)
def lk{α:Type} :List (Nat×α)->Nat->Option α
 |[],_=>none
 |(k,v)::r,i=>if k=i then some v else lk r i
def up{α:Type} :List (Nat×α)->Nat->α->List (Nat×α)
 |[],i,v=>[(i,v)]
 |(k,u)::r,i,v=>if k=i then(k,v)::r else if i<k then(i,v)::(k,u)::r else(k,u)::up r i v
def rm{α:Type} :List (Nat×α)->Nat->List (Nat×α)
 |[],_=>[]
 |(k,u)::r,i=>if k=i then rm r i else(k,u)::rm r i
theorem qa2{α:Type}(l:List (Nat×α))(i j:Nat)(v:α):lk (up l i v) j=if i=j then some v else lk l j:=by
 induction l with
 |nil=>simp[up,lk]
 |cons p r ih=>
   obtain⟨k,u⟩:=p
   simp only[up]
   split
   ·rename_i h;subst h;simp only[lk];split<;>rfl
   ·rename_i h
    split
    ·simp only[lk]
    ·simp only[lk,ih]
     split
     ·rename_i h2;subst h2;rw[if_neg (Ne.symm h)]
     ·rfl
theorem qa3{α:Type}(l:List (Nat×α)){i j:Nat}(v w:α)(hn:i≠j):up (up l i v) j w=up (up l j w) i v:=by
 induction l with
 |nil=>
   simp only[up]
   rw[if_neg hn,if_neg (Ne.symm hn)]
   rcases Nat.lt_or_gt_of_ne hn with h|h
   ·rw[if_neg (by omega),if_pos h]
   ·rw[if_pos h,if_neg (by omega)]
 |cons p r ih=>
   obtain⟨k,u⟩:=p
   simp only[up]
   by_cases h1:k=i
   ·subst h1
    rw[if_pos rfl,if_neg hn]
    simp only[up]
    rw[if_neg hn]
    split
    ·simp only[up];rw[if_neg (Ne.symm hn),if_neg (by omega)];simp
    ·simp[up]
   ·rw[if_neg h1]
    by_cases h2:k=j
    ·subst h2
     rw[if_pos rfl]
     split
     ·rename_i h3;have h4: ¬k<i:=by omega
      simp[up,hn,h1,h3,h4]
     ·rename_i h3
      simp[up,h1,h3]
    ·rw[if_neg h2]
     split
     ·rename_i h3
      split
      ·rename_i h4
       simp only[up]
       rw[if_neg hn,if_neg (Ne.symm hn)]
       rcases Nat.lt_or_gt_of_ne hn with h|h
       ·rw[if_neg (by omega),if_neg h2,if_pos h4,if_pos h]
       ·rw[if_pos h,if_neg (by omega),if_neg h1,if_pos h3]
      ·rename_i h4
       simp only[up]
       rw[if_neg hn,if_neg (by omega),if_neg h2,if_neg h4,if_neg h1,if_pos h3]
     ·rename_i h3
      split
      ·rename_i h4
       simp only[up]
       rw[if_neg h2,if_pos h4,if_neg (Ne.symm hn),if_neg (by omega),if_neg h1,if_neg h3]
      ·rename_i h4
       simp only[up]
       rw[if_neg h2,if_neg h4,if_neg h1,if_neg h3,ih]
theorem qa4{α:Type}(l:List (Nat×α))(i j:Nat):lk (rm l i) j=if i=j then none else lk l j:=by
 induction l with
 |nil=>simp[rm,lk]
 |cons p r ih=>
   obtain⟨k,u⟩:=p
   simp only[rm]
   split
   ·rename_i h;subst h;rw[ih];split
    ·rfl
    ·rename_i h2;simp[lk,h2]
   ·rename_i h
    simp only[lk,ih]
    split
    ·rename_i h2;subst h2;rw[if_neg (Ne.symm h)]
    ·rfl
theorem qa5{α:Type}(l:List (Nat×α))(p:Nat->Bool)(j:Nat):lk (l.filter (fun x=>p x.1)) j=if p j then lk l j else none:=by
 induction l with
 |nil=>simp[lk]
 |cons q r ih=>
   obtain⟨k,u⟩:=q
   simp only[List.filter_cons]
   split
   ·rename_i h
    simp only[lk]
    split
    ·rename_i h2;subst h2;simp[h]
    ·exact ih
   ·rename_i h
    rw[ih]
    simp only[lk]
    split
    ·split
     ·rename_i h1 h2;subst h2;simp_all
     ·rfl
    ·rfl
theorem qa6{α β:Type}(l:List (Nat×α))(f:α->β)(j:Nat):lk (l.map fun x=>(x.1,f x.2)) j=(lk l j).map f:=by
 induction l with
 |nil=>simp[lk]
 |cons q r ih=>
   obtain⟨k,u⟩:=q
   simp only[zW,lk]
   split
   ·rfl
   ·exact ih
def St.get(st:St)(i:Nat):PV:=(lk st.s i).getD .bot
def St.put(st:St)(d:Option Nat)(v:PV):St:=
 match d with
 |some i=> { st with s:=up st.s i v }
 |none=>st
def mpTo(m:List (Nat×Mp))(pb:Nat->Bool)(i:Nat):Bool:=match lk m i with|some M=>M.to pb|none=>false
def St.noTo(st:St)(pb pa:Nat->Bool):Bool:=(st.s.all (fun x=> !x.2.toV pb pa)&&st.b.all (fun x=> !x.2.any (PV.to pb pa)))&&st.m.all (fun x=> !pb x.1&& !mpTo st.m pb x.1)
theorem qa7{α:Type}{l:List (Nat×α)}{i:Nat}{v:α}(h:lk l i=some v):(i,v)∈l:=by
 induction l with
 |nil=>simp[lk]at h
 |cons q r ih=>
   obtain⟨k,u⟩:=q
   simp only[lk]at h
   split at h
   ·rename_i e;subst e;cases h;exact zX
   ·exact zT _ (ih h)
theorem qa8{α:Type}(l:List (Nat×α))(p:Nat×α->Bool)(hk: ∀x y,p (x.1,y)=p x)(i:Nat)(v:α)(h:lk (l.filter p) i=some v):lk l i=some v:=by
 induction l with
 |nil=>simp[lk]at h
 |cons q r ih=>
   obtain⟨k,u⟩:=q
   simp only[List.filter_cons]at h
   split at h
   ·simp only[lk]at h ⊢
    split
    ·rw[if_pos ‹_›]at h;exact h
    ·rw[if_neg ‹_›]at h;exact ih h
   ·rename_i hp
    simp only[lk]
    split
    ·rename_i e
     subst e
     have:=qa7 h
     have h2:=(List.mem_filter.1 this).2
     rw[hk (k,u) v]at h2
     exact absurd h2 hp
    ·exact ih h
theorem St.noTo_slot{st:St}{pb pa:Nat->Bool}{i:Nat}{v:PV}(h:st.noTo pb pa=true)(hl:lk st.s i=some v):v.toV pb pa=false:=by
 simp only[St.noTo,zN,yE]at h
 simpa using h.1.1 _ (qa7 hl)
theorem St.noTo_box{st:St}{pb pa:Nat->Bool}{i:Nat}{v:List PV}(h:st.noTo pb pa=true)(hl:lk st.b i=some v):v.any (PV.to pb pa)=false:=by
 simp only[St.noTo,zN,yE]at h
 simpa using h.1.2 _ (qa7 hl)
theorem St.noTo_map{st:St}{pb pa:Nat->Bool}{i:Nat}{M:Mp}(h:st.noTo pb pa=true)(hl:lk st.m i=some M):pb i=false/\M.to pb=false:=by
 simp only[St.noTo,zN,yE]at h
 have:=h.2 _ (qa7 hl)
 simpa[mpTo,hl]using this
theorem qa9(m:List (Nat×Mp))(i:Nat):mpTo m nul i=false:=by unfold mpTo Mp.to;split<;>first|rfl|(split<;>rfl)
theorem St.noTo_nul(st:St):st.noTo nul nul=true:=by
 simp only[St.noTo,PV.toV_nul,qa9,nul]
 simp only[zN,yE,Bool.not_false,implies_true,and_true,true_and,Bool.not_eq_true']
 exact fun x _=>by rw[yD];exact fun c _=>by rw[PV.to_nul c];exact zQ
def qaa:Obj->Bool
 | .loop _| .deferred _=>true
 |_=>false
def RecAt(w0:World)(Z:Zone)(w:World)(x:Nat×Obj):Prop:=w.heap[x.1]? =some x.2/\qaa x.2=true/\w0.heap.size<=x.1/\ ∀p,¬Z p x.1
def mark(D:Nat):Deferred:= { target:= .collected D,args:= #[] }
structure Gh where
 x:List (Nat×Obj)
 y:Nat->Nat
structure Fr where
 n:Nat
 K:Nat
 G:Nat->Value
 X:Gh
 dm:Option (Bool×List Deferred)
def qab(X:Gh)(l:List Nat):Prop:=l.Nodup/\ ∀D∈l,∀x∈X.x,x.1≠D
def Fr.val(N:Fr)(a:Act)(i:Nat):Value:=if N.K<=i/\i<N.K+N.n then a.tmps.getD (i-N.K) undef else N.G i
def Fr.dst(N:Fr):Option Nat->Option Nat->Prop
 |none,none=>True
 |some i,some j=>i=N.K+j/\j<N.n
 |_,_=>False
structure Inv (w0:World) (Z0:Zone) (N:Fr) (Z:Zone) (L:Lay) (st:St) (a:Act) (w:World):Prop where
 zt: ∀b,Z true b->Z false b
 z0: ∀p b,Z0 p b->Z p b
 zn: ∀p b,Z p b->Z0 p b\/w0.heap.size<=b
 zb: ∀p b,Z p b->b<w.heap.size
 below:Below w0.heap.size w0 w
 ownb: ∀id cs,lk st.b id=some cs->w0.heap.size<=L.bx id/\L.bx id<w.heap.size/\ ∀p,¬Z p (L.bx id)
 owna: ∀id A,lk st.a id=some A->w0.heap.size<=L.ab id/\L.ab id<w.heap.size/\ ∀p,¬Z p (L.ab id)
 injb: ∀i j hi hj,lk st.b i=some hi->lk st.b j=some hj->L.bx i=L.bx j->i=j
 inja: ∀i j hi hj,lk st.a i=some hi->lk st.a j=some hj->L.ab i=L.ab j->i=j
 injx: ∀i j hi hj,lk st.b i=some hi->lk st.a j=some hj->L.bx i≠L.ab j
 boxes: ∀id cs,lk st.b id=some cs->BR w Z L id cs
 arrs: ∀id A,lk st.a id=some A-> ∃cur,XR w Z L id A cur
 ownm: ∀id M,lk st.m id=some M->w0.heap.size<=L.bx id/\L.bx id<w.heap.size/\ ∀p,¬Z p (L.bx id)
 injm: ∀i j hi hj,lk st.m i=some hi->lk st.m j=some hj->L.bx i=L.bx j->i=j
 maps: ∀id M,lk st.m id=some M-> ∃ents clock,MR w0 w Z L id M ents clock
 oth: ∀x∈N.X.x,RecAt w0 Z w x
 yb: ∀i,L.yb i=N.X.y i
 size:a.tmps.size=N.n
 defers: ∀dd,N.dm=some dd-> ∃l:List Nat,(a.defers=l.map mark++dd.2/\(dd.1=true->l=[]))/\qab N.X l/\ ∀D∈l,RecAt w0 Z w (D,.deferred (some []))
 slots: ∀i v,lk st.s i=some v->VR w Z L v (N.val a i)
def Sim(w0:World)(Z0:Zone)(N:Fr)(st:St)(a:Act)(w:World):Prop:= ∃Z L,Inv w0 Z0 N Z L st a w
section
variable {w0:World} {Z0:Zone} {N:Fr} {Z:Zone} {L:Lay} {st:St} {a:Act} {w:World}
theorem Inv.get(h:Inv w0 Z0 N Z L st a w)(i:Nat):VR w Z L (st.get i) (N.val a i):=by
 unfold St.get
 cases hl:lk st.s i with
 |none=>exact TR.bot _
 |some v=>exact h.slots i v hl
theorem EntR.keep{w' :World}{Z' :Zone}{e:MapEntry}{x:Value×PV}(hk:Kept Z w w')(hz: ∀p b,Z p b->Z' p b)(h:EntR w Z e x):EntR w' Z' e x:=by
 refine⟨h.1,?_⟩
 have h2:=h.2
 revert h2
 generalize x.2=c
 intro h2
 cases c<;>simp only[TA]at h2 ⊢ <;>first|exact h2.keep hk hz|skip
 obtain⟨vs,h3,h4,h5⟩:=h2
 exact⟨vs,h3,h4,fun j c hj=>⟨(h5 j c hj).1.keep hk hz,(h5 j c hj).2⟩⟩
theorem MR.keep {w' : World} {Z' : Zone} {L' : Lay} {id : Nat} {M : Mp} {ents : Array MapEntry} {clock : Nat} (h : MR w0 w Z L id M ents clock) (hk : Kept Z w w') (hz : ∀ p b, Z p b -> Z' p b)
  (hb:w'.heap[L.bx id]? =w.heap[L.bx id]?) (hi: ∀i x y,M.it=some (.run i x y)->w'.heap[L.bx i]? =w.heap[L.bx i]? /\ ∀p,¬Z' p (L.bx i)) {pb pa:Nat->Bool} (hl:LSame L L' pb pa) (hp:pb id=false) (hp2:M.to pb=false):
  MR w0 w' Z' L' id M ents clock:=by
 refine⟨by rw[hl.bx _ hp,hb];exact h.blk,h.size,fun j e x h1 h2=>(h.ent j e x h1 h2).keep hk hz,h.kind,h.old,h.born,?_⟩
 have hit:=h.it
 unfold Mp.to at hp2
 revert hit hi hp2
 generalize M.it=it
 intro hi hp2 hit
 cases it with
 |none=>trivial
 |some x=>
   cases x with
   |stp l c=>exact hit
   |run i left cur=>
   obtain⟨seen,h1,h2,h3,h4,h5,h6⟩:=hit
   obtain⟨h7,h8⟩:=hi i left cur rfl
   simp only at hp2
   refine⟨seen,by rw[hl.bx _ hp2,hl.bx _ hp,h7];exact h1,by rw[hl.bx _ hp2];exact h2,by rw[hl.bx _ hp2];exact h8,h4,fun j e x e1 e2=>(h5 j e x e1 e2).keep hk hz,fun x hx=> ?_⟩
   obtain⟨b,e,e1,e2,e3,e4⟩:=h6 x hx
   exact⟨b,e,e1,e2,e3,e4.keep hk hz⟩
theorem MR.itAt {id : Nat} {M : Mp} {ents : Array MapEntry} {clock : Nat} (h : MR w0 w Z L id M ents clock) {i : Nat} {x : List (Value × PV)} {y : Option (Value × PV)} (hi : M.it = some (.run i x y)) :
  ∃seen:Array Nat,w.heap[L.bx i]? =some (.mapIter (some (L.bx id)) clock seen clock)/\w0.heap.size<=L.bx i/\ ∀p,¬Z p (L.bx i):=by
 have:=h.it
 rw[hi]at this
 obtain⟨seen,h1,h2,h3,_⟩:=this
 exact⟨seen,h1,h2,h3⟩
theorem RecAt.keep{w' :World}{Z' :Zone}{x:Nat×Obj}(h:RecAt w0 Z w x)(hb:w'.heap[x.1]? =w.heap[x.1]?)(hz: ∀p,Z' p x.1->Z p x.1):RecAt w0 Z' w' x:=
 ⟨by rw[hb];exact h.1,h.2.1,h.2.2.1,fun p hp=>h.2.2.2 p (hz p hp)⟩
theorem qac{w:World}{b:Nat}{o:Obj}(h:w.heap[b]? =some o):b<w.heap.size:=(Array.getElem?_eq_some_iff.1 h).1
theorem Fr.val_put{u:Value}{i j:Nat}{d:Option Nat}(hs:a.tmps.size=N.n)(hd:N.dst (some i) d):N.val (a.put d u) j=if i=j then u else N.val a j:=by
 cases d with
 |none=>exact hd.elim
 |some k=>
   obtain⟨rfl,hk⟩:=hd
   simp only[Fr.val,Act.put]
   by_cases e:N.K+k=j
   ·subst e
    rw[if_pos rfl,if_pos ⟨by omega,by omega⟩]
    have:k<a.tmps.size:=by omega
    simp[Array.getD,show N.K+k-N.K=k from by omega,this]
   ·rw[if_neg e]
    split
    ·rw[zO,zO,Array.getElem?_setIfInBounds_ne (by omega)]
    ·rfl
theorem Inv.put(h:Inv w0 Z0 N Z L st a w){d d' :Option Nat}(hd:N.dst d d'){v:PV}{u:Value}(hv:VR w Z L v u):Inv w0 Z0 N Z L (st.put d v) (a.put d' u) w:=by
 cases d with
 |none=>cases d' with|none=>exact h|some _=>exact hd.elim
 |some i=>
   cases d' with
   |none=>exact hd.elim
   |some k=>
   refine⟨h.zt,h.z0,h.zn,h.zb,h.below,h.ownb,h.owna,h.injb,h.inja,h.injx,h.boxes,h.arrs,h.ownm,h.injm,h.maps,h.oth,h.yb,by simp[Act.put,h.size],h.defers,?_⟩
   intro j v' hj
   simp only[St.put,qa2]at hj
   rw[Fr.val_put h.size hd]
   by_cases e:i=j
   ·subst e
    rw[if_pos rfl]at hj ⊢;cases hj
    exact hv
   ·rw[if_neg e]at hj ⊢
    exact h.slots j v' hj
theorem XR.keep {w' : World} {Z' : Zone} {L' : Lay} {id : Nat} {A : Arr} {cur : Array Value} (h : XR w Z L id A cur) (hk : Kept Z w w') (hz : ∀ p b, Z p b -> Z' p b)
  (hb:w'.heap[L.ab id]? =w.heap[L.ab id]?) {pb pa:Nat->Bool} (hl:LSame L L' pb pa) (hp:pa id=false):XR w' Z' L' id A cur:=by
 refine⟨h.pos,by rw[hl.ae _ hp];exact h.ae,by rw[hl.al _ hp];exact h.al,by rw[hl.ab _ hp,hb];exact h.blk,by rw[hl.ac _ hp];exact h.size,by rw[hl.ac _ hp];exact h.fits,by rw[hl.ac _ hp];exact h.max,h.rows,?_⟩
 intro i j x c hi hj
 exact⟨(h.cell i j x c hi hj).1.keep hk hz,(h.cell i j x c hi hj).2⟩
theorem BR.keep {w' : World} {Z' : Zone} {L' : Lay} {id : Nat} {cs : List PV} (h : BR w Z L id cs) (hk : Kept Z w w') (hz : ∀ p b, Z p b -> Z' p b)
  (hb:w'.heap[L.bx id]? =w.heap[L.bx id]?) {pb pa:Nat->Bool} (hl:LSame L L' pb pa) (hp:pb id=false) (hn:cs.any (PV.to pb pa)=false):BR w' Z' L' id cs:=by
 obtain⟨vs,T,h1,h2,h3⟩:=h
 exact⟨vs,T,by rw[hl.bx _ hp,hb];exact h1,by rw[hl.bc _ hp];exact h2,fun j c hj=>(h3 j c hj).keep hk hz hl (qa1 hn hj)⟩
theorem Inv.move (h : Inv w0 Z0 N Z L st a w) {w' : World} {Z' : Zone} (hz : ∀ p b, Z p b -> Z' p b) (hzt : ∀ b, Z' true b -> Z' false b) (hzn : ∀ p b, Z' p b -> Z p b \/ w.heap.size <= b) (hzb : ∀ p b, Z' p b -> b < w'.heap.size)
  (hb:Below w.heap.size w w'):Inv w0 Z0 N Z' L st a w' :=by
 have hk:Kept Z w w' :=⟨fun p b hp=>hb.block b (h.zb p b hp)⟩
 have h0:w0.heap.size<=w.heap.size:=h.below.size
 have hnz: ∀b,b<w.heap.size-> ∀p,Z' p b->Z p b:=fun b hlt p hp=>by rcases hzn p b hp with h4|h4;exact h4;omega
 have hrec: ∀x,RecAt w0 Z w x->RecAt w0 Z' w' x:=fun x hx=>hx.keep (hb.block _ (qac hx.1)) (hnz _ (qac hx.1))
 refine⟨hzt,fun p b hp=>hz p b (h.z0 p b hp),fun p b hp=> ?_,hzb,h.below.trans (hb.mono h0),?_,?_,h.injb,h.inja,h.injx,?_,?_,?_,h.injm,?_,fun x hx=>hrec x (h.oth x hx),h.yb,h.size,?_,?_⟩
 ·rcases hzn p b hp with h1|h1
  ·exact h.zn p b h1
  ·exact .inr (Nat.le_trans h0 h1)
 ·intro id cs hl
  obtain⟨h1,h2,h3⟩:=h.ownb id cs hl
  exact⟨h1,Nat.lt_of_lt_of_le h2 hb.size,fun p hp=>by rcases hzn p _ hp with h4|h4;exact h3 p h4;omega⟩
 ·intro id A hl
  obtain⟨h1,h2,h3⟩:=h.owna id A hl
  exact⟨h1,Nat.lt_of_lt_of_le h2 hb.size,fun p hp=>by rcases hzn p _ hp with h4|h4;exact h3 p h4;omega⟩
 ·intro id cs hl
  exact(h.boxes id cs hl).keep hk hz (hb.block _ (h.ownb id cs hl).2.1) (LSame.refl L) rfl (by simp[PV.to_nul])
 ·intro id A hl
  obtain⟨cur,hx⟩:=h.arrs id A hl
  exact⟨cur,hx.keep hk hz (hb.block _ (h.owna id A hl).2.1) (LSame.refl L) rfl⟩
 ·intro id M hl
  obtain⟨h1,h2,h3⟩:=h.ownm id M hl
  exact⟨h1,Nat.lt_of_lt_of_le h2 hb.size,fun p hp=>h3 p (hnz _ h2 p hp)⟩
 ·intro id M hl
  obtain⟨ents,clock,hm⟩:=h.maps id M hl
  refine⟨ents,clock,hm.keep hk hz (hb.block _ (h.ownm id M hl).2.1) (fun i x y hi=> ?_) (LSame.refl L) rfl (by unfold Mp.to;split<;>rfl)⟩
  obtain⟨seen,h1,h2,h3⟩:=hm.itAt hi
  exact⟨hb.block _ (qac h1),fun p hp=>h3 p (hnz _ (qac h1) p hp)⟩
 ·intro dd hdm
  obtain⟨l,h1,hn,h2⟩:=h.defers dd hdm
  exact⟨l,h1,hn,fun D hD=>hrec _ (h2 D hD)⟩
 ·intro i v hl
  exact(h.slots i v hl).keep hk hz (LSame.refl L) (PV.toV_nul v)
theorem Inv.drew(h:Inv w0 Z0 N Z L st a w):Inv w0 Z0 N Z L st a w.drew:=
 h.move (fun _ _ h=>h) h.zt (fun _ _ h=> .inl h) h.zb ((Below.refl _ _).drew)
theorem Inv.forget (h : Inv w0 Z0 N Z L st a w) {st' : St} (hs : ∀ i v, lk st'.s i = some v -> lk st.s i = some v \/ v = .bot) (hb : ∀ i v, lk st'.b i = some v -> lk st.b i = some v) (ha : ∀ i v, lk st'.a i = some v -> lk st.a i = some v) (hm : ∀ i v, lk st'.m i = some v -> lk st.m i = some v) :
  Inv w0 Z0 N Z L st' a w:=by
 refine⟨h.zt,h.z0,h.zn,h.zb,h.below,fun i v hl=>h.ownb i v (hb i v hl),fun i v hl=>h.owna i v (ha i v hl),fun i j x y hx hy=>h.injb i j x y (hb _ _ hx) (hb _ _ hy),
  fun i j x y hx hy=>h.inja i j x y (ha _ _ hx) (ha _ _ hy),fun i j x y hx hy=>h.injx i j x y (hb _ _ hx) (ha _ _ hy),fun i v hl=>h.boxes i v (hb _ _ hl),fun i v hl=>h.arrs i v (ha _ _ hl),
  fun i v hl=>h.ownm i v (hm _ _ hl),fun i j x y hx hy=>h.injm i j x y (hm _ _ hx) (hm _ _ hy),fun i v hl=>h.maps i v (hm _ _ hl),h.oth,h.yb,h.size,h.defers,?_⟩
 intro i v hl
 rcases hs i v hl with h1|h1
 ·exact h.slots i v h1
 ·subst h1;exact TR.bot _
end
end Go.Vc
namespace Go.Vc
open Go Go.RowKit
inductive Opd where
 |t (n:Nat)
 |c (p:PV)
def Opd.ev(st:St):Opd->PV
 | .t n=>st.get n
 | .c p=>p
def vEqI:List Value->List Value->Bool
 |[],[]=>true
 | .int k a::r,.int l b::s=>(k==l&&a==b)&&vEqI r s
 |_,_=>false
theorem qad{x y:List Value}(h:vEqI x y=true):x=y:=by
 induction x generalizing y with
 | nil => cases y with
   |nil=>rfl
   |cons b s=>cases h
 | cons a r ih => cases y with
   |nil=>cases a<;>cases h
   |cons b s=>
     unfold vEqI at h
     split at h
     ·rename_i h1 _;cases h1
     ·rename_i h1 h2
      cases h1;cases h2
      simp only[zN,beq_iff_eq]at h
      obtain⟨⟨rfl,rfl⟩,h2⟩:=h
      rw[ih h2]
     ·cases h
def vEq:Value->Value->Bool
 | .bool a,.bool b=>a==b
 | .int k a,.int l b=>k==l&&a==b
 | .string a,.string b=>decide (a=b)
 | .agg a,.agg b=>vEqI a.toList b.toList
 | .nilFunc,.nilFunc| .nilIface,.nilIface| .pointer none,.pointer none| .map none,.map none=>true
 |_,_=>false
theorem qae{a b:Value}(h:vEq a b=true):a=b:=by
 unfold vEq at h
 split at h
 case h_4 a b=>rw[<- Array.toArray_toList (xs:=a),qad h]
 all_goals simp_all
def cM1:PV->Value->Bool
 | .sc u,v=>vEq u v&&scOk u
 | .nil,.slice none 0 0=>true
 |_,_=>false
def cMs:List PV->List Value->Bool
 |[],[]=>true
 |c::cs,v::vs=>cM1 c v&&cMs cs vs
 |_,_=>false
def cM:PV->Value->Bool
 | .agg cs,.agg vs=>cMs cs vs.toList
 | .agg _,_=>false
 |c,v=>cM1 c v
theorem qaf{w:World}{Z:Zone}{c:PV}{v:Value}(h:cM1 c v=true):TR w Z c v/\v.oneCell' =true:=by
 unfold cM1 at h
 split at h
 ·simp only[zN]at h
  obtain⟨h1,h2⟩:=h
  have:=qae h1;subst this
  exact⟨.sc _ h2,qa0 h2⟩
 ·exact⟨.nil,rfl⟩
 ·cases h
theorem qag{w:World}{Z:Zone} : ∀ {cs:List PV} {vs:List Value},cMs cs vs=true->cs.length=vs.length/\ ∀j c,cs[j]? =some c->TR w Z c (vs.getD j undef)/\(vs.getD j undef).oneCell' =true
 |[],[],_=>⟨rfl,by simp⟩
 | c :: cs, v :: vs, h => by
   simp only[cMs,zN]at h
   obtain⟨h1,h2⟩:=qag (w:=w) (Z:=Z) h.2
   refine⟨by simp[h1],fun j x hj=> ?_⟩
   cases j with
   |zero=>simp at hj;subst hj;exact qaf h.1
   |succ j=>simp at hj;simpa using h2 j x hj
 |[],_::_,h=>by simp[cMs]at h
 |_::_,[],h=>by simp[cMs]at h
theorem qah{w:World}{Z:Zone}{c:PV}{v:Value}(h:cM c v=true):TA w Z c v:=by
 unfold cM at h
 split at h
 ·rename_i cs vs
  obtain⟨h1,h2⟩:=qag (w:=w) (Z:=Z) h
  refine⟨vs,rfl,by simp[h1],fun j c hj=> ?_⟩
  have:=h2 j c hj
  simpa[zO,zK]using this
 ·cases h
 ·cases c<;>simp only[TA]<;>first|exact(qaf h).1|(simp[cM1]at h)
structure Sh where
 K:Nat
 n:Nat
abbrev Fr.sh (N:Fr):Sh:=⟨N.K,N.n⟩
def qai(κ:Sh):Opd->Operand->Bool
 | .t i,.tmp m=>i==κ.K+m&&decide (m<κ.n)
 | .c p,.const v=>cM p v
 | .c (.sc (.func (.func f) x y)),.func g=>f==g&&x.isEmpty&&y.isEmpty
 |_,_=>false
section
variable {w0:World} {Z0:Zone} {N:Fr} {Z:Zone} {L:Lay} {st:St} {a:Act} {w:World} {P:Program}
theorem TA.tv{c:PV}{v:Value}(h:TA w Z c v):TV w Z c v:=by
 cases c<;>simp only[TV]<;>first|exact h|(simp only[TA]at h;cases h)
theorem Inv.ev(h:Inv w0 Z0 N Z L st a w){x:Opd}{y:Operand}(hm:qai N.sh x y=true):VR w Z L (x.ev st) (a.eval y):=by
 unfold qai at hm
 split at hm
 ·rename_i i m
  simp only[zN,beq_iff_eq,decide_eq_true_eq]at hm
  obtain⟨rfl,hlt⟩:=hm
  have hlt:m<N.n:=hlt
  have hv:N.val a (N.K+m)=a.eval (.tmp m):=by
   unfold Fr.val
   rw[if_pos ⟨Nat.le_add_right _ _,Nat.add_lt_add_left hlt _⟩,show N.K+m-N.K=m from by omega]
   rfl
  rw[<- hv]
  exact h.get _
 ·exact(qah hm).tv.vr L
 ·rename_i f x y g
  simp only[zN,beq_iff_eq,Array.isEmpty_iff]at hm
  obtain⟨⟨rfl,rfl⟩,rfl⟩:=hm
  exact TR.sc _ rfl
 ·cases hm
theorem VR.sc{u:Value}{v:Value}(h:VR w Z L (.sc u) v):v=u:=by
 simp only[VR,AR,CR]at h;cases h;rfl
theorem VR.ptr{id off:Nat}{v:Value}(h:VR w Z L (.ptr id off) v):v= .pointer (some ⟨L.bx id,off,none⟩):=h
theorem VR.eptr{id i off:Nat}{v:Value}(h:VR w Z L (.eptr id i off) v):v= .pointer (some ⟨L.ab id,i*L.ae id+off,none⟩)/\i<L.al id:=h
theorem VR.agg{cs:List PV}{v:Value}(h:VR w Z L (.agg cs) v): ∃vs:Array Value,v= .agg vs/\vs.size=cs.length/\ ∀j c,cs[j]? =some c->CM w Z L c (vs.getD j undef):=h
theorem VR.cr{c:PV}{v:Value}(h:CR w Z L c v):VR w Z L c v:=by
 cases c<;>simp only[VR,AR]<;>first|exact h|(simp only[CR]at h;cases h)
theorem VR.ar{c:PV}{v:Value}(h:AR w Z L c v):VR w Z L c v:=by
 cases c<;>simp only[VR]<;>first|exact h|(simp only[AR,CR]at h;cases h)
def szIs(P:Program)(t n:Nat):Bool:=match P.info? t with|some i=>i.size==n|none=>false
def qaj(P:Program)(t:Nat)(b:Bool):Bool:=match P.underlying t with|some (.struct _)|some (.array _ _)=>b|some _=> !b|none=>false
theorem qak{t n:Nat}(h:szIs P t n=true)(w:World):(sizeOf t).run P w= .ok n w:=by
 unfold szIs at h
 split at h
 ·rename_i i hi
  simp at h
  simp[sizeOf,typeInfo,hi,h]
 ·cases h
theorem qal{t:Nat}{b:Bool}(h:qaj P t b=true)(w:World):(isAgg t).run P w= .ok b w:=by
 unfold qaj at h
 split at h
 ·rename_i f hf;subst h;simp[isAgg,run_underlying hf]
 ·rename_i f e hf;subst h;simp[isAgg,run_underlying hf]
 ·rename_i d hd h1 h2
  simp at h;subst h
  simp only[isAgg,Sem.run_bind,run_underlying h2,Result.andThen_ok]
  exact rfl
 ·cases h
structure Lies (w:World) (Z:Zone) (L:Lay) (b o:Nat) (cs:List PV) (g:Nat->Value):Prop where
 cell: ∀j,j<cs.length->w.cell? ⟨b,o+j,none⟩=some (g j)
 rel: ∀j c,cs[j]? =some c->CM w Z L c (g j)
def ldc(agg:Bool)(sz off:Nat)(cs:List PV):PV:=bif agg then .agg ((cs.drop off).take sz)else cs.getD off .bot
theorem qam {t : Nat} {agg : Bool} {sz : Nat} (hs : szIs P t sz = true) (ha : qaj P t agg = true) (h1 : agg = false -> sz = 1) {b o off : Nat} {cs : List PV} {g : Nat -> Value}
  (hl:Lies w Z L b o cs g) (hoff:off+sz<=cs.length):
  ∃v,(loadVar t ⟨b,o+off,none⟩).run P w= .ok v w/\AR w Z L (ldc agg sz off cs) v:=by
 cases agg with
 |false=>
   have:=h1 rfl;subst this
   have hlt:off<cs.length:=by omega
   refine⟨g off,?_,?_⟩
   ·simp[loadVar,qal ha,load,Sem.run,hl.cell off hlt]
   ·simp only[ldc,cond_false]
    have:=(hl.rel off cs[off] (zL hlt)).1
    rw[zK,zL hlt,Option.getD_some]
    generalize cs[off]=c at this
    cases c<;>simp only[AR]<;>first|exact this|(simp only[CR]at this;cases this)
 |true=>
   refine⟨.agg ((List.range sz).map fun j=>g (off+j)).toArray,?_,?_⟩
   ·have hld := run_loadCells (P := P) (w := w) ⟨b, o + off, none⟩ sz (fun j => g (off + j)) (fun j hj => by
     rw[Addr.add_lit,Nat.add_assoc];exact hl.cell (off+j) (by omega))
    simp[loadVar,qal ha,qak hs,hld]
   ·simp only[ldc,cond_true]
    refine⟨_,rfl,by simp;omega,fun j c hj=> ?_⟩
    rw[List.getElem?_take]at hj
    split at hj
    ·rename_i hlt
     rw[List.getElem?_drop]at hj
     have:=hl.rel _ _ hj
     simpa[zO,hlt]using this
    ·cases hj
theorem Inv.box_lies(h:Inv w0 Z0 N Z L st a w){id:Nat}{cs:List PV}(hb:lk st.b id=some cs): ∃g,Lies w Z L (L.bx id) 0 cs g:=by
 obtain⟨vs,T,h1,h2,h3⟩:=h.boxes id cs hb
 refine⟨fun j=>vs.getD j undef,fun j hj=> ?_,h3⟩
 rw[cell_of_row w _ _ _ _ _ h1]
 have hj2:j<vs.size:=Nat.lt_of_lt_of_le hj h2.1
 simp[Array.getD,hj2]
theorem qan{i j n m:Nat}(hi:i<n)(hj:j<m):i*m+j<n*m:=by
 have h1:i*m+m<=n*m:=by rw[<- Nat.succ_mul];exact Nat.mul_le_mul_right m hi
 omega
theorem XR.lies{id:Nat}{A:Arr}{cur:Array Value}(h:XR w Z L id A cur){i:Nat}(hi:i<A.xs.length):Lies w Z L (L.ab id) (i*L.ae id) (A.xs.getD i []) (fun j=>cur.getD (i*A.es+j) undef):=by
 have hx:A.xs[i]? =some A.xs[i]:=zL hi
 have hd:A.xs.getD i []=A.xs[i]:=by rw[zK,hx];rfl
 have hlen:A.xs[i].length=A.es:=h.rows _ (List.getElem_mem hi)
 refine⟨fun j hj=> ?_,fun j c hj=> ?_⟩
 ·rw[hd,hlen]at hj
  rw[cell_of_row w _ _ _ _ _ h.blk,h.ae]
  have:i*A.es+j<cur.size:=by rw[h.size];exact Nat.lt_of_lt_of_le (qan hi hj) (Nat.mul_le_mul_right _ h.fits)
  simp[Array.getD,this]
 ·rw[hd]at hj
  have:=h.cell i j _ c hx hj
  exact⟨this.1.cr L,this.2⟩
theorem qao{p:Bool}{cs:List PV}{off:Nat}{v:Value}(h:VR w Z L (.iptr p cs off) v): ∃b o g,v= .pointer (some ⟨b,o+off,none⟩)/\Lies w Z L b o cs g:=by
 simp only[VR,AR,CR]at h
 cases h with
 | iptr _ _ b o _ g h1 h2 h3 => exact ⟨b, o, g, rfl, fun j hj => (h2 j hj).1, fun j c hj => ⟨(h3 j c hj).cr L, by
   have hlt:j<cs.length:=by
    rcases Nat.lt_or_ge j cs.length with h|h
    ·exact h
    ·rw[List.getElem?_eq_none h]at hj;cases hj
   exact(h2 j hlt).2⟩⟩
end
end Go.Vc
namespace Go.Vc
open Go Go.RowKit
def ikLo:IntKind->Int
 | .i8=> -128| .i16=> -32768| .i32=> -2147483648| .i64=> -9223372036854775808|_=>0
def ikHi:IntKind->Int
 | .i8=>127| .i16=>32767| .i32=>2147483647| .i64=>9223372036854775807
 | .u8=>255| .u16=>65535| .u32=>4294967295| .u64=>18446744073709551615
theorem qap{k:IntKind}{n:Int}(h1:ikLo k<=n)(h2:n<=ikHi k):k.wrap n=n:=by
 cases k<;>simp only[ikLo,ikHi]at h1 h2<;>
  first
   |exact IntWalk.i8_in _ ⟨h1,h2⟩|exact IntWalk.i16_in _ ⟨h1,h2⟩|exact IntWalk.i32_in _ ⟨h1,h2⟩|exact IntWalk.i64_in _ ⟨h1,h2⟩
   |exact IntWalk.u8_in _ ⟨h1,h2⟩|exact IntWalk.u16_in _ ⟨h1,h2⟩|exact IntWalk.u32_in _ ⟨h1,h2⟩|exact IntWalk.u64_in _ ⟨h1,h2⟩
inductive XF where
 |ieq (neg:Bool)
 |mki (t:Nat)
 |tas (t:Nat)
 |bm (f:Nat)
def xfF:XF->PV->Option PV
 | .ieq ng,.sc .nilIface=>some (.sc (.bool (!ng)))
 | .ieq ng,.sc (.iface _ _)=>some (.sc (.bool ng))
 | .mki t,.agg []=>some (.sc (.iface t (.agg #[])))
 | .mki t,.sc (.int k n)=>some (.sc (.iface t (.int k n)))
 | .tas t,.sc (.iface u (.agg c))=>if u=t/\c= #[]then some (.tup [.agg [],.sc (.bool true)])else none
 | .bm f,.ptr id 0=>some (.bm f id)
 |_,_=>none
inductive XK where
 |pf (g:XF)
 |cap0
 |clr (es:Nat) (zero:List PV)
 |apm (es ty by_:Nat) (zero:List PV)
 |bsx (es:Nat) (zero:List PV)
 |mkx (by_:Nat) (zero:PV)
 |mx (b:Bool)
 |apx (es by_:Nat)
inductive AOp where
 |mv (x:Opd)
 |pick (c x y:Opd)
 |bld (zero:List PV) (parts:List (Nat×Nat×Opd))
 |ld (agg:Bool) (sz:Nat) (x:Opd)
 |ari (op:BinOp) (nw:Bool) (k:IntKind) (x y:Opd)
 |dvd (op:BinOp) (nn:Bool) (k:IntKind) (x y:Opd)
 |bit (op:BinOp) (k:IntKind) (x y:Opd)
 |shf (op:BinOp) (k:IntKind) (x y:Opd)
 |cmp (op:BinOp) (k:IntKind) (x y:Opd)
 |eqb (neg:Bool) (x y:Opd)
 |eqa (neg:Bool) (n:Nat) (x y:Opd)
 |not (x:Opd)
 |neg (k:IntKind) (x:Opd)
 |cnv (nw:Bool) (k:IntKind) (x:Opd)
 |len (x:Opd)
 |lenA (n:Nat) (x:Opd)
 |mn (mx:Bool) (x y:Opd)
 |fa (off:Nat) (x:Opd)
 |fl (agg:Bool) (off sz:Nat) (x:Opd)
 |ixs (es:Nat) (x i:Opd)
 |ixa (n es:Nat) (x i:Opd)
 |ixv (agg:Bool) (n es:Nat) (x i:Opd)
 |slc (es:Nat) (x:Opd) (lo hi:Option Opd)
 |ext (x:Opd) (i:Nat)
 |nck (x:Opd)
 |alc (zero:List PV)
 |box (x:Opd)
 |bsl (es ty:Nat) (zero:List PV) (n:Nat) (parts:List (Nat×Opd))
 |mks (es ty by_:Nat) (zero:List PV) (l c:Opd)
 |sto (sz:Nat) (x v:Opd)
 |app (es ty by_:Nat) (s x:Opd)
 |cpy (es:Nat) (d s:Opd)
 |cal (f:Nat) (args:List Opd)
 |mkf (f:Nat) (caps:List Opd)
 |mlk (kd:KD) (ok:Bool) (zero:PV) (x k:Opd)
 |ent (x:Opd)
 |mln (x:Opd)
 |mkm (kd:KD)
 |mup (kd:KD) (x k v:Opd)
 |men (kd:KD) (zero:PV) (x k:Opd)
 |est (x s v:Opd)
 |rng (x:Opd)
 |nxt (x:Opd)
 |clm (f:Nat) (args:List Opd)
 |clv (x:Opd) (args:List Opd)
 |niq (neg:Bool) (x:Opd)
 |xo (k:XK) (args:List Opd)
 |clx (f:Nat) (args:List Opd)
 |pan (x:Opd)
 |bad
def ariF(op:BinOp)(a b:Int):Int:=match op with| .add=>a+b| .sub=>a-b|_=>a*b
def bitF(op:BinOp)(k:IntKind)(a b:Int):Int:=
 match op with
 | .and=>k.wrap (BitVec.ofInt k.bits a&&&BitVec.ofInt k.bits b).toNat
 | .or=>k.wrap (BitVec.ofInt k.bits a|||BitVec.ofInt k.bits b).toNat
 | .xor=>k.wrap (BitVec.ofInt k.bits a^^^BitVec.ofInt k.bits b).toNat
 |_=>k.wrap (BitVec.ofInt k.bits a&&& ~~~BitVec.ofInt k.bits b).toNat
def shfF(op:BinOp)(k:IntKind)(a b:Int):Int:=
 match op with
 | .shl=>k.wrap (a*2^(min b.toNat k.bits))
 |_=>a.fdiv (2^(min b.toNat k.bits))
def cmpF(op:BinOp)(a b:Int):Bool:=
 match op with
 | .eql=>a==b| .neq=>a !=b| .lss=>decide (a<b)| .leq=>decide (a<=b)| .gtr=>decide (b<a)|_=>decide (b<=a)
def dvdN(op:BinOp)(a b:Int):Int:=match op with| .quo=>a/b|_=>a%b
def dvdW(op:BinOp)(k:IntKind)(a b:Int):Int:=match op with| .quo=>k.wrap (a.tdiv b)|_=>a.tmod b
def qaq:BinOp->Bool
 | .eql| .neq| .lss| .leq| .gtr| .geq=>true
 |_=>false
def vc2(x y:PV)(f:IntKind->Int->IntKind->Int->Prop×PV):Prop×PV:=
 match x,y with
 | .sc (.int k a),.sc (.int l b)=>f k a l b
 |_,_=>(False,.bot)
def vc1(x:PV)(f:IntKind->Int->Prop×PV):Prop×PV:=
 match x with
 | .sc (.int k a)=>f k a
 |_=>(False,.bot)
def qar:PV->Bool
 | .sc _| .nil| .sl .. | .iptr .. | .view .. | .ptr .. | .eptr .. | .clo .. | .mp _| .bv .. | .yl _| .bm .. =>true
 |_=>false
def cellsOf:PV->List PV
 | .agg cs=>cs
 |c=>[c]
def qas:PV->Bool
 | .agg _=>true
 |c=>qar c
def spl(cs:List PV)(off:Nat)(new:List PV):List PV:=cs.take off++new++cs.drop (off+new.length)
def bldF(st:St):List (Nat×Nat×Opd)->List PV->Prop×List PV
 |[],cs=>(True,cs)
 |(off,sz,x)::r,cs=>
   let v:=x.ev st
   let q:=bldF st r (spl cs off (cellsOf v))
   (qas v=true/\(cellsOf v).length=sz/\off+sz<=cs.length/\q.1,q.2)
def qat:List PV->List PV->Option Bool
 |[],[]=>some true
 | .sc (.int k a)::r,.sc (.int l b)::s=>if k=l then(qat r s).map ((a==b)&& ·)else none
 |_,_=>none
def slcB(st:St)(n:Nat):Option Opd->Option Opd->Option (Int×Int)
 |none,none=>some (0,n)
 |some l,none=>match l.ev st with| .sc (.int _ a)=>some (a,n)|_=>none
 |none,some h=>match h.ev st with| .sc (.int _ b)=>some (0,b)|_=>none
 |some l,some h=>match l.ev st,h.ev st with| .sc (.int _ a),.sc (.int _ b)=>some (a,b)|_,_=>none
def mget:List (Value×PV)->Value->Option PV
 |[],_=>none
 |(k,v)::r,x=>if vEq k x=true then some v else mget r x
def mput:List (Value×PV)->Value->PV->List (Value×PV)
 |[],x,v=>[(x,v)]
 |(k,u)::r,x,v=>if vEq k x=true then(k,v)::r else(k,u)::mput r x v
def keyL:List PV->Option (List Value)
 |[]=>some []
 | .sc (.int .i64 n)::r=>(keyL r).map (.int .i64 n:: ·)
 |_=>none
def keyV:PV->Option Value
 | .sc v=>some v
 | .agg cs=>(keyL cs).map fun l=> .agg l.toArray
 |_=>none
def qau:List PV->Option (List Nat)
 |[]=>some []
 | .ptr i 0::r=>(qau r).map (i:: ·)
 |_::_=>none
def aev(st:St):AOp->Prop×PV
 | .mv x=>(True,x.ev st)
 | .pick c x y=>match c.ev st with| .sc (.bool true)=>(True,x.ev st)| .sc (.bool false)=>(True,y.ev st)|_=>(False,.bot)
 | .bld zero parts=>let q:=bldF st parts zero;(q.1,.agg q.2)
 | .ld agg sz x => match x.ev st with
   | .ptr id off=>match lk st.b id with|some cs=>(off+sz<=cs.length,ldc agg sz off cs)|none=>(False,.bot)
   | .eptr id i off=>match lk st.a id with|some A=>(i<A.xs.length/\off+sz<=A.es,ldc agg sz off (A.xs.getD i []))|none=>(False,.bot)
   | .iptr _ cs off=>(off+sz<=cs.length,ldc agg sz off cs)
   |_=>(False,.bot)
 | .ari op nw k x y=>vc2 (x.ev st) (y.ev st) fun k1 a k2 b=>
   bif nw then((k1=k/\k2=k)/\ikLo k<=ariF op a b/\ariF op a b<=ikHi k,.sc (.int k (ariF op a b)))else(k1=k/\k2=k,.sc (.int k (k.wrap (ariF op a b))))
 | .dvd op nn k x y=>vc2 (x.ev st) (y.ev st) fun k1 a k2 b=>
   bif nn then((k1=k/\k2=k)/\0<=a/\a<=ikHi k/\0<b,.sc (.int k (dvdN op a b)))
   else((k1=k/\k2=k)/\b≠0,.sc (.int k (dvdW op k a b)))
 | .bit op k x y=>vc2 (x.ev st) (y.ev st) fun k1 a k2 b=>(k1=k/\k2=k,.sc (.int k (bitF op k a b)))
 | .shf op k x y=>vc2 (x.ev st) (y.ev st) fun k1 a _ b=>(k1=k/\0<=b,.sc (.int k (shfF op k a b)))
 | .cmp op k x y=>vc2 (x.ev st) (y.ev st) fun k1 a k2 b=>(k1=k/\k2=k,.sc (.bool (cmpF op a b)))
 | .eqb neg x y=>match x.ev st,y.ev st with| .sc (.bool a),.sc (.bool b)=>(True,.sc (.bool (bif neg then a !=b else a==b)))|_,_=>(False,.bot)
 | .eqa neg n x y => match x.ev st, y.ev st with
   | .agg cs,.agg ds=>match qat cs ds with|some r=>(cs.length=n/\ds.length=n,.sc (.bool (bif neg then !r else r)))|none=>(False,.bot)
   |_,_=>(False,.bot)
 | .not x=>match x.ev st with| .sc (.bool b)=>(True,.sc (.bool (!b)))|_=>(False,.bot)
 | .neg k x=>vc1 (x.ev st) fun k1 a=>(k1=k,.sc (.int k (k.wrap (0-a))))
 | .cnv nw k x=>vc1 (x.ev st) fun _ a=>bif nw then(ikLo k<=a/\a<=ikHi k,.sc (.int k a))else(True,.sc (.int k (k.wrap a)))
 | .len x => match x.ev st with
   | .view _ _ n=>(True,.int n)
   | .sl _ _ xs=>(True,.int xs.length)
   | .nil=>(True,.int 0)
   | .bv _ _ n=>(True,.int n)
   |_=>(False,.bot)
 | .lenA n _=>(True,.int n)
 | .mn mx x y=>vc2 (x.ev st) (y.ev st) fun k1 a k2 b=>(k1=k2,.sc (.int k1 (bif mx then max a b else min a b)))
 | .fa off x => match x.ev st with
   | .ptr id o=>(True,.ptr id (o+off))
   | .eptr id i o=>(True,.eptr id i (o+off))
   | .iptr p cs o=>(True,.iptr p cs (o+off))
   |_=>(False,.bot)
 | .fl agg off sz x=>match x.ev st with| .agg cs=>(off+sz<=cs.length,ldc agg sz off cs)|_=>(False,.bot)
 | .ixs es x i => match x.ev st, i.ev st with
   | .view id lo n,.sc (.int _ j)=>match lk st.a id with|some A=>(A.es=es/\0<=j/\j<n,.eptr id (lo+j.toNat) 0)|none=>(False,.bot)
   | .sl p es' xs,.sc (.int _ j)=>(es' =es/\0<=j/\j<xs.length,.iptr p (xs.getD j.toNat []) 0)
   | .bv id es' n,.sc (.int _ j)=>(es' =es/\0<=j/\j<n,.ptr id (j.toNat*es))
   |_,_=>(False,.bot)
 | .ixa n es x i => match x.ev st, i.ev st with
   | .ptr id o,.sc (.int _ j)=>(0<=j/\j<n,.ptr id (o+j.toNat*es))
   | .eptr id k o,.sc (.int _ j)=>(0<=j/\j<n,.eptr id k (o+j.toNat*es))
   | .iptr p cs o,.sc (.int _ j)=>(0<=j/\j<n,.iptr p cs (o+j.toNat*es))
   |_,_=>(False,.bot)
 | .ixv agg n es x i => match x.ev st, i.ev st with
   | .agg cs,.sc (.int _ j)=>(0<=j/\j<n/\j.toNat*es+es<=cs.length,ldc agg es (j.toNat*es) cs)
   |_,_=>(False,.bot)
 | .slc es x lo hi => match x.ev st with
   | .view id l n => match lk st.a id, slcB st n lo hi with
     |some A,some (p,q)=>(A.es=es/\0<=p/\p<=q/\q<=n,.view id (l+p.toNat) (q.toNat-p.toNat))
     |_,_=>(False,.bot)
   | .sl pm es' xs => match slcB st xs.length lo hi with
     |some (p,q)=>(es' =es/\0<=p/\p<=q/\q<=xs.length,.sl pm es ((xs.take q.toNat).drop p.toNat))
     |none=>(False,.bot)
   | .nil => match slcB st 0 lo hi with
     |some (p,q)=>(p=0/\q=0,.nil)
     |none=>(False,.bot)
   |_=>(False,.bot)
 | .ext x i=>match x.ev st with| .tup cs=>(i<cs.length,cs.getD i .bot)|_=>(False,.bot)
 | .nck x => match x.ev st with
   | .ptr id o=>(True,.ptr id o)
   | .eptr id i o=>(True,.eptr id i o)
   | .iptr p cs o=>(True,.iptr p cs o)
   |_=>(False,.bot)
 | .mkf f caps=>match qau (caps.map (·.ev st))with|some []=>(True,.sc (.func (.func f) #[] #[]))|some ids=>(True,.clo f ids)|none=>(False,.bot)
 | .mlk kd ok zero x k => match x.ev st, keyV (k.ev st) with
   | .mp id, some kv => match lk st.m id with
     |some M=>(M.kd=kd/\kd.has kv=true,bif ok then(match mget M.es kv with|some v=> .tup [v,.sc (.bool true)]|none=> .tup [zero,.sc (.bool false)])else(mget M.es kv).getD zero)
     |none=>(False,.bot)
   |_,_=>(False,.bot)
 | .ent x => match x.ev st with
   | .itr id it => match lk st.m id with
     |some M=>match M.it with|some (.run it' _ (some (k,v)))=>(it' =it/\M.kd.sc=true,.tup [.sc k,v])|_=>(False,.bot)
     |none=>(False,.bot)
   |_=>(False,.bot)
 | .mln x => match x.ev st with
   | .mp id=>match lk st.m id with|some M=>(True,.int M.es.length)|none=>(False,.bot)
   |_=>(False,.bot)
 |_=>(False,.bot)
def qav(κ:Sh):List (Nat×Nat×Opd)->List (Nat×Operand)->(Nat->Option (Nat×Nat))->Bool
 |[],[],_=>true
 |(off,sz,x)::r,(i,y)::s,f=>(f i==some (off,sz))&&qai κ x y&&qav κ r s f
 |_,_,_=>false
def qaw(κ:Sh):Option Opd->Option Operand->Bool
 |none,none=>true
 |some x,some y=>qai κ x y
 |_,_=>false
def qax (P : Program) (j : Nat) (f : Field) : Bool := f.offset == j && f.name != "_" && (match P.underlying f.type with | some (.int _) => true | _ => false)
def qay(P:Program):Nat->List Field->Bool
 |_,[]=>true
 |j,f::r=>qax P j f&&qay P (j+1) r
def qaz(P:Program)(t:Nat)(zero:List PV):Bool:=match P.info? t with|some i=>(match i.zero with|some z=>cMs zero z.cells.toList|none=>false)|none=>false
def qaA(κ:Sh):List Opd->List Operand->Bool
 |[],[]=>true
 |x::r,y::s=>qai κ x y&&qaA κ r s
 |_,_=>false
def qaB(P:Program):Nat->List Field->Bool
 |_,[]=>true
 | j, f :: r => (f.offset == j && f.name != "_" && (match P.underlying f.type with | some (.int .i64) => true | _ => false)) && qaB P (j + 1) r
def qaC(P:Program)(t:Nat)(kd:KD):Bool:=match P.underlying t,kd with|some (.int q),.int q' =>q==q' |some .string,.str|some .bool,.bol=>true|some (.struct fs),.st n=>fs.size==n&& !P.stoodInHeld t&&qaB P 0 fs.toList|_,_=>false
def okQ(P:Program)(κ:Sh):AOp->Op->Bool
 | .mv x,.move y| .mv x,.assign y=>qai κ x y
 | .pick c x y,.pick c' x' y' =>qai κ c c' &&qai κ x x' &&qai κ y y'
 | .bld zero parts, .build t ps => qaz P t zero && (match P.underlying t with
   |some (.struct fs)=>(match fs.toList.mapM (fun f=>(P.info? f.type).map fun i=>(f.offset,i.size))with|some places=>qav κ parts ps.toList (places.toArray[·]?)|none=>false)
   |some (.array _ e)=>(match P.info? e with|some ti=>qav κ parts ps.toList (fun i=>some (i*ti.size,ti.size))|none=>false)
   |_=>false)
 | .ld agg sz x,.load t y=>szIs P t sz&&qaj P t agg&&(agg||sz==1)&&qai κ x y
 | .ari op _ _ x y,.binOp op' _ x' y' _=>op==op' &&(op== .add||op== .sub||op== .mul)&&qai κ x x' &&qai κ y y'
 | .dvd op _ _ x y,.binOp op' _ x' y' _=>op==op' &&(op== .quo||op== .rem)&&qai κ x x' &&qai κ y y'
 | .bit op _ x y,.binOp op' _ x' y' _=>op==op' &&(op== .and||op== .or||op== .xor||op== .andNot)&&qai κ x x' &&qai κ y y'
 | .shf op _ x y,.binOp op' _ x' y' _=>op==op' &&(op== .shl||op== .shr)&&qai κ x x' &&qai κ y y'
 | .cmp op _ x y,.binOp op' _ x' y' _=>op==op' &&qaq op&&qai κ x x' &&qai κ y y'
 | .eqa neg n x y, .binOp op t x' y' _ => (op == (bif neg then .neq else .eql)) && !P.eqGuardType P.depth t && !P.stoodInHeld t &&
   (match P.underlying t with|some (.struct fs)=>fs.size==n&&qay P 0 fs.toList|some (.array m e)=>m==n&&(P.cellsOf e==1&&match P.underlying e with|some (.int _)=>true|_=>false)|_=>false)&&qai κ x x' &&qai κ y y'
 | .not x,.unOp .not _ y=>qai κ x y
 | .cnv _ k x,.convert s d y=>(P.underlying s).isSome&&(match P.underlying d with|some (.int k')=>k==k' |_=>false)&&qai κ x y
 | .len x,.call { callee:= .builtin .len,args,argTypes } =>(match args.toList,argTypes.toList with|[y],[t]=>qai κ x y&&(match P.underlying t with|some (.slice _)=>true|_=>false)|_,_=>false)
 | .mn mx x y,.call { callee:= .builtin b,args,.. } =>(b==(bif mx then .max else .min))&&(match args.toList with|[x',y']=>qai κ x x' &&qai κ y y' |_=>false)
 | .fa off x, .fieldAddr s y f => (match P.underlying s with
   |some (.struct fs)=>(match fs[f]? with|some fd=>fd.offset==off&&(match P.info? fd.type with|some ti=>ti.size !=0|none=>false)|none=>false)
   |_=>false)&&qai κ x y
 | .fl agg off sz x, .field s y f => (match P.underlying s with
   |some (.struct fs)=>(match fs[f]? with|some fd=>fd.offset==off&&szIs P fd.type sz&&qaj P fd.type agg|none=>false)
   |_=>false)&&(agg||sz==1)&&qai κ x y
 | .ixs es x i,.indexAddr t y j=>(match P.underlying t with|some (.slice e)=>szIs P e es|_=>false)&&qai κ x y&&qai κ i j
 | .ixa n es x i,.indexAddr t y j=>(match P.underlying t with|some (.array m e)=>n==m&&szIs P e es|_=>false)&&qai κ x y&&qai κ i j
 | .slc es x lo hi,.slice t y lo' hi' none=>(match P.underlying t with|some (.slice e)=>szIs P e es|_=>false)&&qai κ x y&&qaw κ lo lo' &&qaw κ hi hi'
 | .ext x i,.extract y j=>qai κ x y&&i==j
 | .nck x,.nilCheck y=>qai κ x y
 | .mkf f caps,.makeFunc (.func g) first cs=>f==g&&first.isEmpty&&qaA κ caps cs.toList
 |_,_=>false
end Go.Vc
namespace Go.Vc
open Go Go.RowKit
section
variable {w0:World} {Z0:Zone} {N:Fr} {Z:Zone} {L:Lay} {st:St} {a:Act} {w:World} {P:Program}
def qaD(P:Program)(w:World)(Z:Zone)(L:Lay)(a:Act)(op:Op)(c:PV):Prop:=
 ∃v,(∀(dst:Option Tmp) (ty:TypeId) (pos:String) (after:Array Edge) (g:Option (Nat×Bool)),(execOp a.eval ⟨dst,op,ty,pos,after,g⟩).run P w= .ok (.value v) w)/\VR w Z L c v
theorem Inv.evInt(h:Inv w0 Z0 N Z L st a w){x:Opd}{y:Operand}(hm:qai N.sh x y=true){u:Value}(he:x.ev st= .sc u):a.eval y=u:=by
 have:=h.ev hm;rw[he]at this;exact this.sc
theorem qaE{x y:PV}{f:IntKind->Int->IntKind->Int->Prop×PV}(h:(vc2 x y f).1): ∃k a l b,x= .sc (.int k a)/\y= .sc (.int l b)/\(f k a l b).1/\vc2 x y f=f k a l b:=by
 unfold vc2 at h ⊢
 split at h
 ·exact⟨_,_,_,_,rfl,rfl,h,rfl⟩
 ·exact h.elim
theorem qaF{x:PV}{f:IntKind->Int->Prop×PV}(h:(vc1 x f).1): ∃k a,x= .sc (.int k a)/\(f k a).1/\vc1 x f=f k a:=by
 unfold vc1 at h ⊢
 split at h
 ·exact⟨_,_,rfl,h,rfl⟩
 ·exact h.elim
theorem qaG{k:IntKind}{n:Int} :VR w Z L (.sc (.int k n)) (.int k n):=TR.sc _ rfl
theorem qaH{b:Bool} :VR w Z L (.sc (.bool b)) (.bool b):=TR.sc _ rfl
theorem qaI{op:BinOp}{t:TypeId}{x y:Operand}{k l:IntKind}{p q:Int} :(eqGuard op t x y (.int k p) (.int l q)).run P w= .ok () w:=by cases op<;>rfl
theorem s_mv(h:Inv w0 Z0 N Z L st a w){x:Opd}{op:Op}(hm:okQ P N.sh (.mv x) op=true)(_:(aev st (.mv x)).1):qaD P w Z L a op (aev st (.mv x)).2:=by
 cases op<;>simp only[okQ]at hm<;>first|(exact absurd hm zQ)|exact⟨_,fun _ _ _ _ _=>by simp[execOp],h.ev hm⟩
theorem qaK(h:Inv w0 Z0 N Z L st a w){c x y:Opd}{op:Op}(hm:okQ P N.sh (.pick c x y) op=true)(hv:(aev st (.pick c x y)).1):qaD P w Z L a op (aev st (.pick c x y)).2:=by
 cases op<;>simp only[okQ,zN]at hm<;>first|(exact absurd hm zQ)|skip
 rename_i c' x' y'
 obtain⟨⟨hc,hx⟩,hy⟩:=hm
 simp only[aev]at hv ⊢
 split at hv
 ·rename_i e
  have:=h.evInt hc e
  exact⟨a.eval x',fun _ _ _ _ _=>by simp[execOp,this,asBool],h.ev hx⟩
 ·rename_i e
  have:=h.evInt hc e
  exact⟨a.eval y',fun _ _ _ _ _=>by simp[execOp,this,asBool],h.ev hy⟩
 ·exact hv.elim
theorem qaL {op : BinOp} {t : TypeId} {k : IntKind} {p q : Int} :
  (binOp op t (.int k p) (.int k q)).run P w=(match op with
   | .shl| .shr=>Op.shift op k p k q
   | .add| .sub| .mul=>Op.intArith op k p q
   | .quo| .rem=>Op.intDiv op k p q
   | .and| .or| .xor| .andNot=>Op.intBits op k p q
   |_=>Op.intCmp op p q:Sem Value).run P w:=by
 cases op<;>simp[binOp]
theorem qaM (h : Inv w0 Z0 N Z L st a w) {op' : BinOp} {nw : Bool} {k : IntKind} {x y : Opd} {op : Op} (hm : okQ P N.sh (.ari op' nw k x y) op = true) (hv : (aev st (.ari op' nw k x y)).1) :
  qaD P w Z L a op (aev st (.ari op' nw k x y)).2:=by
 cases op<;>simp only[okQ,zN,Bool.or_eq_true,beq_iff_eq]at hm<;>first|(exact absurd hm zQ)|skip
 rename_i op2 t x' y' t2
 obtain⟨⟨⟨rfl,hop⟩,hx⟩,hy⟩:=hm
 simp only[aev]at hv ⊢
 obtain⟨k1,p,k2,q,e1,e2,hv,e3⟩:=qaE hv
 rw[e3]
 have h1:=h.evInt hx e1
 have h2:=h.evInt hy e2
 have key: ∀k1',k1=k1' ->k2=k1' ->qaD P w Z L a (.binOp op' t x' y' t2) (.sc (.int k1' (k1'.wrap (ariF op' p q)))):=by
  rintro _ rfl rfl
  refine⟨_,fun _ _ _ _ _=> ?_,qaG⟩
  simp only[execOp,h1,h2,Sem.run_bind,qaI,Result.andThen_ok,qaL]
  rcases hop with(rfl|rfl)|rfl<;>simp[Op.intArith,ariF]
 cases nw with
 |false=>exact key k hv.1 hv.2
 |true=>
   have:=key k hv.1.1 hv.1.2
   rw[qap hv.2.1 hv.2.2]at this
   exact this
theorem qaN (h : Inv w0 Z0 N Z L st a w) {op' : BinOp} {nn : Bool} {k : IntKind} {x y : Opd} {op : Op} (hm : okQ P N.sh (.dvd op' nn k x y) op = true) (hv : (aev st (.dvd op' nn k x y)).1) :
  qaD P w Z L a op (aev st (.dvd op' nn k x y)).2:=by
 cases op<;>simp only[okQ,zN,Bool.or_eq_true,beq_iff_eq]at hm<;>first|(exact absurd hm zQ)|skip
 rename_i op2 t x' y' t2
 obtain⟨⟨⟨rfl,hop⟩,hx⟩,hy⟩:=hm
 simp only[aev]at hv ⊢
 obtain⟨k1,p,k2,q,e1,e2,hv,e3⟩:=qaE hv
 rw[e3]
 have h1:=h.evInt hx e1
 have h2:=h.evInt hy e2
 have key: ∀k1',k1=k1' ->k2=k1' ->q≠0->qaD P w Z L a (.binOp op' t x' y' t2) (.sc (.int k1' (dvdW op' k1' p q))):=by
  rintro _ rfl rfl hq
  refine⟨_,fun _ _ _ _ _=> ?_,qaG⟩
  simp only[execOp,h1,h2,Sem.run_bind,qaI,Result.andThen_ok,qaL]
  rcases hop with rfl|rfl<;>simp[Op.intDiv,hq,dvdW]
 cases nn with
 |false=>exact key k hv.1.1 hv.1.2 hv.2
 |true=>
   have h3:0<=p:=hv.2.1
   have h4:p<=ikHi k:=hv.2.2.1
   have h5:0<q:=hv.2.2.2
   have:=key k hv.1.1 hv.1.2 (by omega)
   rcases hop with rfl|rfl
   ·have hb:=IntWalk.tdiv_le p q h3 (by omega)
    have hlo:ikLo k<=0:=by cases k<;>simp[ikLo]
    rw[show dvdW .quo k p q=dvdN .quo p q from by show k.wrap (p.tdiv q)=p/q;rw[Int.tdiv_eq_ediv_of_nonneg h3];exact qap (by omega) (by omega)]at this
    exact this
   ·rw[show dvdW .rem k p q=dvdN .rem p q from Int.tmod_eq_emod_of_nonneg h3]at this
    exact this
theorem qaO (h : Inv w0 Z0 N Z L st a w) {op' : BinOp} {k : IntKind} {x y : Opd} {op : Op} (hm : okQ P N.sh (.bit op' k x y) op = true) (hv : (aev st (.bit op' k x y)).1) :
  qaD P w Z L a op (aev st (.bit op' k x y)).2:=by
 cases op<;>simp only[okQ,zN,Bool.or_eq_true,beq_iff_eq]at hm<;>first|(exact absurd hm zQ)|skip
 rename_i op2 t x' y' t2
 obtain⟨⟨⟨rfl,hop⟩,hx⟩,hy⟩:=hm
 simp only[aev]at hv ⊢
 obtain⟨k1,p,k2,q,e1,e2,hv,e3⟩:=qaE hv
 rw[e3]
 have h1:=h.evInt hx e1
 have h2:=h.evInt hy e2
 obtain⟨rfl,rfl⟩:=hv
 refine⟨_,fun _ _ _ _ _=> ?_,qaG⟩
 simp only[execOp,h1,h2,Sem.run_bind,qaI,Result.andThen_ok,qaL]
 rcases hop with((rfl|rfl)|rfl)|rfl<;>simp[Op.intBits,bitF]
theorem qaP (h : Inv w0 Z0 N Z L st a w) {op' : BinOp} {k : IntKind} {x y : Opd} {op : Op} (hm : okQ P N.sh (.shf op' k x y) op = true) (hv : (aev st (.shf op' k x y)).1) :
  qaD P w Z L a op (aev st (.shf op' k x y)).2:=by
 cases op<;>simp only[okQ,zN,Bool.or_eq_true,beq_iff_eq]at hm<;>first|(exact absurd hm zQ)|skip
 rename_i op2 t x' y' t2
 obtain⟨⟨⟨rfl,hop⟩,hx⟩,hy⟩:=hm
 simp only[aev]at hv ⊢
 obtain⟨k1,p,k2,q,e1,e2,hv,e3⟩:=qaE hv
 rw[e3]
 have h1:=h.evInt hx e1
 have h2:=h.evInt hy e2
 obtain⟨rfl,hq⟩:=hv
 have hq' : ¬q<0:=by omega
 refine⟨_,fun _ _ _ _ _=> ?_,qaG⟩
 simp only[execOp,h1,h2,Sem.run_bind,qaI,Result.andThen_ok]
 rcases hop with rfl|rfl<;>simp[binOp,Op.shift,shfF,hq']
theorem qaQ (h : Inv w0 Z0 N Z L st a w) {op' : BinOp} {k : IntKind} {x y : Opd} {op : Op} (hm : okQ P N.sh (.cmp op' k x y) op = true) (hv : (aev st (.cmp op' k x y)).1) :
  qaD P w Z L a op (aev st (.cmp op' k x y)).2:=by
 cases op<;>simp only[okQ,zN,beq_iff_eq]at hm<;>first|(exact absurd hm zQ)|skip
 rename_i op2 t x' y' t2
 obtain⟨⟨⟨rfl,hop⟩,hx⟩,hy⟩:=hm
 simp only[aev]at hv ⊢
 obtain⟨k1,p,k2,q,e1,e2,hv,e3⟩:=qaE hv
 rw[e3]
 have h1:=h.evInt hx e1
 have h2:=h.evInt hy e2
 obtain⟨rfl,rfl⟩:=hv
 refine⟨_,fun _ _ _ _ _=> ?_,qaH⟩
 simp only[execOp,h1,h2,Sem.run_bind,qaI,Result.andThen_ok,qaL]
 cases op' <;>simp[qaq]at hop<;>simp[Op.intCmp,cmpF]
theorem qaR (h : Inv w0 Z0 N Z L st a w) {ng : Bool} {x y : Opd} {op : Op} (hm : okQ P N.sh (.eqb ng x y) op = true) (hv : (aev st (.eqb ng x y)).1) :
  qaD P w Z L a op (aev st (.eqb ng x y)).2:=Bool.noConfusion (show false=true from hm)
theorem qaS(h:Inv w0 Z0 N Z L st a w){x:Opd}{op:Op}(hm:okQ P N.sh (.not x) op=true)(hv:(aev st (.not x)).1):qaD P w Z L a op (aev st (.not x)).2:=by
 unfold okQ at hm
 split at hm<;>(first|(rename_i heq;cases heq;done)|skip)
 all_goals (try(rename_i heq;cases heq))
 ·simp only[aev]at hv ⊢
  split at hv
  ·rename_i e
   have h1:=h.evInt hm e
   exact⟨_,fun _ _ _ _ _=>by simp[execOp,h1,Op.unary],qaH⟩
  ·exact hv.elim
 ·cases hm
theorem qaT(h:Inv w0 Z0 N Z L st a w){k:IntKind}{x:Opd}{op:Op}(hm:okQ P N.sh (.neg k x) op=true)(hv:(aev st (.neg k x)).1):qaD P w Z L a op (aev st (.neg k x)).2:=Bool.noConfusion (show false=true from hm)
theorem qaU(h:Inv w0 Z0 N Z L st a w){nw:Bool}{k:IntKind}{x:Opd}{op:Op}(hm:okQ P N.sh (.cnv nw k x) op=true)(hv:(aev st (.cnv nw k x)).1):qaD P w Z L a op (aev st (.cnv nw k x)).2:=by
 cases op<;>simp only[okQ,zN]at hm<;>first|(exact absurd hm zQ)|skip
 rename_i s d y
 obtain⟨⟨hs,hd⟩,hx⟩:=hm
 simp only[aev]at hv ⊢
 obtain⟨k1,p,e1,hv,e3⟩:=qaF hv
 rw[e3]
 have h1:=h.evInt hx e1
 obtain⟨ds,hs⟩:=Option.isSome_iff_exists.1 hs
 split at hd
 ·rename_i k' hk
  simp at hd;subst hd
  have key:qaD P w Z L a (.convert s d y) (.sc (.int k (k.wrap p))):=⟨_,fun _ _ _ _ _=>by simp[execOp,h1,convert,run_underlying hs,run_underlying hk,Conv.intToInt],qaG⟩
  cases nw with
  |false=>exact key
  |true=>rw[qap hv.1 hv.2]at key;exact key
 ·cases hd
theorem qaV{α:Type}{l:Array α}{y:α}(h:l.toList=[y]):l= #[y]:=by rw[<- Array.toArray_toList (xs:=l),h]
theorem qaW{α:Type}{l:Array α}{x y:α}(h:l.toList=[x,y]):l= #[x,y]:=by rw[<- Array.toArray_toList (xs:=l),h]
theorem qaX(h:Inv w0 Z0 N Z L st a w){x:Opd}{op:Op}(hm:okQ P N.sh (.len x) op=true)(hv:(aev st (.len x)).1):qaD P w Z L a op (aev st (.len x)).2:=by
 unfold okQ at hm
 split at hm<;>(first|(rename_i heq;cases heq;done)|skip)
 all_goals (try(rename_i heq;cases heq))
 ·rename_i args tys heq
  cases heq
  split at hm
  ·rename_i y t e1 e2
   simp only[zN]at hm
   obtain⟨hx,ht⟩:=hm
   have e1:=qaV e1;have e2:=qaV e2;cases e1;cases e2
   split at ht
   ·rename_i e he
    have key: ∀(ad:Option Addr) (n c:Nat),a.eval y= .slice ad n c->qaD P w Z L a (.call ⟨.builtin .len,#[y],#[t]⟩) (.int n):=fun ad n c hy=>
     ⟨_,fun _ _ _ _ _=>by simp[execOp,resolve,invoke,builtin,hy,Builtin.len_,run_underlying he,goInt],qaG⟩
    have hr:=h.ev hx
    simp only[aev]at hv ⊢
    split at hv
    ·rename_i id lo n e3
     rw[e3]at hr
     obtain⟨ad,c,hy,_⟩:=hr
     exact key _ _ _ hy
    ·rename_i p es xs e3
     rw[e3]at hr
     simp only[VR,AR,CR]at hr
     generalize hy:a.eval y=u at hr
     cases hr
     ·exact key _ _ _ hy
     ·exact key _ _ _ hy
    ·rename_i e3
     rw[e3]at hr
     simp only[VR,AR,CR]at hr
     generalize hy:a.eval y=u at hr
     cases hr
     exact key _ _ _ hy
    ·rename_i id es n e3
     rw[e3]at hr
     simp only[VR,AR,CR]at hr
     obtain⟨c,hr,_⟩:=hr
     exact key _ _ _ hr
    ·exact hv.elim
   ·cases ht
  ·cases hm
 ·cases hm
theorem qaY(h:Inv w0 Z0 N Z L st a w){n:Nat}{x:Opd}{op:Op}(hm:okQ P N.sh (.lenA n x) op=true)(_:(aev st (.lenA n x)).1):qaD P w Z L a op (aev st (.lenA n x)).2:=Bool.noConfusion (show false=true from hm)
theorem s_mn(h:Inv w0 Z0 N Z L st a w){mx:Bool}{x y:Opd}{op:Op}(hm:okQ P N.sh (.mn mx x y) op=true)(hv:(aev st (.mn mx x y)).1):qaD P w Z L a op (aev st (.mn mx x y)).2:=by
 unfold okQ at hm
 split at hm<;>(first|(rename_i heq;cases heq;done)|skip)
 all_goals (try(rename_i heq;cases heq))
 ·rename_i b args tys heq
  cases heq
  simp only[zN,beq_iff_eq]at hm
  obtain⟨hb,hm⟩:=hm
  split at hm
  ·rename_i x' y' e1
   simp only[zN]at hm
   obtain⟨hx,hy⟩:=hm
   have e1:=qaW e1;cases e1
   simp only[aev]at hv ⊢
   obtain⟨k1,p,k2,q,e1,e2,hv,e3⟩:=qaE hv
   rw[e3]
   have h1:=h.evInt hx e1
   have h2:=h.evInt hy e2
   cases hv
   refine⟨_,fun _ _ _ _ _=> ?_,qaG⟩
   cases mx<;>simp only[cond_true,cond_false]at hb<;>subst hb
   ·simp[execOp,resolve,invoke,builtin,h1,h2,Builtin.min_,Builtin.min2]
    omega
   ·simp[execOp,resolve,invoke,builtin,h1,h2,Builtin.max_,Builtin.max2]
    omega
  ·cases hm
 ·cases hm
end
end Go.Vc
namespace Go.Vc
open Go Go.RowKit
section
variable {w0:World} {Z0:Zone} {N:Fr} {Z:Zone} {L:Lay} {st:St} {a:Act} {w:World} {P:Program}
theorem s_ld (h : Inv w0 Z0 N Z L st a w) {agg : Bool} {sz : Nat} {x : Opd} {op : Op} (hm : okQ P N.sh (.ld agg sz x) op = true) (hv : (aev st (.ld agg sz x)).1) :
  qaD P w Z L a op (aev st (.ld agg sz x)).2:=by
 cases op<;>simp only[okQ,zN,Bool.or_eq_true,beq_iff_eq]at hm<;>first|(exact absurd hm zQ)|skip
 rename_i t y
 obtain⟨⟨⟨hs,ha⟩,h1⟩,hx⟩:=hm
 have h1' :agg=false->sz=1:=fun e=>by rcases h1 with h1|h1;exact absurd h1 (by simp[e]);exact h1
 have hr:=h.ev hx
 have key: ∀ {b o off:Nat} {cs:List PV} {g:Nat->Value},a.eval y= .pointer (some ⟨b,o+off,none⟩)->Lies w Z L b o cs g->off+sz<=cs.length->qaD P w Z L a (.load t y) (ldc agg sz off cs):=by
  intro b o off cs g e hl ho
  obtain⟨v,h2,h3⟩:=qam (P:=P) hs ha h1' hl ho
  exact⟨v,fun _ _ _ _ _=>by simp[execOp,Instr.loadAt,Instr.sureAddr,e,h2],VR.ar h3⟩
 simp only[aev]at hv ⊢
 split at hv
 ·rename_i id off e
  rw[e]at hr
  split at hv
  ·rename_i cs hcs
   obtain⟨g,hl⟩:=h.box_lies hcs
   refine key (o:=0) ?_ hl hv
   rw[Nat.zero_add];exact hr
  ·exact hv.elim
 ·rename_i id i off e
  rw[e]at hr
  split at hv
  ·rename_i A hA
   obtain⟨cur,hX⟩:=h.arrs id A hA
   obtain⟨hi,ho⟩:=hv
   have hl:=hX.lies hi
   refine key hr.1 hl ?_
   have hlen:(A.xs.getD i []).length=A.es:=by
    rw[zK,zL hi];exact hX.rows _ (List.getElem_mem hi)
   rw[hlen];exact ho
  ·exact hv.elim
 ·rename_i p cs off e
  rw[e]at hr
  obtain⟨b,o,g,e2,hl⟩:=qao hr
  exact key e2 hl hv
 ·exact hv.elim
theorem qaZ {cs ds : List PV} {xs ys : Array Value} (hag : ∀ j c, cs[j]? = some c -> CM w Z L c (xs.getD j undef)) (hbg : ∀ j c, ds[j]? = some c -> CM w Z L c (ys.getD j undef))
  (hxs:xs.size=cs.length) (hys:ys.size=ds.length):
  ∀(fs:List Field) (j:Nat) (r:Bool),qay P j fs=true->qat (cs.drop j) (ds.drop j)=some r->fs.length+j=cs.length->(Op.eqFields 9999 xs ys fs).run P w= .ok r w:=by
 intro fs
 induction fs with
 |nil=>
   intro j r _ he hl
   rw[List.drop_eq_nil_of_le (by simp at hl;omega)]at he
   cases hd:ds.drop j with
   |nil=>rw[hd]at he;simp[qat]at he;subst he;rfl
   |cons y ys=>rw[hd]at he;simp[qat]at he
 |cons f fs ih=>
   intro j r hf he hl
   have hj:j<cs.length:=by simp at hl;omega
   rw[List.drop_eq_getElem_cons hj]at he
   have hjd:j<ds.length:=by
    rcases Nat.lt_or_ge j ds.length with h|h
    ·exact h
    ·rw[List.drop_eq_nil_of_le h]at he
     cases hc:cs[j]<;>rw[hc]at he<;>simp[qat]at he
   rw[List.drop_eq_getElem_cons hjd]at he
   have ha:=hag j _ (zL hj)
   have hb:=hbg j _ (zL hjd)
   generalize cs[j]=c at he ha
   generalize ds[j]=d at he hb
   unfold qat at he
   split at he
   ·rename_i h1 h2;cases h1
   ·rename_i k p rc l q rd h1 h2
    cases h1;cases h2
    split at he
    ·rename_i hkl
     subst hkl
     simp only[qay,qax,zN,beq_iff_eq,bne_iff_ne,ne_eq]at hf
     obtain⟨⟨⟨ho,hn⟩,ht⟩,hrest⟩:=hf
     split at ht
     ·rename_i k' hk'
      obtain⟨r',hr',he'⟩:=zR.1 he
      have h1:=(VR.cr ha.1).sc
      have h2:=(VR.cr hb.1).sc
      have hpx:(part f.type xs f.offset).run P w= .ok (.int k p) w:=by
       have hxj:xs[j]? =some (.int k p):=by
        have:j<xs.size:=by omega
        rw[Array.getElem?_eq_getElem this];simpa[Array.getD,this]using h1
       simp[part,isAgg,run_underlying hk',ho,hxj]
      have hpy:(part f.type ys f.offset).run P w= .ok (.int k q) w:=by
       have hyj:ys[j]? =some (.int k q):=by
        have:j<ys.size:=by omega
        rw[Array.getElem?_eq_getElem this];simpa[Array.getD,this]using h2
       simp[part,isAgg,run_underlying hk',ho,hyj]
      have heq:(Op.equalIn 9999 f.type (.int k p) (.int k q)).run P w= .ok (p==q) w:=run_equalIn_int w 9998 f.type k k' p q hk'
      simp only[Op.eqFields,ne_eq,hn,not_false_eq_true,if_true,Sem.run_bind,hpx,hpy,heq,Result.andThen_ok,Sem.run_ite]
      have ih' :=ih (j+1) r' hrest hr' (by simp at hl;omega)
      cases hpq:p==q
      ·simp only[hpq,Bool.false_and]at he';subst he';rfl
      ·simp only[hpq,Bool.true_and]at he';subst he';exact ih'
     ·cases ht
    ·cases he
   ·cases he
theorem qb0 {cs ds : List PV} {xs ys : Array Value} (hag : ∀ j c, cs[j]? = some c -> CM w Z L c (xs.getD j undef)) (hbg : ∀ j c, ds[j]? = some c -> CM w Z L c (ys.getD j undef))
  (hxs:xs.size=cs.length) (hys:ys.size=ds.length) {e:TypeId} {k' :IntKind} (hk' :P.underlying e=some (.int k')):
  ∀(m:Nat) (j:Nat) (r:Bool),qat (cs.drop j) (ds.drop j)=some r->m+j=cs.length->(Op.eqItems 9999 e 1 xs ys (List.range' j m)).run P w= .ok r w:=by
 intro m
 induction m with
 |zero=>
   intro j r he hl
   rw[List.drop_eq_nil_of_le (by omega)]at he
   cases hd:ds.drop j with
   |nil=>rw[hd]at he;simp[qat]at he;subst he;rfl
   |cons y ys=>rw[hd]at he;simp[qat]at he
 |succ m ih=>
   intro j r he hl
   have hj:j<cs.length:=by omega
   rw[List.drop_eq_getElem_cons hj]at he
   have hjd:j<ds.length:=by
    rcases Nat.lt_or_ge j ds.length with h|h
    ·exact h
    ·rw[List.drop_eq_nil_of_le h]at he
     cases hc:cs[j]<;>rw[hc]at he<;>simp[qat]at he
   rw[List.drop_eq_getElem_cons hjd]at he
   have ha:=hag j _ (zL hj)
   have hb:=hbg j _ (zL hjd)
   generalize cs[j]=c at he ha
   generalize ds[j]=d at he hb
   unfold qat at he
   split at he
   ·rename_i h1 h2;cases h1
   ·rename_i k p rc l q rd h1 h2
    cases h1;cases h2
    split at he
    ·rename_i hkl
     subst hkl
     obtain⟨r',hr',he'⟩:=zR.1 he
     have h1:=(VR.cr ha.1).sc
     have h2:=(VR.cr hb.1).sc
     have hpx:(part e xs (j*1)).run P w= .ok (.int k p) w:=by
      have hxj:xs[j]? =some (.int k p):=by
       have:j<xs.size:=by omega
       rw[Array.getElem?_eq_getElem this];simpa[Array.getD,this]using h1
      simp[part,isAgg,run_underlying hk',hxj]
     have hpy:(part e ys (j*1)).run P w= .ok (.int k q) w:=by
      have hyj:ys[j]? =some (.int k q):=by
       have:j<ys.size:=by omega
       rw[Array.getElem?_eq_getElem this];simpa[Array.getD,this]using h2
      simp[part,isAgg,run_underlying hk',hyj]
     have heq:(Op.equalIn 9999 e (.int k p) (.int k q)).run P w= .ok (p==q) w:=run_equalIn_int w 9998 e k k' p q hk'
     have ih' :=ih (j+1) r' hr' (by omega)
     rw[List.range'_succ]
     simp only[Op.eqItems,Sem.run_bind,hpx,hpy,heq,Result.andThen_ok,Sem.run_ite]
     cases hpq:p==q
     ·simp only[hpq,Bool.false_and]at he';subst he';rfl
     ·simp only[hpq,Bool.true_and]at he';subst he';exact ih'
    ·cases he
   ·cases he
theorem qb1 (h : Inv w0 Z0 N Z L st a w) {ng : Bool} {n : Nat} {x y : Opd} {op : Op} (hm : okQ P N.sh (.eqa ng n x y) op = true) (hv : (aev st (.eqa ng n x y)).1) :
  qaD P w Z L a op (aev st (.eqa ng n x y)).2:=by
 cases op<;>simp only[okQ,zN,Bool.not_eq_true',beq_iff_eq]at hm<;>first|(exact absurd hm zQ)|skip
 rename_i op2 t x' y' t2
 obtain⟨⟨⟨⟨⟨hop,hg⟩,hst⟩,ht⟩,hx⟩,hy⟩:=hm
 have h1:=h.ev hx
 have h2:=h.ev hy
 simp only[aev]at hv ⊢
 split at hv
 ·rename_i cs ds e1 e2
  rw[e1]at h1;rw[e2]at h2
  obtain⟨xs,ex,hxs,hax⟩:=h1
  obtain⟨ys,ey,hys,hay⟩:=h2
  split at hv
  ·rename_i r hr
   split at ht
   ·rename_i fs hfs
    simp only[zN,beq_iff_eq]at ht
    have hrun:(Op.equal t (.agg xs) (.agg ys)).run P w= .ok r w:=by
     have:=run_equalIn_struct (P:=P) w 9999 t xs ys (by unfold Program.fieldsOf;rw[hfs]) hst
     refine this.trans ?_
     have hf:P.fieldsOf t=fs:=by unfold Program.fieldsOf;rw[hfs]
     rw[hf]
     exact qaZ hax hay hxs hys fs.toList 0 r ht.2 (by simpa using hr) (by simp[ht.1,hv.1])
    have hgd:(eqGuard op2 t x' y' (.agg xs) (.agg ys)).run P w= .ok () w:=by
     cases op2<;>simp[eqGuard,hg]
    refine⟨_,fun _ _ _ _ _=> ?_,qaH⟩
    simp only[execOp,ex,ey,Sem.run_bind,hgd,Result.andThen_ok]
    cases ng<;>simp only[cond_true,cond_false]at hop<;>subst hop<;>simp[binOp,hrun]
   ·rename_i m e2 hfs
    simp only[zN,beq_iff_eq]at ht
    obtain⟨htm,htc,ht⟩:=ht
    split at ht
    ·rename_i k' hk'
     obtain⟨inf,hinf⟩:=info_of_underlying hk'
     have hrun:(Op.equal t (.agg xs) (.agg ys)).run P w= .ok r w:=by
      have:=run_equalIn_array (P:=P) (w:=w) 9999 xs ys hfs hinf
      refine this.trans ?_
      rw[htc,List.range_eq_range']
      exact qb0 hax hay hxs hys hk' m 0 r (by simpa using hr) (by simp[htm,hv.1])
     have hgd:(eqGuard op2 t x' y' (.agg xs) (.agg ys)).run P w= .ok () w:=by
      cases op2<;>simp[eqGuard,hg]
     refine⟨_,fun _ _ _ _ _=> ?_,qaH⟩
     simp only[execOp,ex,ey,Sem.run_bind,hgd,Result.andThen_ok]
     cases ng<;>simp only[cond_true,cond_false]at hop<;>subst hop<;>simp[binOp,hrun]
    ·cases ht
   ·cases ht
  ·exact hv.elim
 ·exact hv.elim
theorem s_fa(h:Inv w0 Z0 N Z L st a w){off:Nat}{x:Opd}{op:Op}(hm:okQ P N.sh (.fa off x) op=true)(hv:(aev st (.fa off x)).1):qaD P w Z L a op (aev st (.fa off x)).2:=by
 cases op<;>simp only[okQ,zN]at hm<;>first|(exact absurd hm zQ)|skip
 rename_i s y f
 obtain⟨hs,hx⟩:=hm
 have hr:=h.ev hx
 split at hs
 ·rename_i fs hfs
  split at hs
  ·rename_i fd hfd
   simp only[zN,beq_iff_eq]at hs
   obtain⟨ho,hz⟩:=hs
   split at hz
   ·rename_i ti hti
    have hz' :ti.size≠0:=by simpa using hz
    have key : ∀ {b o : Nat}, a.eval y = .pointer (some ⟨b, o, none⟩) -> ∀ (dst : Option Tmp) (ty : TypeId) (pos : String) (after : Array Edge) (g : Option (Nat × Bool)),
      (execOp a.eval ⟨dst,.fieldAddr s y f,ty,pos,after,g⟩).run P w= .ok (.value (.pointer (some ⟨b,o+off,none⟩))) w:=by
     intro b o e _ _ _ _ _
     simp[execOp,Instr.fieldAt,run_underlying hfs,hfd,Instr.sureAddr,e,fieldPlace,sizeOf,typeInfo,hti,hz',ho,Addr.add_lit]
    simp only[aev]at hv ⊢
    split at hv
    ·rename_i id o e;rw[e]at hr
     exact⟨_,key hr,rfl⟩
    ·rename_i id i o e;rw[e]at hr
     refine⟨_,key hr.1,?_,hr.2⟩
     rw[Nat.add_assoc]
    ·rename_i p cs o e;rw[e]at hr
     simp only[VR,AR,CR]at hr
     generalize hy:a.eval y=u at hr
     cases hr with
     |iptr _ _ b o' _ g h1 h2 h3=>
       refine⟨_,key hy,?_⟩
       rw[Nat.add_assoc]
       exact TR.iptr _ _ _ _ _ g h1 h2 h3
    ·exact hv.elim
   ·cases hz
  ·cases hs
 ·cases hs
theorem qb2 {t sz off : Nat} {agg : Bool} (hs : szIs P t sz = true) (ha : qaj P t agg = true) (h1 : agg = false -> sz = 1) {vs : Array Value} {cs : List PV} (hsz : vs.size = cs.length)
  (hc: ∀j c,cs[j]? =some c->CM w Z L c (vs.getD j undef)) (ho:off+sz<=cs.length): ∃v,(part t vs off).run P w= .ok v w/\AR w Z L (ldc agg sz off cs) v:=by
 cases agg with
 |false=>
   have:=h1 rfl;subst this
   have hlt:off<cs.length:=by omega
   have hlv:off<vs.size:=by omega
   refine⟨vs[off],?_,?_⟩
   ·simp[part,qal ha,hlv]
   ·simp only[ldc,cond_false]
    have:=(hc off cs[off] (zL hlt)).1
    rw[zK,zL hlt,Option.getD_some]
    simp only[Array.getD,hlv,dif_pos]at this
    change CR w Z L cs[off] vs[off]at this
    generalize cs[off]=c at this
    cases c<;>simp only[AR]<;>first|exact this|(simp only[CR]at this;cases this)
 |true=>
   refine⟨.agg (vs.extract off (off+sz)),?_,?_⟩
   ·simp[part,qal ha,qak hs]
   ·simp only[ldc,cond_true]
    refine⟨_,rfl,by simp;omega,fun j c hj=> ?_⟩
    rw[List.getElem?_take]at hj
    split at hj
    ·rename_i hlt
     rw[List.getElem?_drop]at hj
     have:=hc _ _ hj
     have h2:off+j<vs.size:=by omega
     have h3:j<min (off+sz) vs.size-off:=by omega
     simpa[Array.getD,h2,h3]using this
    ·cases hj
theorem s_fl(h:Inv w0 Z0 N Z L st a w){agg:Bool}{off sz:Nat}{x:Opd}{op:Op}(hm:okQ P N.sh (.fl agg off sz x) op=true)(hv:(aev st (.fl agg off sz x)).1):qaD P w Z L a op (aev st (.fl agg off sz x)).2:=by
 cases op<;>simp only[okQ,zN,Bool.or_eq_true,beq_iff_eq]at hm<;>first|(exact absurd hm zQ)|skip
 rename_i s y f
 obtain⟨⟨hs,h1⟩,hx⟩:=hm
 have h1' :agg=false->sz=1:=fun e=>by rcases h1 with h1|h1;exact absurd h1 (by simp[e]);exact h1
 have hr:=h.ev hx
 split at hs
 ·rename_i fs hfs
  split at hs
  ·rename_i fd hfd
   simp only[zN,beq_iff_eq]at hs
   obtain⟨⟨ho,hz⟩,ha⟩:=hs
   simp only[aev]at hv ⊢
   split at hv
   ·rename_i cs e;rw[e]at hr
    obtain⟨vs,e2,hsz,hc⟩:=hr
    obtain⟨v,h2,h3⟩:=qb2 (P:=P) (off:=off) hz ha h1' hsz hc hv
    exact⟨v,fun _ _ _ _ _=>by simp[execOp,Instr.field,run_underlying hfs,hfd,e2,asAgg,ho,h2],VR.ar h3⟩
   ·exact hv.elim
  ·cases hs
 ·cases hs
theorem qb3(h:Inv w0 Z0 N Z L st a w){es:Nat}{x i:Opd}{op:Op}(hm:okQ P N.sh (.ixs es x i) op=true)(hv:(aev st (.ixs es x i)).1):qaD P w Z L a op (aev st (.ixs es x i)).2:=by
 cases op<;>simp only[okQ,zN]at hm<;>first|(exact absurd hm zQ)|skip
 rename_i t y j'
 obtain⟨⟨hs,hx⟩,hi⟩:=hm
 have hr:=h.ev hx
 split at hs
 ·rename_i e he
  have key : ∀ {b o n c : Nat} {k : IntKind} {j : Int}, a.eval y = .slice (some ⟨b, o, none⟩) n c -> a.eval j' = .int k j -> 0 <= j -> j < n -> ∀ (dst : Option Tmp) (ty : TypeId) (pos : String) (after : Array Edge) (g : Option (Nat × Bool)),
    (execOp a.eval ⟨dst,.indexAddr t y j',ty,pos,after,g⟩).run P w= .ok (.value (.pointer (some ⟨b,o+j.toNat*es,none⟩))) w:=by
   intro b o n c k j e1 e2 h0 hj _ _ _ _ _
   simp[execOp,Instr.indexAt,asIntOf,e1,e2,run_underlying he,h0,hj,qak hs,Addr.add_lit]
  simp only[aev]at hv ⊢
  split at hv
  ·rename_i id lo n k j e1 e2
   rw[e1]at hr
   have hj:=h.evInt hi e2
   split at hv
   ·rename_i A hA
    obtain⟨hes,h0,hjn⟩:=hv
    obtain⟨cur,hX⟩:=h.arrs id A hA
    obtain⟨ad,c,hy,_,_,hal,hpos,_⟩:=hr
    have had:=hpos (by omega)
    subst had
    refine⟨_,key hy hj h0 hjn,?_,?_⟩
    ·rw[hX.ae,hes,Nat.add_mul,Nat.add_zero]
    ·omega
   ·exact hv.elim
  ·rename_i p es' xs k j e1 e2
   rw[e1]at hr
   have hj:=h.evInt hi e2
   obtain⟨hes,h0,hjn⟩:=hv
   subst hes
   simp only[VR,AR,CR]at hr
   generalize hy:a.eval y=u at hr
   cases hr with
   |sl0 _ _ ad c hc=>simp at hjn;omega
   |sl _ _ _ b o c g h0' h1 h2 h3 h4 h5 h6 h7=>
     have hlt:j.toNat<xs.length:=by omega
     have hx' :xs[j.toNat]? =some xs[j.toNat]:=zL hlt
     have hd:xs.getD j.toNat []=xs[j.toNat]:=by rw[zK,hx'];rfl
     have hlen:=h5 _ (List.getElem_mem hlt)
     refine⟨_,key hy hj h0 hjn,?_⟩
     rw[hd]
     refine TR.iptr p _ b (o+j.toNat*es') 0 (fun q=>g j.toNat q) h1 (fun q hq=> ?_) (fun q c hq=>h7 _ _ _ _ hx' hq)
     have:=h6 j.toNat q hlt (by rw[hlen]at hq;exact hq)
     rw[Nat.add_assoc];exact this
  ·rename_i id es' n k j e1 e2
   rw[e1]at hr
   have hj:=h.evInt hi e2
   obtain⟨hes,h0,hjn⟩:=hv
   simp only[VR,AR,CR]at hr
   obtain⟨cp,hr,_⟩:=hr
   refine⟨_,key hr hj h0 hjn,?_⟩
   simp[VR,AR,CR]
  ·exact hv.elim
 ·cases hs
theorem qb4(h:Inv w0 Z0 N Z L st a w){n es:Nat}{x i:Opd}{op:Op}(hm:okQ P N.sh (.ixa n es x i) op=true)(hv:(aev st (.ixa n es x i)).1):qaD P w Z L a op (aev st (.ixa n es x i)).2:=by
 cases op<;>simp only[okQ,zN]at hm<;>first|(exact absurd hm zQ)|skip
 rename_i t y j'
 obtain⟨⟨hs,hx⟩,hi⟩:=hm
 have hr:=h.ev hx
 split at hs
 ·rename_i m e he
  simp only[zN,beq_iff_eq]at hs
  obtain⟨rfl,hs⟩:=hs
  have key : ∀ {b o : Nat} {k : IntKind} {j : Int}, a.eval y = .pointer (some ⟨b, o, none⟩) -> a.eval j' = .int k j -> 0 <= j -> j < n -> ∀ (dst : Option Tmp) (ty : TypeId) (pos : String) (after : Array Edge) (g : Option (Nat × Bool)),
    (execOp a.eval ⟨dst,.indexAddr t y j',ty,pos,after,g⟩).run P w= .ok (.value (.pointer (some ⟨b,o+j.toNat*es,none⟩))) w:=by
   intro b o k j e1 e2 h0 hj _ _ _ _ _
   simp[execOp,Instr.indexAt,asIntOf,e1,e2,run_underlying he,h0,hj,qak hs,Addr.add_lit,Instr.sureAddr]
  simp only[aev]at hv ⊢
  split at hv
  ·rename_i id o k j e1 e2
   rw[e1]at hr
   exact⟨_,key hr (h.evInt hi e2) hv.1 hv.2,rfl⟩
  ·rename_i id q o k j e1 e2
   rw[e1]at hr
   refine⟨_,key hr.1 (h.evInt hi e2) hv.1 hv.2,?_,hr.2⟩
   rw[Nat.add_assoc]
  ·rename_i p cs o k j e1 e2
   rw[e1]at hr
   simp only[VR,AR,CR]at hr
   generalize hy:a.eval y=u at hr
   cases hr with
   |iptr _ _ b o' _ g h1 h2 h3=>
     refine⟨_,key hy (h.evInt hi e2) hv.1 hv.2,?_⟩
     rw[Nat.add_assoc]
     exact TR.iptr _ _ _ _ _ g h1 h2 h3
  ·exact hv.elim
 ·cases hs
theorem qb5(h:Inv w0 Z0 N Z L st a w){agg:Bool}{n es:Nat}{x i:Opd}{op:Op}(hm:okQ P N.sh (.ixv agg n es x i) op=true)(hv:(aev st (.ixv agg n es x i)).1):qaD P w Z L a op (aev st (.ixv agg n es x i)).2:=Bool.noConfusion (show false=true from hm)
theorem qb6(h:Inv w0 Z0 N Z L st a w){x:Opd}{i:Nat}{op:Op}(hm:okQ P N.sh (.ext x i) op=true)(hv:(aev st (.ext x i)).1):qaD P w Z L a op (aev st (.ext x i)).2:=by
 cases op<;>simp only[okQ,zN,beq_iff_eq]at hm<;>first|(exact absurd hm zQ)|skip
 rename_i y j
 obtain⟨hx,rfl⟩:=hm
 have hr:=h.ev hx
 simp only[aev]at hv ⊢
 split at hv
 ·rename_i cs e1
  rw[e1]at hr
  obtain⟨vs,e3,hsz,hc⟩:=hr
  have hlt:i<vs.size:=by omega
  refine⟨vs[i],fun _ _ _ _ _=>by simp[execOp,Instr.extract,e3,hlt],?_⟩
  have:=hc i cs[i] (zL hv)
  simp only[Array.getD,hlt,dif_pos]at this
  rw[zK,zL hv]
  exact VR.ar this
 ·exact hv.elim
theorem qb7(h:Inv w0 Z0 N Z L st a w){x:Opd}{op:Op}(hm:okQ P N.sh (.nck x) op=true)(hv:(aev st (.nck x)).1):qaD P w Z L a op (aev st (.nck x)).2:=by
 cases op<;>simp only[okQ]at hm<;>first|(exact absurd hm zQ)|skip
 rename_i y
 have hr:=h.ev hm
 simp only[aev]at hv ⊢
 have key : ∀ {ad : Addr}, a.eval y = .pointer (some ad) -> ∀ (dst : Option Tmp) (ty : TypeId) (pos : String) (after : Array Edge) (g : Option (Nat × Bool)),
   (execOp a.eval ⟨dst,.nilCheck y,ty,pos,after,g⟩).run P w= .ok (.value (a.eval y)) w:=fun e _ _ _ _ _=>by simp[execOp,e]
 split at hv
 ·rename_i id o e;rw[e]at hr;exact⟨_,key hr,hr⟩
 ·rename_i id q o e;rw[e]at hr;exact⟨_,key hr.1,hr⟩
 ·rename_i p cs o e;rw[e]at hr
  obtain⟨b,o',g,e2,hl⟩:=qao hr
  exact⟨_,key e2,hr⟩
 ·exact hv.elim
end
end Go.Vc
namespace Go.Vc
open Go Go.RowKit
section
variable {w0:World} {Z0:Zone} {N:Fr} {Z:Zone} {L:Lay} {st:St} {a:Act} {w:World} {P:Program}
theorem qb9 (h : Inv w0 Z0 N Z L st a w) : ∀ {caps : List Opd} {ys : List Operand} {ids : List Nat}, qaA N.sh caps ys = true -> qau (caps.map (·.ev st)) = some ids ->
  ys.map a.eval=ids.map fun i=>Value.pointer (some ⟨L.bx i,0,none⟩)
 |[],[],ids,_,h2=>by simp[qau]at h2;subst h2;rfl
 |[],_::_,_,hm,_=>by simp[qaA]at hm
 |_::_,[],_,hm,_=>by simp[qaA]at hm
 | x :: r, y :: s, ids, hm, h2 => by
   simp only[qaA,zN]at hm
   simp only[zW]at h2
   unfold qau at h2
   split at h2
   ·rename_i e;cases e
   ·rename_i i r' e
    injection e with e1 e2
    subst e2
    obtain⟨ids',h3,rfl⟩:=zR.1 h2
    have hv:=h.ev hm.1
    rw[e1]at hv
    simp only[zW,qb9 h hm.2 h3,hv.ptr]
   ·cases h2
theorem qba(h:Inv w0 Z0 N Z L st a w){f:Nat}{caps:List Opd}{op:Op}(hm:okQ P N.sh (.mkf f caps) op=true)(hv:(aev st (.mkf f caps)).1):qaD P w Z L a op (aev st (.mkf f caps)).2:=by
 cases op<;>simp only[okQ]at hm<;>first|(exact absurd hm zQ)|skip
 rename_i fn first cs
 cases fn<;>simp only at hm<;>first|(exact absurd hm zQ)|skip
 rename_i g
 simp only[zN,beq_iff_eq,Array.isEmpty_iff]at hm
 obtain⟨⟨rfl,rfl⟩,hc⟩:=hm
 simp only[aev]at hv ⊢
 split at hv
 ·rename_i e
  have hr:=qb9 h hc e
  have:cs.map a.eval= #[]:=by rw[<- Array.toArray_toList (xs:=cs.map a.eval),Array.toList_map,hr];rfl
  exact⟨_,fun _ _ _ _ _=>by simp[execOp,Instr.makeFunc,this],TR.sc _ rfl⟩
 ·rename_i ids _ e
  have hr:=qb9 h hc e
  have:cs.map a.eval=(ids.map fun i=>Value.pointer (some ⟨L.bx i,0,none⟩)).toArray:=by rw[<- Array.toArray_toList (xs:=cs.map a.eval),Array.toList_map,hr]
  exact⟨_,fun _ _ _ _ _=>by simp[execOp,Instr.makeFunc,this],rfl⟩
 ·exact hv.elim
theorem qbb(a b:ByteArray):(a==b)=true ↔ a=b:=by
 cases a;cases b
 rename_i x y
 show(x==y)=true ↔ _
 simp
theorem KD.same{P:Program}{t:Nat}{kd:KD}{d:TypeDesc}(hd:P.underlying t=some d)(hk:qaC P t kd=true)(hs:kd.sc=true){x y:Value}(hx:kd.has x=true)(hy:kd.has y=true):Instr.sameNow d x y=some (vEq y x):=by
 have hc: ∀a b:Int,(a==b)=(b==a):=fun a b=>by rw[Bool.eq_iff_iff,beq_iff_eq,beq_iff_eq];exact⟨Eq.symm,Eq.symm⟩
 unfold qaC at hk
 rw[hd]at hk
 cases kd with
 |st n=>cases hs
 |int q=>
   cases x<;>first|(cases hx;done)|skip
   cases y<;>first|(cases hy;done)|skip
   rename_i k a l b
   have e1:q=k:=by simpa[KD.has]using hx
   have e2:q=l:=by simpa[KD.has]using hy
   subst e1;subst e2
   cases d<;>first|(exact absurd hk zQ)|skip
   show(if q=q then some (a==b)else none)=some (q==q&&b==a)
   rw[if_pos rfl,beq_self_eq_true,Bool.true_and,hc]
 |str=>
   cases x<;>first|(cases hx;done)|skip
   cases y<;>first|(cases hy;done)|skip
   rename_i a b
   cases d<;>first|(exact absurd hk zQ)|skip
   show some (a==b)=some (decide (b=a))
   rw[Option.some.injEq,Bool.eq_iff_iff,qbb,decide_eq_true_eq]
   exact⟨Eq.symm,Eq.symm⟩
 |bol=>
   cases x<;>first|(cases hx;done)|skip
   cases y<;>first|(cases hy;done)|skip
   rename_i a b
   cases d<;>first|(exact absurd hk zQ)|skip
   show some (a==b)=some (b==a)
   cases a<;>cases b<;>rfl
theorem qbr{c:PV}{v:Value}(h:TA w Z c v):VR w Z L c v:=h.tv.vr L
theorem qbs(h:Inv w0 Z0 N Z L st a w){kd:KD}{ok:Bool}{zero:PV}{x k:Opd}{op:Op}(hm:okQ P N.sh (.mlk kd ok zero x k) op=true)(hv:(aev st (.mlk kd ok zero x k)).1):qaD P w Z L a op (aev st (.mlk kd ok zero x k)).2:=Bool.noConfusion (show false=true from hm)
theorem qbt(h:Inv w0 Z0 N Z L st a w){x:Opd}{op:Op}(hm:okQ P N.sh (.mln x) op=true)(hv:(aev st (.mln x)).1):qaD P w Z L a op (aev st (.mln x)).2:=Bool.noConfusion (show false=true from hm)
theorem qbu(h:Inv w0 Z0 N Z L st a w){x:Opd}{op:Op}(hm:okQ P N.sh (.ent x) op=true)(hv:(aev st (.ent x)).1):qaD P w Z L a op (aev st (.ent x)).2:=Bool.noConfusion (show false=true from hm)
end
end Go.Vc
namespace Go.Vc
open Go Go.RowKit
theorem qbv (off : Nat) : ∀ (l : List Value) (k : Nat) (cs : Array Value),
  ((l.zipIdx k).foldl (fun(cs:Array Value) (x:Value×Nat)=>cs.setIfInBounds (off+x.2) x.1) cs).size=cs.size/\
  ∀m,m<cs.size->((l.zipIdx k).foldl (fun(cs:Array Value) (x:Value×Nat)=>cs.setIfInBounds (off+x.2) x.1) cs).getD m undef=if off+k<=m/\m<off+k+l.length then l.getD (m-(off+k)) undef else cs.getD m undef:=by
 intro l
 induction l with
 |nil=>intro k cs;simp;intros;omega
 |cons v l ih=>
   intro k cs
   obtain⟨h1,h2⟩:=ih (k+1) (cs.setIfInBounds (off+k) v)
   simp only[List.zipIdx_cons,List.foldl_cons]
   refine⟨by rw[h1];simp,fun m hm=> ?_⟩
   rw[h2 m (by simpa using hm)]
   by_cases e:m=off+k
   ·subst e
    rw[if_neg (by omega),if_pos (by simp)]
    simp[Array.getD,hm]
   ·by_cases hr:off+(k+1)<=m/\m<off+(k+1)+l.length
    ·rw[if_pos hr,if_pos (by simp;omega)]
     rw[show m-(off+k)=(m-(off+(k+1)))+1 from by omega,List.getD_cons_succ]
    ·rw[if_neg hr,if_neg (by simp;omega)]
     simp[zO,Array.getElem?_setIfInBounds_ne (Ne.symm e)]
theorem qbw {cs new : List PV} {off : Nat} (h : off + new.length <= cs.length) {j : Nat} {c : PV} (hj : (spl cs off new)[j]? = some c) :
  (off<=j/\j<off+new.length/\new[j-off]? =some c)\/(¬(off<=j/\j<off+new.length)/\cs[j]? =some c):=by
 unfold spl at hj
 have hl:(cs.take off).length=off:=by simp;omega
 rw[List.append_assoc]at hj
 by_cases h1:j<off
 ·rw[yA (by omega),List.getElem?_take,if_pos h1]at hj
  exact .inr ⟨by omega,hj⟩
 ·rw[yB (by omega),hl]at hj
  by_cases h2:j<off+new.length
  ·rw[yA (by omega)]at hj
   exact .inl ⟨by omega,h2,hj⟩
  ·rw[yB (by omega),List.getElem?_drop]at hj
   refine .inr ⟨by omega,?_⟩
   rw[show off+new.length+(j-off-new.length)=j from by omega]at hj
   exact hj
theorem qbx{cs new:List PV}{off:Nat}(h:off+new.length<=cs.length):(spl cs off new).length=cs.length:=by
 simp[spl];omega
section
variable {w0:World} {Z0:Zone} {N:Fr} {Z:Zone} {L:Lay} {st:St} {a:Act} {w:World} {P:Program}
theorem VR.cells{c:PV}{v:Value}(h:VR w Z L c v)(hk:qas c=true):v.cells.size=(cellsOf c).length/\ ∀j x,(cellsOf c)[j]? =some x->CM w Z L x (v.cells.getD j undef):=by
 cases c with
 |agg cs=>
   obtain⟨vs,rfl,h1,h2⟩:=h
   exact⟨h1,h2⟩
 |tup cs=>cases hk
 |bot=>cases hk
 |cld ids=>cases hk
 |_=>
   have hone:v.oneCell' =true/\v.cells= #[v]:=by
    simp only[VR,AR,CR]at h
    first
     |(cases h;rename_i hs;exact⟨qa0 hs,by cases v<;>simp_all[scOk,Value.cells]⟩)
     |(cases h<;>exact⟨rfl,rfl⟩)
     |(obtain⟨ad,c',rfl,_⟩:=h;exact⟨rfl,rfl⟩)
     |(obtain⟨c',rfl,_⟩:=h;exact⟨rfl,rfl⟩)
     |(subst h;exact⟨rfl,rfl⟩)
     |(obtain⟨rfl,_⟩:=h;exact⟨rfl,rfl⟩)
   refine⟨by simp[hone.2,cellsOf],fun j x hj=> ?_⟩
   cases j with
   |zero=>
     simp only[cellsOf,List.getElem?_cons_zero,Option.some.injEq]at hj
     subst hj
     rw[hone.2]
     exact⟨h,hone.1⟩
   |succ j=>simp[cellsOf]at hj
theorem qby (h : Inv w0 Z0 N Z L st a w) (f : Nat -> Option (Nat × Nat)) : ∀ (parts : List (Nat × Nat × Opd)) (ps : List (Nat × Operand)) (cs : List PV) (vs : Array Value),
  qav N.sh parts ps f=true->(bldF st parts cs).1->vs.size=cs.length->(∀j c,cs[j]? =some c->CM w Z L c (vs.getD j undef))->
  ∃us,Instr.fill f vs (ps.map fun x=>(x.1,a.eval x.2))=some us/\us.size=(bldF st parts cs).2.length/\ ∀j c,(bldF st parts cs).2[j]? =some c->CM w Z L c (us.getD j undef):=by
 intro parts
 induction parts with
 |nil=>
   intro ps cs vs hp _ hs hc
   cases ps with
   |nil=>exact⟨vs,rfl,hs,hc⟩
   |cons=>simp[qav]at hp
 |cons p parts ih=>
   intro ps cs vs hp hv hs hc
   obtain⟨off,sz,x⟩:=p
   cases ps with
   |nil=>simp[qav]at hp
   |cons q ps=>
     obtain⟨i,y⟩:=q
     simp only[qav,zN,beq_iff_eq]at hp
     obtain⟨⟨hf,hx⟩,hp⟩:=hp
     simp only[bldF]at hv ⊢
     obtain⟨hok,hsz,hoff,hv⟩:=hv
     obtain⟨hcs,hcc⟩:=(h.ev hx).cells hok
     have hlen:off+(cellsOf (x.ev st)).length<=cs.length:=by omega
     obtain⟨g1,g2⟩:=qbv off (a.eval y).cells.toList 0 vs
     obtain⟨us,h1,h2,h3⟩:=ih ps (spl cs off (cellsOf (x.ev st))) ((((a.eval y).cells.toList.zipIdx 0).foldl (fun(cs:Array Value) (x:Value×Nat)=>cs.setIfInBounds (off+x.2) x.1) vs)) hp hv
      (by rw[g1,qbx hlen,hs]) (fun j c hj=>by
       have hjl:j<cs.length:=by
        have:=(zM.1 hj).1
        rwa [qbx hlen]at this
       rw[g2 j (by omega)]
       simp only[Nat.add_zero,Array.length_toList,hcs]
       rcases qbw hlen hj with⟨e1,e2,e3⟩|⟨e1,e2⟩
       ·rw[if_pos ⟨e1,e2⟩]
        have:=hcc _ _ e3
        simpa[zO,zK]using this
       ·rw[if_neg e1];exact hc j c e2)
     refine⟨us,?_,h2,h3⟩
     simp only[zW,Instr.fill,hf]
     rw[if_neg (by simp only[ne_eq,Bool.or_eq_true,decide_eq_true_eq,not_or];omega)]
     have e: ∀(l:Array Value) (vs:Array Value),l.zipIdx.foldl (fun(cs:Array Value) (x:Value×Nat)=>cs.setIfInBounds (off+x.2) x.1) vs=(l.toList.zipIdx 0).foldl (fun(cs:Array Value) (x:Value×Nat)=>cs.setIfInBounds (off+x.2) x.1) vs:=by
      intro l vs
      rw[<- Array.foldl_toList,Array.toList_zipIdx]
     rw[<- h1]
     congr 1
     exact e _ _
theorem qbz{t:Nat}{zero:List PV}(h:qaz P t zero=true): ∃i z,P.info? t=some i/\i.zero=some z/\zero.length=z.cells.size/\ ∀(w:World) (Z:Zone) j c,zero[j]? =some c->TR w Z c (z.cells.getD j undef)/\(z.cells.getD j undef).oneCell' =true:=by
 unfold qaz at h
 split at h
 ·rename_i i hi
  split at h
  ·rename_i z hz
   refine⟨i,z,hi,hz,?_,fun w Z j c hj=> ?_⟩
   ·have:=(qag (w:=default) (Z:=fun _ _=>False) h).1
    simpa using this
   ·have:=(qag (w:=w) (Z:=Z) h).2 j c hj
    simpa[zO,zK]using this
  ·cases h
 ·cases h
theorem qbA(h:Inv w0 Z0 N Z L st a w){zero:List PV}{parts:List (Nat×Nat×Opd)}{op:Op}(hm:okQ P N.sh (.bld zero parts) op=true)(hv:(aev st (.bld zero parts)).1):qaD P w Z L a op (aev st (.bld zero parts)).2:=by
 cases op<;>simp only[okQ,zN]at hm<;>first|(exact absurd hm zQ)|skip
 rename_i t ps
 obtain⟨hz,hp⟩:=hm
 obtain⟨i,z,hi,hzz,hzl,hzc⟩:=qbz hz
 simp only[aev]at hv ⊢
 have hc: ∀j c,zero[j]? =some c->CM w Z L c (z.cells.getD j undef):=fun j c hj=>⟨(hzc w Z j c hj).1.cr L,(hzc w Z j c hj).2⟩
 have key : ∀ us, P.built t ((ps.map fun (x : Nat × Operand) => (x.1, a.eval x.2)).toList) = some us -> us.size = (bldF st parts zero).2.length ->
   (∀j c,(bldF st parts zero).2[j]? =some c->CM w Z L c (us.getD j undef))->qaD P w Z L a (.build t ps) (.agg (bldF st parts zero).2):=by
  intro us hb h1 h2
  refine⟨.agg us,fun _ _ _ _ _=> ?_,us,rfl,h1,h2⟩
  simp[execOp,run_build (P:=P) w t _ us hb]
 have hm' :(ps.map fun(x:Nat×Operand)=>(x.1,a.eval x.2)).toList=ps.toList.map fun x=>(x.1,a.eval x.2):=by simp
 split at hp
 ·rename_i fs hfs
  split at hp
  ·rename_i places hpl
   obtain⟨us,h1,h2,h3⟩:=qby h _ parts ps.toList zero z.cells hp hv hzl.symm hc
   refine key us ?_ h2 h3
   unfold Program.built
   rw[hm',hi,hfs]
   simp only[hzz,hpl]
   exact h1
  ·cases hp
 ·rename_i n e hfs
  split at hp
  ·rename_i ti hti
   obtain⟨us,h1,h2,h3⟩:=qby h _ parts ps.toList zero z.cells hp hv hzl.symm hc
   refine key us ?_ h2 h3
   unfold Program.built
   rw[hm',hi,hfs]
   simp only[hzz,hti]
   exact h1
  ·cases hp
 ·cases hp
theorem qbB {t e : TypeId} {es : Nat} (he : P.underlying t = some (.slice e)) (hs : szIs P e es = true) {x : Value} {ad : Option Addr} {n c : Nat} (hx : x = .slice ad n c) (hnc : n <= c)
  (h:Inv w0 Z0 N Z L st a w) {lo hi:Option Opd} {lo' hi' :Option Operand} (hlo:qaw N.sh lo lo' =true) (hhi:qaw N.sh hi hi' =true) {p q:Int} (hb:slcB st n lo hi=some (p,q)) (h0:0<=p) (hpq:p<=q) (hqn:q<=n):
  (Instr.sliceAt t x (lo'.map a.eval) (hi'.map a.eval) none).run P w= .ok (.slice (if c=p.toNat then ad else ad.map (·.add (p.toNat*es))) (q.toNat-p.toNat) (c-p.toNat)) w:=by
 have hqc:q<=(c:Int):=by omega
 have hq0:0<=q:=by omega
 subst hx
 cases lo with
 |none=>
   cases lo' with
   |some _=>cases hlo
   |none=>
     cases hi with
     |none=>
       cases hi' with
       |some _=>cases hhi
       |none=>
         simp only[slcB,Option.some.injEq,Prod.mk.injEq]at hb
         obtain⟨rfl,rfl⟩:=hb
         simp[Instr.sliceAt,Instr.slice,run_underlying he,Instr.sliceBounds,qak hs]
     |some o=>
       cases hi' with
       |none=>cases hhi
       |some o' =>
         simp only[slcB]at hb
         split at hb
         ·rename_i k b e1
          simp only[Option.some.injEq,Prod.mk.injEq]at hb
          obtain⟨rfl,rfl⟩:=hb
          have:=h.evInt hhi e1
          simp[Instr.sliceAt,Instr.slice,run_underlying he,Instr.sliceBounds,Instr.sliceBound,asIntOf,this,hq0,hqc,qak hs]
         ·cases hb
 |some o1=>
   cases lo' with
   |none=>cases hlo
   |some o1' =>
     cases hi with
     |none=>
       cases hi' with
       |some _=>cases hhi
       |none=>
         simp only[slcB]at hb
         split at hb
         ·rename_i k b e1
          simp only[Option.some.injEq,Prod.mk.injEq]at hb
          obtain⟨rfl,rfl⟩:=hb
          have:=h.evInt hlo e1
          simp[Instr.sliceAt,Instr.slice,run_underlying he,Instr.sliceBounds,Instr.sliceBound,asIntOf,this,h0,hpq,qak hs]
         ·cases hb
     |some o=>
       cases hi' with
       |none=>cases hhi
       |some o' =>
         simp only[slcB]at hb
         split at hb
         ·rename_i k b k2 b2 e1 e2
          simp only[Option.some.injEq,Prod.mk.injEq]at hb
          obtain⟨rfl,rfl⟩:=hb
          have h1:=h.evInt hlo e1
          have h2:=h.evInt hhi e2
          simp[Instr.sliceAt,Instr.slice,run_underlying he,Instr.sliceBounds,Instr.sliceBound,asIntOf,h1,h2,h0,hq0,hqc,qak hs]
          intro hc;exfalso;omega
         ·cases hb
theorem qbC(h:Inv w0 Z0 N Z L st a w){es:Nat}{x:Opd}{lo hi:Option Opd}{op:Op}(hm:okQ P N.sh (.slc es x lo hi) op=true)(hv:(aev st (.slc es x lo hi)).1):qaD P w Z L a op (aev st (.slc es x lo hi)).2:=by
 unfold okQ at hm
 split at hm<;>(first|(rename_i heq;cases heq;done)|skip)
 all_goals (try(rename_i heq;cases heq))
 ·simp only[zN]at hm
  obtain⟨⟨⟨ht,hx⟩,hlo⟩,hhi⟩:=hm
  split at ht
  ·rename_i e he
   have hr:=h.ev hx
   simp only[aev]at hv ⊢
   split at hv
   ·rename_i id l n e1
    rw[e1]at hr
    obtain⟨ad,c,hy,hnc,hcm,hal,hpos,hzero⟩:=hr
    split at hv
    ·rename_i A p q hA hb
     obtain⟨hes,h0,hpq,hqn⟩:=hv
     obtain⟨cur,hX⟩:=h.arrs id A hA
     have hrun:=qbB (P:=P) he ht hy hnc h hlo hhi hb h0 hpq hqn
     refine⟨_,fun _ _ _ _ _=>by simp only[execOp,Option.map_none,Sem.run_bind,hrun,Result.andThen_ok];rfl,?_⟩
     have hle:q.toNat-p.toNat<=c-p.toNat:=by omega
     by_cases hcp:c=p.toNat
     ·refine⟨ad,c-p.toNat,by simp[hcp],hle,by omega,by omega,fun hlt=>by omega,fun hz=> ?_⟩
      have hl0:l=0:=by omega
      obtain⟨z1,z2⟩:=hzero hl0
      exact⟨z1,by omega⟩
     ·refine⟨ad.add (p.toNat*es),c-p.toNat,by simp[hcp],hle,by omega,by omega,fun hlt=> ?_,fun hz=> ?_⟩
      ·have hn:0<n:=by omega
       rw[hpos hn,Addr.add_lit,Nat.add_mul,hX.ae,hes]
      ·have hl0:l=0:=by omega
       have hp0:p.toNat=0:=by omega
       obtain⟨z1,z2⟩:=hzero hl0
       rw[z1,hp0,Addr.add_lit]
       exact⟨by simp,by omega⟩
    ·exact hv.elim
   ·rename_i pm es' xs e1
    rw[e1]at hr
    split at hv
    ·rename_i p q hb
     obtain⟨hes,h0,hpq,hqn⟩:=hv
     subst hes
     simp only[VR,AR,CR]at hr
     generalize hy:a.eval _=u at hr
     have hll:((xs.take q.toNat).drop p.toNat).length=q.toNat-p.toNat:=by simp;omega
     cases hr with
     |sl0 _ _ ad c hc=>
       have hrun:=qbB (P:=P) he ht hy (Nat.zero_le _) h hlo hhi (by simpa using hb) h0 hpq (by simpa using hqn)
       refine⟨_,fun _ _ _ _ _=>by simp only[execOp,Option.map_none,Sem.run_bind,hrun,Result.andThen_ok];rfl,?_⟩
       have hq:q.toNat-p.toNat=0:=by simp at hqn;omega
       rw[hq]
       simp only[List.take_nil,List.drop_nil]
       exact TR.sl0 _ _ _ _ (by omega)
     |sl _ _ _ b o c g h0' h1 h2 h3 h4 h5 h6 h7=>
       have hrun:=qbB (P:=P) he ht hy h3 h hlo hhi hb h0 hpq hqn
       refine⟨_,fun _ _ _ _ _=>by simp only[execOp,Option.map_none,Sem.run_bind,hrun,Result.andThen_ok];rfl,?_⟩
       by_cases hlt:q.toNat-p.toNat=0
       ·have hnil:(xs.take q.toNat).drop p.toNat=[]:=List.eq_nil_of_length_eq_zero (by omega)
        rw[hnil,hlt]
        exact TR.sl0 _ _ _ _ (by omega)
       ·have hcp: ¬c=p.toNat:=by omega
        rw[if_neg hcp,<- hll]
        simp only[Option.map_some,Addr.add_lit]
        refine TR.sl _ _ _ b (o+p.toNat*es') (c-p.toNat) (fun i j=>g (p.toNat+i) j) h0' h1 (by omega) (by omega) (by omega) ?_ ?_ ?_
        ·intro y hy'
         exact h5 y (List.mem_of_mem_take (List.mem_of_mem_drop hy'))
        ·intro i j hi hj
         have:=h6 (p.toNat+i) j (by omega) hj
         rw[Nat.add_mul,<- Nat.add_assoc,<- Nat.add_assoc]at this
         rw[<- Nat.add_assoc]
         exact this
        ·intro i j y c' hi hj
         rw[List.getElem?_drop,List.getElem?_take]at hi
         split at hi
         ·exact h7 _ _ _ _ hi hj
         ·cases hi
    ·exact hv.elim
   ·rename_i e1
    rw[e1]at hr
    split at hv
    ·rename_i p q hb
     obtain⟨rfl,rfl⟩:=hv
     simp only[VR,AR,CR]at hr
     generalize hy:a.eval _=u at hr
     cases hr
     have hrun:=qbB (P:=P) he ht hy (Nat.le_refl _) h hlo hhi hb (by omega) (by omega) (by omega)
     refine⟨_,fun _ _ _ _ _=>by simp only[execOp,Option.map_none,Sem.run_bind,hrun,Result.andThen_ok];rfl,?_⟩
     exact TR.nil
    ·exact hv.elim
   ·exact hv.elim
  ·cases ht
 ·cases hm
theorem qbD(h:Inv w0 Z0 N Z L st a w){ao:AOp}{op:Op}(hm:okQ P N.sh ao op=true)(hv:(aev st ao).1):qaD P w Z L a op (aev st ao).2:=by
 cases ao
 ·exact s_mv h hm hv
 ·exact qaK h hm hv
 ·exact qbA h hm hv
 ·exact s_ld h hm hv
 ·exact qaM h hm hv
 ·exact qaN h hm hv
 ·exact qaO h hm hv
 ·exact qaP h hm hv
 ·exact qaQ h hm hv
 ·exact qaR h hm hv
 ·exact qb1 h hm hv
 ·exact qaS h hm hv
 ·exact qaT h hm hv
 ·exact qaU h hm hv
 ·exact qaX h hm hv
 ·exact qaY h hm hv
 ·exact s_mn h hm hv
 ·exact s_fa h hm hv
 ·exact s_fl h hm hv
 ·exact qb3 h hm hv
 ·exact qb4 h hm hv
 ·exact qb5 h hm hv
 ·exact qbC h hm hv
 ·exact qb6 h hm hv
 ·exact qb7 h hm hv
 all_goals first|exact hv.elim|exact qba h hm hv|exact qbs h hm hv|exact qbu h hm hv|exact qbt h hm hv
end
end Go.Vc
