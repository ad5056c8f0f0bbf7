/- VcKa VcKb VcR VcS VcT VcU: lemmas -/
import Derived.Test.YtledbjkolidhkaaPart03
import Derived.WideLaws
set_option linter.unusedSimpArgs false
set_option linter.unusedVariables false
namespace Go.Vc
open Go Go.RowKit
section
variable {w0 : World} {Z0 : Zone} {N : Fr} {Z : Zone} {L : Lay} {st : St} {a : Act} {w : World} {P : Program}
theorem one2_spec {c : Callee} {b : Builtin} (h : one2 c b = true) : c = .builtin b := by
 unfold one2 at h
 split at h <;> first | rfl | cases h
theorem xoOk_call {d : Option Nat} {k : XK} {args : List Opd} {op : Op} (hk : ∀ op,pfOk P N.sh k args op = false) (h : xoOk P N.sh d k args op = true) : ∃ c,op = .call c /\ xoC P N.sh d k args c = true := by
 cases op <;> first | (exact ⟨_,rfl,h⟩) | (exact absurd h (by simp [xoOk,hk]))
theorem xfF_ieq {ng : Bool} {v r : PV} (h : xfF (.ieq ng) v = some r) : (v = .sc .nilIface /\ r = .sc (.bool (!ng))) \/ ∃ t u,v = .sc (.iface t u) /\ r = .sc (.bool ng) := by
 unfold xfF at h
 split at h <;> first | (rename_i e; cases e; cases h; exact .inl ⟨rfl,rfl⟩) | (rename_i e; cases e; cases h; exact .inr ⟨_,_,rfl,rfl⟩) | (rename_i e; cases e; done) | cases h
theorem xfF_mki {t : Nat} {v r : PV} (h : xfF (.mki t) v = some r) : (v = .agg [] /\ r = .sc (.iface t (.agg #[]))) \/ ∃ k n,v = .sc (.int k n) /\ r = .sc (.iface t (.int k n)) := by
 unfold xfF at h
 split at h <;> first | (rename_i e; cases e; cases h; exact .inl ⟨rfl,rfl⟩) | (rename_i e; cases e; cases h; exact .inr ⟨_,_,rfl,rfl⟩) | (rename_i e; cases e; done) | cases h
theorem xfF_tas {t : Nat} {v r : PV} (h : xfF (.tas t) v = some r) : v = .sc (.iface t (.agg #[])) /\ r = .tup [.agg [],.sc (.bool true)] := by
 unfold xfF at h
 split at h <;> first | (rename_i e; cases e; split at h <;> first | (rename_i hc; obtain ⟨rfl,rfl⟩ := hc; cases h; exact ⟨rfl,rfl⟩) | cases h) | (rename_i e; cases e; done) | cases h
theorem xfOk_nd {κ : Sh} {x : Opd} {g : XF} {c : Call} : xfOk P κ x g (.defer c) = false := by cases g <;> rfl
theorem pfOk_nd {κ : Sh} {k : XK} {args : List Opd} {c : Call} : pfOk P κ k args (.defer c) = false := by
 unfold pfOk
 split <;> first | exact xfOk_nd | rfl | (rename_i heq; cases heq)
theorem pf_runs (h : Inv w0 Z0 N Z L st a w) {d d' : Option Nat} (hd : N.dst d d') {g : XF} {x : Opd} {op : Op} (hm : xoOk P N.sh d (.pf g) [x] op = true) {r : PV} (hv : xfF g (x.ev st) = some r) : Runs P w0 Z0 N w a op d' (st.put d r) := by
 replace hm : xfOk P N.sh x g op = true := by
  cases op <;> first | exact hm | skip
  rename_i c
  simp only [xoOk] at hm
  exact absurd hm (by simp [xoC])
 cases g with
 | ieq ng =>
   cases op <;> first | (exact absurd hm Bool.false_ne_true) | skip
   rename_i op' t x' y ty
   cases y <;> first | (exact absurd hm Bool.false_ne_true) | skip
   rename_i v
   cases v <;> first | (exact absurd hm Bool.false_ne_true) | skip
   simp only [xfOk,Bool.and_eq_true,beq_iff_eq] at hm
   obtain ⟨⟨hop,hx⟩,ht⟩ := hm
   subst hop
   split at ht
   ·rename_i ms he
    have he' : P.underlying t = some (.interface (P.methodsAt t)) := by simp [Program.methodsAt,he]
    have hsr := h.ev hx
    have hc : a.eval (.const .nilIface) = .nilIface := rfl
    have hg : ∀ (b : BinOp) (u : Value),(eqGuard b t x' (.const .nilIface) u .nilIface).run P w = .ok () w := fun b u => by
     cases b <;> cases u <;> simp [eqGuard]
    rcases xfF_ieq hv with ⟨e2,rfl⟩ | ⟨u,v,e2,rfl⟩
    ·rw [e2] at hsr
     have hy := hsr.sc
     refine ⟨.bool (!ng),_,w,.inl rfl,fun _ _ _ _ => ?_,Z,L,h.put hd (TR.sc (.bool (!ng)) rfl)⟩
     cases ng with
     | false => simp only [execOp,hy,hc,Sem.run_bind,cond_false,hg,Result.andThen_ok,run_eql_nil_nil w t he']; rfl
     | true => simp only [execOp,hy,hc,Sem.run_bind,cond_true,hg,Result.andThen_ok,run_neq_nil_nil w t he']; rfl
    ·rw [e2] at hsr
     have hy := hsr.sc
     refine ⟨.bool ng,_,w,.inl rfl,fun _ _ _ _ => ?_,Z,L,h.put hd (TR.sc (.bool ng) rfl)⟩
     cases ng with
     | false => simp only [execOp,hy,hc,Sem.run_bind,cond_false,hg,Result.andThen_ok,run_eql_held_nil w t u v he']; rfl
     | true => simp only [execOp,hy,hc,Sem.run_bind,cond_true,hg,Result.andThen_ok,run_neq_held_nil w t u v he']; rfl
   ·cases ht
 | mki t =>
   cases op <;> first | (exact absurd hm Bool.false_ne_true) | skip
   rename_i t' x'
   simp only [xfOk,Bool.and_eq_true,beq_iff_eq] at hm
   obtain ⟨⟨hop,hx⟩,ht⟩ := hm
   subst hop
   have hsr := h.ev hx
   have hrun : ∀ v : Value,(Instr.makeInterface t v).run P w = .ok (.iface t v) w := fun v => by
    unfold Instr.makeInterface
    cases he : P.underlying t with
    | none => rw [he] at ht; cases ht
    | some dsc =>
      rw [he] at ht
      simp only [Sem.run_bind,run_underlying he,Result.andThen_ok]
      cases dsc <;> first | rfl | (exact absurd ht Bool.false_ne_true)
   rcases xfF_mki hv with ⟨e2,rfl⟩ | ⟨k,m,e2,rfl⟩
   ·rw [e2] at hsr
    obtain ⟨vs,hy,h2,_⟩ := hsr
    have hvs : vs = #[] := by simpa using h2
    subst hvs
    exact ⟨_,_,w,.inl rfl,fun _ _ _ _ => (by simp only [execOp,hy,hrun,Sem.run_bind,Result.andThen_ok]; rfl),Z,L,h.put hd (TR.sc _ rfl)⟩
   ·rw [e2] at hsr
    have hy := hsr.sc
    exact ⟨_,_,w,.inl rfl,fun _ _ _ _ => (by simp only [execOp,hy,hrun,Sem.run_bind,Result.andThen_ok]; rfl),Z,L,h.put hd (TR.sc _ rfl)⟩
 | tas t =>
   cases op <;> first | (exact absurd hm Bool.false_ne_true) | skip
   rename_i x' ty t' b
   cases b <;> first | (exact absurd hm Bool.false_ne_true) | skip
   simp only [xfOk,Bool.and_eq_true,beq_iff_eq] at hm
   obtain ⟨⟨hop,hx⟩,ht⟩ := hm
   subst hop
   have hsr := h.ev hx
   obtain ⟨e2,rfl⟩ := xfF_tas hv
   rw [e2] at hsr
   have hy := hsr.sc
   have hrun : (Instr.typeAssert (.iface t (.agg #[])) ty t true).run P w = .ok (.tuple #[.agg #[],.bool true]) w := by
    unfold Instr.typeAssert
    cases he : P.underlying t with
    | none => rw [he] at ht; cases ht
    | some dsc =>
      rw [he] at ht
      simp only [Sem.run_bind,run_underlying he,Result.andThen_ok]
      cases dsc <;> first | (exact absurd ht Bool.false_ne_true) | simp
   exact ⟨_,_,w,.inl rfl,fun _ _ _ _ => (by simp only [execOp,hy,hrun,Sem.run_bind,Result.andThen_ok]; rfl),Z,L,h.put hd ⟨_,rfl,rfl,fun j c hj => by
    rcases j with _ | _ | j
    ·cases hj; exact ⟨#[],rfl,rfl,fun j c hj => by cases hj⟩
    ·cases hj; exact TR.sc (.bool true) rfl
    ·simp at hj⟩⟩
theorem cap0_runs (h : Inv w0 Z0 N Z L st a w) {d d' : Option Nat} (hd : N.dst d d') {x : Opd} {op : Op} (hm : xoOk P N.sh d .cap0 [x] op = true) (hv : x.ev st = .nil) : Runs P w0 Z0 N w a op d' (st.put d (.int 0)) := by
 obtain ⟨c,hop,hm2⟩ := xoOk_call (fun _ => rfl) hm
 subst hop
 clear hm
 replace hm2 : (one2 c.callee .cap && capOk P N.sh x c.args.toList c.argTypes.toList) = true := hm2
 rw [Bool.and_eq_true] at hm2
 obtain ⟨hc,hm⟩ := hm2
 obtain ⟨cal,args,tys⟩ := c
 replace hc := one2_spec hc
 dsimp only at hc hm
 subst hc
 unfold capOk at hm
 split at hm
 ·rename_i x' t e1 e2
  simp only [Bool.and_eq_true] at hm
  obtain ⟨hx,ht⟩ := hm
  have e1 := list1 e1; have e2 := list1 e2; subst e1; subst e2
  have hsr := h.ev hx
  rw [hv] at hsr
  simp only [VR,AR,CR] at hsr
  have hsv : a.eval x' = .slice none 0 0 := by
   generalize a.eval x' = u at hsr; cases hsr; rfl
  split at ht
  ·rename_i e he
   exact ⟨goInt 0,_,w,.inl rfl,fun _ _ _ _ => (by simp [execOp,resolve,invoke,builtin,Builtin.cap_,run_underlying he,hsv]),Z,L,h.put hd (v := .int 0) (u := goInt 0) (TR.sc (.int .i64 0) rfl)⟩
  ·cases ht
 ·cases hm
theorem clr_runs (h : Inv w0 Z0 N Z L st a w) {es : Nat} {zero : List PV} {x : Opd} {op : Op} (hm : xoOk P N.sh none (.clr es zero) [x] op = true) {id lo n : Nat} (hv : x.ev st = .view id lo n) {A : Arr} (hA : lk st.a id = some A) (hes : A.es = es) (hzl : zero.length = es) :
  Runs P w0 Z0 N w a op none { st with a := up st.a id { A with xs := cpyF A.xs lo (List.replicate n zero) } } := by
 obtain ⟨c,hop,hm2⟩ := xoOk_call (fun _ => rfl) hm
 subst hop
 clear hm
 replace hm2 : (one2 c.callee .clear && true && clrOk P N.sh es zero x c.args.toList c.argTypes.toList) = true := hm2
 rw [Bool.and_eq_true,Bool.and_true] at hm2
 obtain ⟨hc,hm⟩ := hm2
 obtain ⟨cal,args,tys⟩ := c
 replace hc := one2_spec hc
 dsimp only at hc hm
 subst hc
 unfold clrOk at hm
 split at hm
 ·rename_i x' t e1 e2
  simp only [Bool.and_eq_true] at hm
  obtain ⟨hx,ht⟩ := hm
  have e1 := list1 e1; have e2 := list1 e2; subst e1; subst e2
  split at ht
  ·rename_i e he
   simp only [Bool.and_eq_true] at ht
   obtain ⟨hsz,hz⟩ := ht
   obtain ⟨ti,z,hti,hzz,hzs,hzc⟩ := zeroIs_spec hz
   have hxr := h.ev hx
   rw [hv] at hxr
   obtain ⟨ad,c,hxv,hnc,hcm,hal,hp,_⟩ := hxr
   obtain ⟨cur,hX⟩ := h.arrs id A hA
   obtain ⟨o1,o2,o3⟩ := h.owna id A hA
   rw [hX.al] at hal
   subst hes
   have hzcs : z.cells.size = A.es := by rw [<- hzs]; exact hzl
   obtain ⟨news,hnews⟩ : ∃ news,(Builtin.zeroCells z.cells n).toList = news := ⟨_,rfl⟩
   have hnl : news.length = n * A.es := by rw [<- hnews]; simp [size_zeroCells,hzcs]
   have hfit : lo * A.es + news.length <= cur.size := by
    rw [hnl,<- Nat.add_mul,hX.size]
    exact Nat.mul_le_mul_right _ (Nat.le_trans hal hX.fits)
   have hget : ∀ p q,p < n -> q < A.es -> news.getD (p * A.es + q) undef = z.cells.getD q undef := fun p q hpn hq => by
    have hlt := idx_lt hpn hq
    rw [<- hnews]
    simp only [Builtin.zeroCells,hzcs,List.getD_eq_getElem?_getD]
    simp [hlt,Nat.mul_add_mod_self_right]
    rw [Nat.mod_eq_of_lt hq]
    have hq2 : q < z.cells.size := by rw [hzcs]; exact hq
    simp [hq2]
   have hone : ∀ u ∈ news,u.oneCell' = true := fun u hu => by
    obtain ⟨i,hi,rfl⟩ := List.mem_iff_getElem.1 hu
    rw [hnl] at hi
    have hq : i % A.es < A.es := Nat.mod_lt _ hX.pos
    have hpn : i / A.es < n := Nat.div_lt_of_lt_mul (by rw [Nat.mul_comm]; exact hi)
    have e := hget (i / A.es) (i % A.es) hpn hq
    have e2 : i / A.es * A.es + i % A.es = i := Nat.div_add_mod' i A.es
    rw [e2,List.getD_eq_getElem?_getD,List.getElem?_eq_getElem (by rw [hnl]; exact hi),Option.getD_some] at e
    rw [e]
    obtain ⟨c,hc⟩ : ∃ c,zero[i % A.es]? = some c := ⟨_,List.getElem?_eq_getElem (by rw [hzl]; exact hq)⟩
    exact (hzc w Z _ c hc).2
   have hst : (if n = 0 then (pure () : Sem Unit) else storeCells ad news).run P w = .ok () (w.setRow (L.ab id) (cur.toList.take (lo * A.es) ++ news ++ cur.toList.drop (lo * A.es + news.length)).toArray) := by
    by_cases hn : 0 < n
    ·have := hp hn
     subst this
     have := run_storeCells_at P (L.ab id) (lo * A.es) A.ty news 0 cur w hX.blk (by simpa using hfit) hone
     rw [if_neg (by omega)]
     simpa [hX.ae] using this
    ·have hn0 : n = 0 := by omega
     subst hn0
     have : news = [] := List.eq_nil_of_length_eq_zero (by rw [hnl]; simp)
     subst this
     simp only [List.append_nil,List.length_nil,Nat.add_zero,List.take_append_drop,Array.toArray_toList,if_true]
     rw [setRow_self w _ cur A.ty (0,0) hX.blk]
     rfl
   have hrun : ∀ ty : TypeId,(Builtin.clear_ #[t] ty #[a.eval x']).run P w = .ok (.tuple #[]) (w.setRow (L.ab id) (cur.toList.take (lo * A.es) ++ news ++ cur.toList.drop (lo * A.es + news.length)).toArray) := fun ty => by
    rw [hxv]
    by_cases hn : n = 0
    ·subst hn
     rw [if_pos rfl] at hst
     simp [Builtin.clear_,run_underlying he]
     simpa using hst
    ·rw [if_neg hn] at hst
     obtain ⟨m,rfl⟩ : ∃ m,n = m + 1 := ⟨n - 1,by omega⟩
     simp [Builtin.clear_,run_underlying he,zeroValue,typeInfo,hti,hzz,hnews,hst]
   have hk : Kept Z w (w.setRow (L.ab id) (cur.toList.take (lo * A.es) ++ news ++ cur.toList.drop (lo * A.es + news.length)).toArray) :=
    ⟨fun p b hp => setRow_other w _ b _ (fun e => o3 p (e ▸ hp))⟩
   have exec : ∀ (ty : TypeId) (pos : String) (after : Array Edge) (g : Option (Nat × Bool)),
     (execOp a.eval ⟨none,.call ⟨.builtin .clear,#[x'],#[t]⟩,ty,pos,after,g⟩).run P w = .ok (.value (.tuple #[])) (w.setRow (L.ab id) (cur.toList.take (lo * A.es) ++ news ++ cur.toList.drop (lo * A.es + news.length)).toArray) := fun ty _ _ _ => by
    simp [execOp,resolve,invoke,builtin,hrun ty]
   refine ⟨_,_,_,.inl rfl,exec,Z,L,?_⟩
   have hrl : (List.replicate n zero).length = n := List.length_replicate
   have hkl : lo + (List.replicate n zero).length <= A.xs.length := by rw [hrl]; exact hal
   have h1 := h.setArr (grownBy_setRow w (L.ab id) (cur.toList.take (lo * A.es) ++ news ++ cur.toList.drop (lo * A.es + news.length)).toArray) (row := some (L.ab id)) (fun k ek => ⟨A,hA,by cases ek; rfl⟩) (id := id) (LSame.refl L) (fun _ _ => rfl) (.inl ⟨A,hA,rfl⟩)
    (by rw [setRow_size]; exact o2) (St.noTo_nul _) (A' := { A with xs := cpyF A.xs lo (List.replicate n zero) })
    (cur := (cur.toList.take (lo * A.es) ++ news ++ cur.toList.drop (lo * A.es + news.length)).toArray)
    ⟨hX.pos,hX.ae,by rw [cpyF_len hkl]; exact hX.al,setRow_heap w _ cur _ A.ty _ hX.blk,by rw [splA_size hfit]; exact hX.size,by rw [cpyF_len hkl]; exact hX.fits,hX.max,fun r hr => by
     simp only [cpyF,List.mem_append] at hr
     rcases hr with (h2 | h2) | h2
     ·exact hX.rows r (List.mem_of_mem_take h2)
     ·rw [List.eq_of_mem_replicate h2]; exact hzl
     ·exact hX.rows r (List.mem_of_mem_drop h2),fun p q r' c hp hq' => by
     rw [splA_get hfit]
     dsimp only at hp ⊢
     rcases cpyF_get hkl hp with ⟨h2,h3,h4⟩ | ⟨h2,h3⟩
     ·have hr := List.eq_of_mem_replicate (List.mem_of_getElem? h4)
      subst hr
      have hql : q < A.es := by rw [<- hzl]; exact (List.getElem?_eq_some_iff.1 hq').1
      rw [hrl] at h3
      have hpn : p - lo < n := by omega
      have h6 := idx_lt hpn hql
      have h7 : p * A.es + q = lo * A.es + ((p - lo) * A.es + q) := by
       rw [<- Nat.add_assoc,<- Nat.add_mul,show lo + (p - lo) = p from by omega]
      rw [if_pos ⟨by omega,by omega⟩,h7,Nat.add_sub_cancel_left,hget _ _ hpn hql]
      have h5 := hzc w Z q c hq'
      exact ⟨h5.1.keep hk (fun _ _ h => h),h5.2⟩
     ·have hql : q < A.es := by rw [<- hX.rows r' (List.mem_of_getElem? h3)]; exact (List.getElem?_eq_some_iff.1 hq').1
      have h5 := hX.cell p q r' c h3 hq'
      rw [if_neg (by
       rintro ⟨q1,q2⟩
       rw [hnl,<- Nat.add_mul] at q2
       refine h2 ⟨?_,?_⟩
       ·by_cases hh : lo <= p
        ·exact hh
        ·have := idx_lt (show p < lo by omega) hql; omega
       ·rw [hrl]
        by_cases hh : p < lo + n
        ·exact hh
        ·have := Nat.mul_le_mul_right A.es (show lo + n <= p by omega); omega)]
      exact ⟨h5.1.keep hk (fun _ _ h => h),h5.2⟩⟩
   exact h1
  ·cases ht
 ·cases hm
theorem run_append_made {t t' ty e : TypeId} {ki : IntKind} {i : TypeInfo} {z : Value} (ht : P.underlying t = some (.slice e)) (ht' : P.underlying t' = some (.int ki)) (hi : P.info? e = some i) (hz : i.zero = some z) {n : Nat} (h0 : 0 < n) (hs : 0 < i.size) (h63 : (n : Int) <= 9223372036854775807) (hfit : n * i.bytes <= 140737488355328) :
  (Builtin.append_ #[t,t'] ty #[.slice none 0 0,.int .i64 n]).run P w =
   .ok (.slice (some ⟨w.heap.size,0,none⟩) n (grownCap w n 0 e)) (w.drew.alloc (.cells (Builtin.zeroCells z.cells n ++ Builtin.zeroCells z.cells (grownCap w n 0 e - n)) e)) := by
 have hw : IntKind.i64.wrap (n : Int) = n := wrap_in (k := .i64) (by simp only [ikLo]; omega) (by simp only [ikHi]; omega)
 have h1 : ¬ ((n : Int) < 0) := by omega
 have h2 : ¬ ((281474976710656 : Int) < (n : Int) * (i.bytes : Int)) := by rw [<- Int.natCast_mul]; omega
 have h3 : ¬ (n <= 0) := by omega
 have h4 : ¬ ((9223372036854775807 : Int) < (n : Int)) := by omega
 have h5 : Builtin.nextslicecap n 0 = n := by simp [Builtin.nextslicecap]; omega
 have h6 : ¬ (281474976710656 < n * i.bytes) := by omega
 have h7 : ¬ (n * i.size = 0) := by have := Nat.mul_pos h0 hs; omega
 have h8 : n ≠ 0 := by omega
 have h9 : i.size ≠ 0 := by omega
 simp [Builtin.append_,run_underlying ht,run_underlying ht',sizeOf,typeInfo,zeroValue,hi,hz,asInt,asIntOf,hw,h1,h2,h3,h4,h5,h6,h7,h8,h9,Question.forced,newRow,grownCap,Builtin.firstCells]
theorem apm_runs (h : Inv w0 Z0 N Z L st a w) {i i' : Nat} (hd : N.dst (some i) (some i')) {es ty by_ : Nat} {zero : List PV} {s x : Opd} {op : Op} (hm : xoOk P N.sh (some i) (.apm es ty by_ zero) [s, x] op = true) (hs : s.ev st = .nil) {n : Int} (hx : x.ev st = .sc (.int .i64 n))
  (hes : 0 < es /\ zero.length = es) (h0 : 0 < n) (hb : n.toNat * by_ <= 140737488355328) (h63 : n <= 9223372036854775807) : Runs P w0 Z0 N w a op (some i') (st.newArr i ⟨es,ty,List.replicate n.toNat zero⟩) := by
 obtain ⟨c,hop,hm2⟩ := xoOk_call (fun _ => rfl) hm
 subst hop
 clear hm
 replace hm2 : (one2 c.callee .append && true && apmOk P N.sh es ty by_ zero s x c.args.toList c.argTypes.toList) = true := hm2
 rw [Bool.and_eq_true,Bool.and_true] at hm2
 obtain ⟨hc,hm⟩ := hm2
 obtain ⟨cal,args,tys⟩ := c
 replace hc := one2_spec hc
 dsimp only at hc hm
 subst hc
 unfold apmOk at hm
 split at hm
 ·rename_i s' x' t t' e1 e2
  simp only [Bool.and_eq_true] at hm
  obtain ⟨⟨⟨hs',hx'⟩,ht'⟩,ht⟩ := hm
  have e1 := list2 e1; have e2 := list2 e2; subst e1; subst e2
  split at ht'
  ·rename_i ki hki
   split at ht
   ·rename_i e he
    simp only [Bool.and_eq_true,beq_iff_eq] at ht
    obtain ⟨⟨⟨hety,hsz⟩,hby⟩,hz⟩ := ht
    subst hety
    obtain ⟨ti,z,hti,hzz,hzl,hzc⟩ := zeroIs_spec hz
    have hby' : ti.bytes = by_ := by simpa [byIs,hti] using hby
    have hsz' : ti.size = es := by simpa [szIs,hti] using hsz
    have hsr := h.ev hs'
    rw [hs] at hsr
    simp only [VR,AR,CR] at hsr
    have hsv : a.eval s' = .slice none 0 0 := by
     generalize a.eval s' = u at hsr; cases hsr; rfl
    have hxv := h.evInt hx' hx
    obtain ⟨m,rfl⟩ : ∃ m : Nat,n = m := ⟨n.toNat,by omega⟩
    rw [Int.toNat_natCast] at hb ⊢
    have hrun := fun (ty : TypeId) => run_append_made (P := P) (w := w) (ty := ty) he hki hti hzz (n := m) (by omega) (by omega) h63 (by rw [hby']; exact hb)
    have exec : ∀ (ty : TypeId) (pos : String) (after : Array Edge) (g : Option (Nat × Bool)),
      (execOp a.eval ⟨some i',.call ⟨.builtin .append,#[s',x'],#[t,t']⟩,ty,pos,after,g⟩).run P w = .ok (.value (.slice (some ⟨w.heap.size,0,none⟩) m (grownCap w m 0 e))) (w.drew.alloc (.cells (Builtin.zeroCells z.cells m ++ Builtin.zeroCells z.cells (grownCap w m 0 e - m)) e)) := fun ty _ _ _ => by
     simp [execOp,resolve,invoke,builtin,hsv,hxv,hrun ty]
    refine ⟨_,_,_,.inl rfl,exec,?_⟩
    have hzcs : z.cells.size = es := by rw [<- hzl]; exact hes.2
    have hge := grownCap_ge w m 0 e
    have hle := grownCap_le_maxLen w m 0 e (by simp only [maxLen]; omega)
    have hget : ∀ p q,p < m -> q < es -> (Builtin.zeroCells z.cells m ++ Builtin.zeroCells z.cells (grownCap w m 0 e - m)).getD (p * es + q) undef = z.cells.getD q undef := fun p q hpn hq => by
     have hlt := idx_lt hpn hq
     rw [Array.getD_eq_getD_getElem?,Array.getElem?_append_left (by rw [size_zeroCells,hzcs]; exact hlt)]
     simp only [Builtin.zeroCells,hzcs]
     have hq2 : q < z.cells.size := by rw [hzcs]; exact hq
     simp [hlt,Nat.mul_add_mod_self_right]
     rw [Nat.mod_eq_of_lt hq]
     simp [hq2]
    have := h.newArr hd (A := ⟨es,e,List.replicate m zero⟩) (cur := Builtin.zeroCells z.cells m ++ Builtin.zeroCells z.cells (grownCap w m 0 e - m)) (cap := grownCap w m 0 e)
     (w' := w.drew.alloc (.cells (Builtin.zeroCells z.cells m ++ Builtin.zeroCells z.cells (grownCap w m 0 e - m)) e))
     ⟨rfl,rfl,rfl,by simp,fun k hk _ => Below.heap_alloc w.drew _ k hk⟩ (g := w.heap.size) (Nat.le_refl _) (by simp) (heap_alloc_new w.drew _) hes.1
     (by simp only [Array.size_append,size_zeroCells,hzcs,<- Nat.add_mul]; congr 1; omega) (by simpa using hge) hle (fun x hx => by rw [List.eq_of_mem_replicate hx]; exact hes.2)
     (fun p q x c hp hq' => by
      have hr := List.eq_of_mem_replicate (List.mem_of_getElem? hp)
      subst hr
      have hpl : p < m := by
       have := (List.getElem?_eq_some_iff.1 hp).1
       simpa using this
      have hql : q < es := by rw [<- hes.2]; exact (List.getElem?_eq_some_iff.1 hq').1
      dsimp only
      rw [hget p q hpl hql]
      exact hzc w Z q c hq')
    simpa using this
   ·cases ht
  ·cases ht'
 ·cases hm
theorem bsxF_to {i es : Nat} : ∀ {vs : List PV},(bsxF i es vs).1 -> (bsxF i es vs).2.any (PV.to (fun j => j == i) nul) = false /\ (bsxF i es vs).2.length = vs.length * es
 | [],_ => ⟨rfl,by simp [bsxF]⟩
 | v :: r, h => by
   obtain ⟨⟨_,h2,h3⟩,h4⟩ := h
   obtain ⟨g1,g2⟩ := bsxF_to h4
   simp only [bsxF,List.any_append,h3,g1,List.length_append,h2,g2,List.length_cons,Nat.add_mul,Nat.one_mul]
   exact ⟨rfl,by omega⟩
theorem fill_bsx (h : Inv w0 Z0 N Z L st a w) (i es : Nat) : ∀ (xs : List Opd) (ps : List (Nat × Operand)) (j0 : Nat) (vs : Array Value) (cs : List PV),
  partsOk2 N.sh (idxO j0 xs) ps = true -> (bsxF i es (xs.map (·.ev st))).1 -> cs.length = j0 * es -> (j0 + xs.length) * es <= vs.size -> (∀ j c,cs[j]? = some c -> CM w Z L c (vs.getD j undef)) ->
  ∃ us,Instr.fill (fun i => some (i * es,es)) vs (ps.map fun x => (x.1,a.eval x.2)) = some us /\ us.size = vs.size /\ ∀ j c,(cs ++ (bsxF i es (xs.map (·.ev st))).2)[j]? = some c -> CM w Z L c (us.getD j undef) := by
 intro xs
 induction xs with
 | nil =>
   intro ps j0 vs cs hp _ _ _ hc
   cases ps with
   | nil => exact ⟨vs,rfl,rfl,by simpa [bsxF] using hc⟩
   | cons => simp [partsOk2,idxO] at hp
 | cons x xs ih =>
   intro ps j0 vs cs hp hv hl hs hc
   cases ps with
   | nil => simp [partsOk2,idxO] at hp
   | cons q ps =>
     obtain ⟨j',y⟩ := q
     simp only [partsOk2,idxO,Bool.and_eq_true,beq_iff_eq] at hp
     obtain ⟨⟨rfl,hx⟩,hp⟩ := hp
     simp only [List.map_cons,bsxF] at hv ⊢
     obtain ⟨⟨hok,hlen,hto⟩,hv⟩ := hv
     obtain ⟨hcs,hcc⟩ := (h.ev hx).cells hok
     obtain ⟨g1,g2⟩ := splice_get (j0 * es) (a.eval y).cells.toList 0 vs
     have hse : (j0 + (xs.length + 1)) * es = j0 * es + es + xs.length * es := by simp only [Nat.add_mul,Nat.one_mul]; omega
     simp only [List.length_cons] at hs
     rw [hse] at hs
     have hc' : ∀ j c, (cs ++ cellsOf (x.ev st))[j]? = some c ->
       CM w Z L c (((((a.eval y).cells.toList.zipIdx 0).foldl (fun (cs : Array Value) (x : Value × Nat) => cs.setIfInBounds (j0 * es + x.2) x.1) vs)).getD j undef) := by
      intro j c hj
      have hjl : j < cs.length + (cellsOf (x.ev st)).length := by
       have := (List.getElem?_eq_some_iff.1 hj).1
       simpa using this
      rw [hl,hlen] at hjl
      rw [g2 _ (by omega)]
      simp only [Array.length_toList,hcs,hlen]
      by_cases e : j < cs.length
      ·rw [List.getElem?_append_left e] at hj
       rw [if_neg (by omega)]
       exact hc j c hj
      ·rw [List.getElem?_append_right (by omega)] at hj
       rw [if_pos ⟨by omega,by omega⟩]
       have := hcc _ c hj
       rw [hl] at this
       simpa [Array.getD_eq_getD_getElem?,List.getD_eq_getElem?_getD] using this
     obtain ⟨us,h1,h2,h3⟩ := ih ps (j0 + 1) _ (cs ++ cellsOf (x.ev st)) hp hv (by simp only [List.length_append,hl,hlen,Nat.add_mul,Nat.one_mul]) (by rw [g1]; simp only [Nat.add_mul,Nat.one_mul]; omega) hc'
     refine ⟨us,?_,by rw [h2,g1],by rw [<- List.append_assoc]; exact h3⟩
     simp only [List.map_cons,Instr.fill]
     rw [if_neg (by simp only [ne_eq,Bool.or_eq_true,decide_eq_true_eq,not_or]; omega)]
     have e : ∀ (l : Array Value) (vs : Array Value),l.zipIdx.foldl (fun (cs : Array Value) (x : Value × Nat) => cs.setIfInBounds (j0 * es + x.2) x.1) vs = (l.toList.zipIdx 0).foldl (fun (cs : Array Value) (x : Value × Nat) => cs.setIfInBounds (j0 * es + x.2) x.1) vs := by
      intro l vs
      rw [<- Array.foldl_toList,Array.toList_zipIdx]
     rw [<- h1]
     congr 1
     exact e _ _
theorem bsx_runs (h : Inv w0 Z0 N Z L st a w) {i i' : Nat} (hi : N.dst (some i) (some i')) {es : Nat} {zero : List PV} {xs : List Opd} {op : Op} (hm : xoOk P N.sh (some i) (.bsx es zero) xs op = true)
  (hv : 0 < es /\ zero.length = es /\ (xs.map (·.ev st)).length * es <= 16777216) (hq : (bsxF i es (xs.map (·.ev st))).1) : Runs P w0 Z0 N w a op (some i') (st.newBx i es (bsxF i es (xs.map (·.ev st))).2 (xs.map (·.ev st)).length) := by
 cases op <;> simp only [xoOk,xoC,pfOk,Bool.false_eq_true] at hm
 rename_i t n ps
 simp only [Bool.and_eq_true,beq_iff_eq] at hm
 obtain ⟨⟨ht,rfl⟩,hps⟩ := hm
 rw [List.length_map] at hv ⊢
 split at ht
 ·rename_i e he
  simp only [Bool.and_eq_true] at ht
  obtain ⟨hsz,hz⟩ := ht
  obtain ⟨ti,z,hti,hzz,hzl,hzc⟩ := zeroIs_spec hz
  obtain ⟨hpos,hes,h24⟩ := hv
  obtain ⟨us,f1,f2,f3⟩ := fill_bsx h i es xs ps.toList 0 ((Array.range (xs.length * es)).map (z.cells[· % z.cells.size]!)) [] hps hq (by simp) (by simp) (fun j c hj => by simp at hj)
  have hrun : (Instr.buildSlice t xs.length (ps.map fun (x : Nat × Operand) => (x.1,a.eval x.2))).run P w = .ok (.slice (some ⟨w.heap.size,0,none⟩) xs.length xs.length) (w.alloc (.cells us e)) := by
   have h24' : ¬ (16777216 < xs.length * es) := by omega
   by_cases hn0 : xs.length * es = 0
   ·have f1' : Instr.fill (fun i => some (i * es, es)) (Array.map (fun (_ : Nat) => (default : Value)) (Array.range 0)) (ps.toList.map fun x => (x.1, a.eval x.2)) = some us := by
     rw [<- f1]; congr 1; simp [hn0]
    simp [Instr.buildSlice,run_underlying he,szIs_run hsz,hn0,newRow,f1']
   ·simp [Instr.buildSlice,run_underlying he,szIs_run hsz,h24',hn0,newRow,zeroValue,typeInfo,hti,hzz,f1]
  obtain ⟨t1,t2⟩ := bsxF_to hq
  rw [List.length_map] at t2
  refine ⟨_,_,_,.inl rfl,fun _ _ _ _ => by simp only [execOp,Sem.run_bind,hrun,Result.andThen_ok]; rfl,?_⟩
  exact h.newBx hi es xs.length (by have : xs.length * 1 <= xs.length * es := Nat.mul_le_mul_left _ hpos; simp only [maxLen]; omega) e (by rw [f2,t2]; simp) (fun j c hj => f3 j c (by simpa using hj)) t1
 ·cases ht
theorem mkx_runs (h : Inv w0 Z0 N Z L st a w) {i i' : Nat} (hi : N.dst (some i) (some i')) {by_ : Nat} {zero : PV} {l : Opd} {op : Op} (hm : xoOk P N.sh (some i) (.mkx by_ zero) [l] op = true) {k1 : IntKind} {n : Int} (e1 : l.ev st = .sc (.int k1 n))
  (hv : 0 <= n /\ n.toNat * by_ <= 140737488355328 /\ n <= 9223372036854775807) : Runs P w0 Z0 N w a op (some i') (st.newBx i 1 (List.replicate n.toNat zero) n.toNat) := by
 cases op <;> simp only [xoOk,xoC,pfOk,Bool.false_eq_true] at hm
 rename_i t l' c'
 simp only [Bool.and_eq_true] at hm
 obtain ⟨⟨ht,hl⟩,hc⟩ := hm
 split at ht
 ·rename_i e he
  simp only [Bool.and_eq_true] at ht
  obtain ⟨⟨hsz,hz⟩,hby⟩ := ht
  obtain ⟨ti,z,hti,hzz,hzl,hzc⟩ := zeroIs_spec hz
  have hby' : ti.bytes = by_ := by simpa [byIs,hti] using hby
  have hsz' : ti.size = 1 := by simpa [szIs,hti] using hsz
  obtain ⟨h0,hb,h63⟩ := hv
  have hl' := h.evInt hl e1
  have hc' := h.evInt hc e1
  have hbb : ((by_ : Nat) : Int) * n <= 281474976710656 := by
   have h1 : (n.toNat : Int) = n := Int.toNat_of_nonneg (by omega)
   rw [<- h1,<- Int.natCast_mul,Nat.mul_comm]; omega
  have hrun := run_make (P := P) w t e ti z he hti hzz k1 k1 n n h0 (Int.le_refl n) (by rw [hby']; exact hbb) h63
  rw [hsz'] at hrun
  obtain ⟨_,m1,m2⟩ := made_rows (t := t) (w := w) (Z := Z) hzl rfl (hzc w Z) n.toNat n.toNat (Nat.le_refl _)
  refine ⟨_,_,_,.inl rfl,fun _ _ _ _ => by simp only [execOp,hl',hc',Sem.run_bind,hrun,Result.andThen_ok]; rfl,?_⟩
  refine h.newBx hi 1 n.toNat (by simp only [maxLen]; omega) e (by simp [madeCells]) (fun j c hj => ?_) ?_
  ·have hjl := (List.getElem?_eq_some_iff.1 hj).1
   rw [List.length_replicate] at hjl
   have h2 := m2 j 0 [zero] c (by rw [List.getElem?_replicate,if_pos hjl]) (by
    rw [List.getElem?_replicate,if_pos hjl] at hj
    simpa using hj)
   have h3 : j * [zero].length + 0 = j := by simp
   rw [h3] at h2
   have h4 : n.toNat * [zero].length = n.toNat * 1 := rfl
   rw [h4] at h2
   exact ⟨h2.1.cr L,h2.2⟩
  ·rw [List.any_eq_false]
   intro c hc
   obtain rfl := (List.mem_replicate.1 hc).2
   have := (hzc w Z 0 c (by simp)).1
   generalize z.cells.getD 0 undef = u at this
   cases this <;> simp [PV.to]
 ·cases ht
theorem mxL_spec {b : Bool} : ∀ {vs : List PV} {n m : Int},mxL b n vs = some m -> ∃ ms : List Int,vs = ms.map (fun x => PV.sc (.int .i64 x)) /\ m = ms.foldl (fun x y => bif b then max x y else min x y) n
 | [],n,m,h => ⟨[],rfl,by simpa [mxL] using h.symm⟩
 | v :: r, n, m, h => by
   unfold mxL at h
   split at h
   ·cases ‹_ :: _ = []›
   ·rename_i m' r' e
    cases e
    obtain ⟨ms,rfl,h2⟩ := mxL_spec h
    exact ⟨m' :: ms,rfl,h2⟩
   ·cases h
theorem mx_vals (h : Inv w0 Z0 N Z L st a w) : ∀ {args : List Opd} {l : List Operand} {ms : List Int},mxOk N.sh args l = true -> args.map (·.ev st) = ms.map (fun x => PV.sc (.int .i64 x)) -> l.map a.eval = ms.map (fun x => Value.int .i64 x)
 | [],[],[],_,_ => rfl
 | x :: r, y :: s, m :: ms, hm, he => by
   simp only [mxOk,Bool.and_eq_true] at hm
   simp only [List.map_cons,List.cons.injEq] at he ⊢
   exact ⟨h.evInt hm.1 he.1,mx_vals h hm.2 he.2⟩
 | [],[],_ :: _,_,he => by simp at he
 | _ :: _,_ :: _,[],_,he => by simp at he
 | [],_ :: _,_,hm,_ => by cases hm
 | _ :: _,[],_,hm,_ => by cases hm
theorem max2_fold : ∀ (ms : List Int) (n : Int),(ms.map fun x => Value.int .i64 x).foldlM (m := Sem) Builtin.max2 (.int .i64 n) = pure (.int .i64 (ms.foldl (fun x y => max x y) n))
 | [],n => rfl
 | m :: ms, n => by
   simp only [List.map_cons,List.foldlM_cons,List.foldl_cons]
   rw [show Builtin.max2 (.int .i64 n) (.int .i64 m) = pure (.int .i64 (max n m)) from by
    show pure (Value.int .i64 (if m > n then m else n)) = _
    congr 2
    omega,pure_bind]
   exact max2_fold ms _
theorem min2_fold : ∀ (ms : List Int) (n : Int),(ms.map fun x => Value.int .i64 x).foldlM (m := Sem) Builtin.min2 (.int .i64 n) = pure (.int .i64 (ms.foldl (fun x y => min x y) n))
 | [],n => rfl
 | m :: ms, n => by
   simp only [List.map_cons,List.foldlM_cons,List.foldl_cons]
   rw [show Builtin.min2 (.int .i64 n) (.int .i64 m) = pure (.int .i64 (min n m)) from by
    show pure (Value.int .i64 (if m < n then m else n)) = _
    congr 2
    omega,pure_bind]
   exact min2_fold ms _
theorem pfOk_mx {κ : Sh} {b : Bool} {args : List Opd} {op : Op} : pfOk P κ (.mx b) args op = false := by
 cases args with
 | nil => cases op <;> rfl
 | cons x r => cases r <;> cases op <;> rfl
theorem mx_runs (h : Inv w0 Z0 N Z L st a w) {d d' : Option Nat} (hd : N.dst d d') {b : Bool} {args : List Opd} {op : Op} (hm : xoOk P N.sh d (.mx b) args op = true) {r : PV} (hv : mxF b (args.map (·.ev st)) = some r) : Runs P w0 Z0 N w a op d' (st.put d r) := by
 obtain ⟨c,hop,hm2⟩ := xoOk_call (fun _ => pfOk_mx) hm
 subst hop
 clear hm
 replace hm2 : (one2 c.callee (bif b then .max else .min) && mxOk N.sh args c.args.toList) = true := hm2
 rw [Bool.and_eq_true] at hm2
 obtain ⟨hc,hm⟩ := hm2
 obtain ⟨cal,cargs,tys⟩ := c
 replace hc := one2_spec hc
 dsimp only at hc hm
 subst hc
 unfold mxF at hv
 split at hv
 ·rename_i n vs e
  obtain ⟨m,hm',rfl⟩ := Option.map_eq_some_iff.1 hv
  obtain ⟨ms,rfl,rfl⟩ := mxL_spec hm'
  have hl := mx_vals h (ms := n :: ms) hm e
  refine ⟨.int .i64 _,_,w,.inl rfl,fun _ _ _ _ => ?_,Z,L,h.put hd (TR.sc _ rfl)⟩
  cases b
  ·simp [execOp,resolve,invoke,builtin,Builtin.min_,hl,min2_fold]
  ·simp [execOp,resolve,invoke,builtin,Builtin.max_,hl,max2_fold]
 ·cases hv
theorem xo_runs (h : Inv w0 Z0 N Z L st a w) {d d' : Option Nat} (hd : N.dst d d') {k : XK} {args : List Opd} {op : Op} (hm : xoOk P N.sh d k args op = true) {K : St -> Prop} (hK : xoK st d k (args.map (·.ev st)) K) :
  ∃ st',Runs P w0 Z0 N w a op d' st' /\ K st' := by
 unfold xoK at hK
 split at hK
 ·rename_i g x' e
  obtain ⟨x,rfl,hx⟩ : ∃ x,args = [x] /\ x.ev st = x' := by
   rcases args with _ | ⟨x,_ | ⟨y,r⟩⟩
   ·simp at e
   ·exact ⟨x,rfl,by simpa using e⟩
   ·simp at e
  unfold pfK at hK
  split at hK
  ·rename_i r hr
   exact ⟨_,pf_runs h hd hm (by rw [hx]; exact hr),hK⟩
  ·exact hK.elim
 ·rename_i e
  obtain ⟨x,rfl,hx⟩ : ∃ x,args = [x] /\ x.ev st = .nil := by
   rcases args with _ | ⟨x,_ | ⟨y,r⟩⟩
   ·simp at e
   ·exact ⟨x,rfl,by simpa using e⟩
   ·simp at e
  exact ⟨_,cap0_runs h hd hm hx,hK⟩
 ·rename_i x' e
  obtain ⟨x,rfl,hx⟩ : ∃ x,args = [x] /\ x.ev st = x' := by
   rcases args with _ | ⟨x,_ | ⟨y,r⟩⟩
   ·simp at e
   ·exact ⟨x,rfl,by simpa using e⟩
   ·simp at e
  have hd' : d' = none := by cases d' with | none => rfl | some _ => exact hd.elim
  subst hd'
  unfold clrK at hK
  split at hK
  ·split at hK
   ·rename_i A hA
    exact ⟨_,clr_runs h hm hx hA hK.1.1 hK.1.2,hK.2⟩
   ·exact hK.elim
  ·exact hK.elim
 ·rename_i s' n' i e
  obtain ⟨s,x,rfl,hs,hx⟩ : ∃ s x,args = [s,x] /\ s.ev st = s' /\ x.ev st = n' := by
   rcases args with _ | ⟨s,_ | ⟨x,_ | ⟨y,r⟩⟩⟩
   ·simp at e
   ·simp at e
   ·exact ⟨s,x,rfl,by simpa using e⟩
   ·simp at e
  obtain ⟨i',rfl⟩ : ∃ i',d' = some i' := by cases d' with | none => exact hd.elim | some i' => exact ⟨i',rfl⟩
  unfold apmK at hK
  split at hK
  ·obtain ⟨h1,h2,h3,h4,h5⟩ := hK
   exact ⟨_,apm_runs h hd hm hs hx h1 h2 h3 h4,h5⟩
  ·exact hK.elim
 ·rename_i es zero i
  obtain ⟨i',rfl⟩ : ∃ i',d' = some i' := by cases d' with | none => exact hd.elim | some i' => exact ⟨i',rfl⟩
  unfold bsxK at hK
  exact ⟨_,bsx_runs h hd hm hK.1.1 hK.1.2,hK.2⟩
 ·rename_i by_ zero l' i e
  obtain ⟨x,rfl,hx⟩ : ∃ x,args = [x] /\ x.ev st = l' := by
   rcases args with _ | ⟨x,_ | ⟨y,r⟩⟩
   ·simp at e
   ·exact ⟨x,rfl,by simpa using e⟩
   ·simp at e
  obtain ⟨i',rfl⟩ : ∃ i',d' = some i' := by cases d' with | none => exact hd.elim | some i' => exact ⟨i',rfl⟩
  unfold mkxK at hK
  split at hK
  ·exact ⟨_,mkx_runs h hd hm hx hK.1,hK.2⟩
  ·exact hK.elim
 ·unfold pfK at hK
  split at hK
  ·rename_i r hr
   exact ⟨_,mx_runs h hd hm hr,hK⟩
  ·exact hK.elim
 ·exact hK.elim
theorem xoK_mono {d : Option Nat} {k : XK} {args : List PV} {K K' : St -> Prop} (hk : ∀ st,K st -> K' st) (h : xoK st d k args K) : xoK st d k args K' := by
 unfold xoK at h ⊢
 split at h
 ·unfold pfK at h ⊢
  split at h
  ·exact hk _ h
  ·exact h.elim
 ·exact hk _ h
 ·unfold clrK at h ⊢
  split at h
  ·split at h
   ·exact ⟨h.1,hk _ h.2⟩
   ·exact h.elim
  ·exact h.elim
 ·unfold apmK at h ⊢
  split at h
  ·exact ⟨h.1,h.2.1,h.2.2.1,h.2.2.2.1,hk _ h.2.2.2.2⟩
  ·exact h.elim
 ·exact ⟨h.1,hk _ h.2⟩
 ·unfold mkxK at h ⊢
  split at h
  ·exact ⟨h.1,hk _ h.2⟩
  ·exact h.elim
 ·unfold pfK at h ⊢
  split at h
  ·exact hk _ h
  ·exact h.elim
 ·exact h.elim
end
end Go.Vc
namespace Go.Vc
open Go Go.RowKit
theorem TR.zone {w : World} {Z Z' : Zone} {c : PV} {v : Value} (hz : ∀ p b,Z p b -> Z' p b) (h : TR w Z c v) : TR w Z' c v := h.keep ⟨fun _ _ _ => rfl⟩ hz
theorem TA.zone {w : World} {Z Z' : Zone} {c : PV} {v : Value} (hz : ∀ p b,Z p b -> Z' p b) (h : TA w Z c v) : TA w Z' c v := by
 cases c <;> simp only [TA] at h ⊢ <;> first | exact h.zone hz | skip
 obtain ⟨vs,h1,h2,h3⟩ := h
 exact ⟨vs,h1,h2,fun j c hj => ⟨(h3 j c hj).1.zone hz,(h3 j c hj).2⟩⟩
theorem TV.zone {w : World} {Z Z' : Zone} {c : PV} {v : Value} (hz : ∀ p b,Z p b -> Z' p b) (h : TV w Z c v) : TV w Z' c v := by
 cases c <;> simp only [TV] at h ⊢ <;> first | exact h.zone hz | skip
 obtain ⟨vs,h1,h2,h3⟩ := h
 exact ⟨vs,h1,h2,fun j c hj => (h3 j c hj).zone hz⟩
section
variable {w0 : World} {Z0 : Zone} {Z : Zone} {L : Lay} {st : St} {w : World} {P : Env}
theorem FnOK.mem {X : Gh} {G : Nat -> Value} {f : Nat} {args : List PV} {post : PV -> Prop} {vs : Array Value} (hc : FnOK P.p f (args.map (PV.rsA st)) post) (h : Mem w0 Z0 X G Z L st w) (ha : ArgsR w Z L args vs) :
  Calls P.p f vs w fun e w' => ∃ v r Z' L',e = .returned v /\ post r /\ Mem w0 Z0 X G Z' L' st w' /\ VR w' Z' L' r v := by
 refine (hc w (calleeZ Z L st) ?_ ?_ vs (by simpa using ha.1) ?_).mono ?_
 ·rintro b (h1 | ⟨h1,_⟩)
  ·exact .inl (h.zt b h1)
  ·cases h1
 ·rintro p b (h1 | ⟨_,⟨id,A,h1,rfl⟩ | ⟨id,cs,h1,rfl⟩⟩)
  ·exact h.zb p b h1
  ·exact (h.owna id A h1).2.1
  ·exact (h.ownb id cs h1).2.1
 ·intro j cc hj
  rw [List.getElem?_map] at hj
  obtain ⟨x,h1,rfl⟩ := Option.map_eq_some_iff.1 hj
  exact (VR.rsA h (ha.2 j x h1)).tv
 ·rintro e w' ⟨v,r,rfl,h1,h2,h3⟩
  have hmv : Mem w0 Z0 X G (fun p b => Z p b \/ (w.heap.size <= b /\ b < w'.heap.size)) L st w' := h.move (fun _ _ h => .inl h) (fun b hb => hb.imp (h.zt b) (fun e => e))
   (fun p b hb => hb.imp (fun e => e) (fun e => e.1)) (fun p b hb => hb.elim (fun e => Nat.lt_of_lt_of_le (h.zb p b e) h3.size) (fun e => e.2)) h3
  refine ⟨v,r,_,L,rfl,h1,hmv,TV.vr L (h2.zone ?_)⟩
  rintro p b ⟨rfl,hb | hb⟩
  ·rcases hb with hb | ⟨hb,_⟩
   ·exact .inl hb
   ·cases hb
  ·exact .inr hb
theorem FnM.of_ok {f : Nat} {args : List PV} {post : PV -> Prop} {Q : PV -> St -> Prop} (hb : funOk P.p f = true) (hc : FnOK P.p f (args.map (PV.rsA st)) post) (hq : ∀ r,post r -> Q r st) : FnM P f args st Q :=
 ⟨hb,fun w0 Z0 X G Z L w vs _ h2 h3 => (FnOK.mem hc h2 h3).mono fun _ _ ⟨v,r,Z',L',e1,e2,e3⟩ => ⟨v,r,st,Z',L',e1,hq r e2,e3⟩⟩
end
end Go.Vc
namespace Go.Vc
open Go Go.RowKit
theorem to_le {pb pa qb qa : Nat -> Bool} (hb : ∀ i,pb i = true -> qb i = true) (ha : ∀ i,pa i = true -> qa i = true) {c : PV} (h : c.to qb qa = false) : c.to pb pa = false := by
 cases c <;> simp only [PV.to] at h ⊢ <;> first | (cases hp : pa _ <;> simp_all; done) | (cases hp : pb _ <;> simp_all; done) | rfl | (rename_i ids; rw [List.any_eq_false] at h ⊢; intro x hx hh; exact h x hx (hb x hh)) | (rw [Bool.or_eq_false_iff] at h ⊢; refine ⟨?_,?_⟩ <;> (rw [<- Bool.not_eq_true]; intro hh; first | (have := h.1; rw [hb _ hh] at this; cases this) | (have := h.2; rw [hb _ hh] at this; cases this)))
theorem anyTo_le {pb pa qb qa : Nat -> Bool} (hb : ∀ i,pb i = true -> qb i = true) (ha : ∀ i,pa i = true -> qa i = true) {cs : List PV} (h : cs.any (PV.to qb qa) = false) : cs.any (PV.to pb pa) = false := by
 rw [List.any_eq_false] at h ⊢
 intro x hx
 have := h x hx
 simp only [Bool.not_eq_true] at this ⊢
 exact to_le hb ha this
theorem toA_le {pb pa qb qa : Nat -> Bool} (hb : ∀ i,pb i = true -> qb i = true) (ha : ∀ i,pa i = true -> qa i = true) {c : PV} (h : c.toA qb qa = false) : c.toA pb pa = false := by
 cases c <;> simp only [PV.toA] at h ⊢ <;> first | exact to_le hb ha h | exact anyTo_le hb ha h
theorem toV_le {pb pa qb qa : Nat -> Bool} (hb : ∀ i,pb i = true -> qb i = true) (ha : ∀ i,pa i = true -> qa i = true) {c : PV} (h : c.toV qb qa = false) : c.toV pb pa = false := by
 cases c <;> simp only [PV.toV] at h ⊢ <;> first | exact toA_le hb ha h | skip
 rw [List.any_eq_false] at h ⊢
 intro x hx
 have := h x hx
 simp only [Bool.not_eq_true] at this ⊢
 exact toA_le hb ha this
theorem kill_id {pb pa : Nat -> Bool} {c : PV} (h : c.to pb pa = false) : c.kill pb pa = c := by simp [PV.kill,h]
theorem killL_id {pb pa : Nat -> Bool} {cs : List PV} (h : cs.any (PV.to pb pa) = false) : cs.map (PV.kill pb pa) = cs := by
 rw [List.any_eq_false] at h
 have : cs.map (PV.kill pb pa) = cs.map id := List.map_congr_left fun x hx => kill_id (by simpa using h x hx)
 simpa using this
theorem killA_id {pb pa : Nat -> Bool} {c : PV} (h : c.toA pb pa = false) : c.killA pb pa = c := by
 cases c <;> simp only [PV.toA] at h <;> simp only [PV.killA] <;> first | exact kill_id h | rw [killL_id h]
theorem killV_id {pb pa : Nat -> Bool} {c : PV} (h : c.toV pb pa = false) : c.killV pb pa = c := by
 cases c <;> simp only [PV.toV] at h <;> simp only [PV.killV] <;> first | exact killA_id h | skip
 rename_i cs
 rw [List.any_eq_false] at h
 have : cs.map (PV.killA pb pa) = cs.map id := List.map_congr_left fun x hx => killA_id (by simpa using h x hx)
 simpa using this
theorem to_kill_le {pb pa qb qa : Nat -> Bool} {c : PV} (h : c.to qb qa = false) : (c.kill pb pa).to qb qa = false := by
 unfold PV.kill
 cases c.to pb pa
 ·exact h
 ·show (c.killed pb).to qb qa = false
  have hq : ∀ (l : List Nat),l.any qb = false -> (l.filter fun i => !pb i).any qb = false := fun l hl => by
   rw [List.any_eq_false] at hl ⊢
   exact fun x hx => hl x (List.mem_filter.1 hx).1
  cases c <;> first | rfl | exact hq _ h | skip
  exact hq _ (by simpa [PV.to] using h)
theorem anyTo_kill_le {pb pa qb qa : Nat -> Bool} {cs : List PV} (h : cs.any (PV.to qb qa) = false) : (cs.map (PV.kill pb pa)).any (PV.to qb qa) = false := by
 rw [List.any_eq_false] at h ⊢
 intro x hx
 obtain ⟨y,hy,rfl⟩ := List.mem_map.1 hx
 have := h y hy
 simp only [Bool.not_eq_true] at this ⊢
 exact to_kill_le this
theorem toA_kill_le {pb pa qb qa : Nat -> Bool} {c : PV} (h : c.toA qb qa = false) : (c.killA pb pa).toA qb qa = false := by
 cases c
 case agg cs => exact anyTo_kill_le h
 all_goals
  simp only [PV.killA]
  refine toA_of' (to_kill_le h) (kill_agg ?_ pb pa)
  intro _ h; cases h
theorem toV_kill_le {pb pa qb qa : Nat -> Bool} {c : PV} (h : c.toV qb qa = false) : (c.killV pb pa).toV qb qa = false := by
 cases c
 case tup cs =>
  simp only [PV.toV,PV.killV] at h ⊢
  rw [List.any_eq_false] at h ⊢
  intro x hx
  obtain ⟨y,hy,rfl⟩ := List.mem_map.1 hx
  have := h y hy
  simp only [Bool.not_eq_true] at this ⊢
  exact toA_kill_le this
 case agg cs => exact anyTo_kill_le h
 all_goals
  simp only [PV.killV,PV.killA]
  refine toV_of (to_kill_le h) (kill_agg ?_ pb pa) (kill_tup ?_ pb pa) <;> (intro _ h; cases h)
theorem to_kill_disj {pb pa qb qa : Nat -> Bool} (hb : ∀ i,pb i = true -> qb i = false) (ha : ∀ i,pa i = true -> qa i = false) {c : PV} (h : (c.kill pb pa).to qb qa = false) : c.to qb qa = false := by
 unfold PV.kill at h
 cases hp : c.to pb pa
 ·simpa [hp] using h
 ·rw [hp] at h
  have hq : ∀ (l : List Nat),(l.filter fun i => !pb i).any qb = false -> l.any qb = false := fun l hl => by
   rw [List.any_eq_false] at hl ⊢
   intro x hx hh
   refine hl x (List.mem_filter.2 ⟨hx,?_⟩) hh
   cases hpx : pb x
   ·rfl
   ·rw [hb x hpx] at hh; cases hh
  cases c <;> first | exact ha _ hp | exact hb _ hp | (cases hp; done) | exact hq _ h | skip
  have := hq _ h
  simpa [PV.to] using this
theorem anyTo_kill_disj {pb pa qb qa : Nat -> Bool} (hb : ∀ i,pb i = true -> qb i = false) (ha : ∀ i,pa i = true -> qa i = false) {cs : List PV} (h : (cs.map (PV.kill pb pa)).any (PV.to qb qa) = false) : cs.any (PV.to qb qa) = false := by
 rw [List.any_eq_false] at h ⊢
 intro x hx
 have := h _ (List.mem_map_of_mem hx)
 simp only [Bool.not_eq_true] at this ⊢
 exact to_kill_disj hb ha this
theorem kill_hit {pb pa : Nat -> Bool} {c : PV} (h : c.to pb pa = true) : c.kill pb pa = c.killed pb := by unfold PV.kill; rw [h]; rfl
theorem filter_any (p : Nat -> Bool) (l : List Nat) (h : l.any p = false) : l.filter (fun i => !p i) = l := List.filter_eq_self.2 fun x hx => by simpa using List.any_eq_false.1 h x hx
theorem killed_kill (pb pa qb qa : Nat -> Bool) {c : PV} (hp : c.to pb pa = true) : (c.killed pb).kill qb qa = match c with
  | .clo _ ids => .cld ((ids.filter fun i => !pb i).filter fun i => !qb i)
  | .itr i j => .cld (([i,j].filter fun i => !pb i).filter fun i => !qb i)
  | .cld ids => .cld ((ids.filter fun i => !pb i).filter fun i => !qb i)
  | _ => .bot := by
 have key : ∀ l : List Nat,(PV.cld l).kill qb qa = .cld (l.filter fun i => !qb i) := fun l => by
  cases h : l.any qb
  ·rw [kill_id (show (PV.cld l).to qb qa = false from h),filter_any _ _ h]
  ·exact kill_hit (c := .cld l) h
 cases c <;> first | rfl | exact key _
theorem filter_swap (p q : Nat -> Bool) (l : List Nat) : (l.filter fun i => !p i).filter (fun i => !q i) = (l.filter fun i => !q i).filter (fun i => !p i) := by
 rw [List.filter_filter,List.filter_filter]
 exact List.filter_congr fun x _ => Bool.and_comm _ _
theorem kill_comm (pb pa qb qa : Nat -> Bool) (c : PV) : (c.kill pb pa).kill qb qa = (c.kill qb qa).kill pb pa := by
 cases hp : c.to pb pa <;> cases hq : c.to qb qa
 ·rw [kill_id hp,kill_id hq,kill_id hp]
 ·rw [kill_id hp,kill_hit hq,killed_kill qb qa pb pa hq]
  cases c <;> first | rfl | skip
  all_goals
   show PV.cld _ = PV.cld _
   congr 1
  ·rename_i ids; rw [filter_swap,filter_any pb ids hp]
  ·rename_i i j; rw [filter_swap,filter_any pb [i,j] (by simpa [PV.to] using hp)]
  ·rename_i ids; rw [filter_swap,filter_any pb ids hp]
 ·rw [kill_id hq,kill_hit hp,killed_kill pb pa qb qa hp]
  cases c <;> first | rfl | skip
  all_goals
   show PV.cld _ = PV.cld _
   congr 1
  ·rename_i ids; rw [filter_swap,filter_any qb ids hq]
  ·rename_i i j; rw [filter_swap,filter_any qb [i,j] (by simpa [PV.to] using hq)]
  ·rename_i ids; rw [filter_swap,filter_any qb ids hq]
 ·rw [kill_hit hp,kill_hit hq,killed_kill pb pa qb qa hp,killed_kill qb qa pb pa hq]
  cases c <;> first | rfl | skip
  all_goals
   show PV.cld _ = PV.cld _
   congr 1
   exact filter_swap _ _ _
theorem killA_kill {c : PV} (hc : ∀ cs,c ≠ .agg cs) (pb pa : Nat -> Bool) : c.killA pb pa = c.kill pb pa := by
 cases c <;> first | exact absurd rfl (hc _) | rfl
theorem toA_to {c : PV} (hc : ∀ cs,c ≠ .agg cs) {pb pa : Nat -> Bool} : c.toA pb pa = c.to pb pa := by
 cases c <;> first | exact absurd rfl (hc _) | rfl
theorem toV_toA {c : PV} (hc : ∀ cs,c ≠ .tup cs) {pb pa : Nat -> Bool} : c.toV pb pa = c.toA pb pa := by
 cases c <;> first | exact absurd rfl (hc _) | rfl
theorem killA_comm (pb pa qb qa : Nat -> Bool) (c : PV) : (c.killA pb pa).killA qb qa = (c.killA qb qa).killA pb pa := by
 by_cases hc : ∃ cs,c = .agg cs
 ·obtain ⟨cs,rfl⟩ := hc
  simp only [PV.killA,List.map_map]
  congr 1
  exact List.map_congr_left fun x _ => kill_comm pb pa qb qa x
 ·have hc : ∀ cs,c ≠ .agg cs := fun cs h => hc ⟨cs,h⟩
  rw [killA_kill hc,killA_kill hc,killA_kill (kill_agg hc _ _),killA_kill (kill_agg hc _ _),kill_comm]
theorem killV_killA {c : PV} (hc : ∀ cs,c ≠ .tup cs) (pb pa : Nat -> Bool) : c.killV pb pa = c.killA pb pa := by
 cases c <;> first | exact absurd rfl (hc _) | rfl
theorem killA_tup {c : PV} (hc : ∀ cs,c ≠ .tup cs) (pb pa : Nat -> Bool) : ∀ cs,c.killA pb pa ≠ .tup cs := by
 intro cs h
 cases c <;> first | exact absurd rfl (hc _) | (cases h; done) | exact kill_tup hc pb pa cs h
theorem killV_comm (pb pa qb qa : Nat -> Bool) (c : PV) : (c.killV pb pa).killV qb qa = (c.killV qb qa).killV pb pa := by
 by_cases hc : ∃ cs,c = .tup cs
 ·obtain ⟨cs,rfl⟩ := hc
  simp only [PV.killV,List.map_map]
  congr 1
  exact List.map_congr_left fun x _ => killA_comm pb pa qb qa x
 ·have hc : ∀ cs,c ≠ .tup cs := fun cs h => hc ⟨cs,h⟩
  rw [killV_killA hc,killV_killA hc,killV_killA (killA_tup hc _ _),killV_killA (killA_tup hc _ _),killA_comm]
theorem toA_kill_disj {pb pa qb qa : Nat -> Bool} (hb : ∀ i,pb i = true -> qb i = false) (ha : ∀ i,pa i = true -> qa i = false) {c : PV} (h : (c.killA pb pa).toA qb qa = false) : c.toA qb qa = false := by
 by_cases hc : ∃ cs,c = .agg cs
 ·obtain ⟨cs,rfl⟩ := hc
  exact anyTo_kill_disj hb ha h
 ·have hc : ∀ cs,c ≠ .agg cs := fun cs h => hc ⟨cs,h⟩
  rw [killA_kill hc,toA_to (kill_agg hc _ _)] at h
  rw [toA_to hc]
  exact to_kill_disj hb ha h
theorem toV_kill_disj {pb pa qb qa : Nat -> Bool} (hb : ∀ i,pb i = true -> qb i = false) (ha : ∀ i,pa i = true -> qa i = false) {c : PV} (h : (c.killV pb pa).toV qb qa = false) : c.toV qb qa = false := by
 by_cases hc : ∃ cs,c = .tup cs
 ·obtain ⟨cs,rfl⟩ := hc
  simp only [PV.toV,PV.killV] at h ⊢
  rw [List.any_eq_false] at h ⊢
  intro x hx
  have := h _ (List.mem_map_of_mem hx)
  simp only [Bool.not_eq_true] at this ⊢
  exact toA_kill_disj hb ha this
 ·have hc : ∀ cs,c ≠ .tup cs := fun cs h => hc ⟨cs,h⟩
  rw [killV_killA hc,toV_toA (killA_tup hc _ _)] at h
  rw [toV_toA hc]
  exact toA_kill_disj hb ha h
theorem map_up {α β : Type} (f : α -> β) (s : List (Nat × α)) (i : Nat) (v : α) : (up s i v).map (fun x => (x.1,f x.2)) = up (s.map fun x => (x.1,f x.2)) i (f v) := by
 induction s with
 | nil => rfl
 | cons p r ih =>
   obtain ⟨k,u⟩ := p
   simp only [up,List.map_cons]
   split
   ·rfl
   ·split
    ·rfl
    ·simp only [List.map_cons,ih]
theorem kill_nul (st : St) : st.kill nul nul = st := by
 obtain ⟨s,b,a,m⟩ := st
 have h1 : ∀ s : List (Nat × PV),(s.map fun x => (x.1,x.2.killV nul nul)) = s := fun s => by
  induction s with
  | nil => rfl
  | cons p r ih => simp [killV_id (PV.toV_nul p.2),ih]
 have h2 : ∀ s : List (Nat × List PV),(s.map fun x => (x.1,x.2.map (PV.kill nul nul))) = s := fun s => by
  induction s with
  | nil => rfl
  | cons p r ih =>
    have : p.2.map (PV.kill nul nul) = p.2 := killL_id (by simp [PV.to_nul])
    simp [this,ih]
 have h3 : (m.filter fun x => !nul x.1 && !mpTo m nul x.1) = m := List.filter_eq_self.2 fun x _ => by simp [mpTo_nul,nul]
 simp only [St.kill,h1,h2,h3]
theorem lk_kills (st : St) (pb pa : Nat -> Bool) (i : Nat) : lk (st.kill pb pa).s i = (lk st.s i).map (PV.killV pb pa) := lk_map st.s (PV.killV pb pa) i
theorem lk_killb (st : St) (pb pa : Nat -> Bool) (i : Nat) : lk (st.kill pb pa).b i = (lk st.b i).map (fun cs => cs.map (PV.kill pb pa)) := lk_map st.b (fun cs => cs.map (PV.kill pb pa)) i
theorem get_kill (st : St) (pb pa : Nat -> Bool) (i : Nat) : (st.kill pb pa).get i = (st.get i).killV pb pa := by
 unfold St.get
 rw [lk_kills]
 cases lk st.s i <;> rfl
structure Eff where
 kb : Nat -> Bool
 ka : Nat -> Bool
 p : Option (Nat × PV)
 bx : Option (Nat × List PV)
 ar : Option (Nat × Arr)
def upP {α : Type} (l : List (Nat × α)) : Option (Nat × α) -> List (Nat × α)
 | some (i,v) => up l i v
 | none => l
def Eff.run (e : Eff) (st : St) : St :=
 let st' := st.kill e.kb e.ka
 { s := upP st'.s e.p,b := upP st'.b e.bx,a := upP st'.a e.ar,m := st'.m }
theorem mpTo_filter (m : List (Nat × Mp)) (p : Nat -> Bool) (q : Nat -> Bool) (i : Nat) (h : p i = true) : mpTo (m.filter fun x => p x.1) q i = mpTo m q i := by
 unfold mpTo
 rw [lk_filter m p,if_pos h]
theorem killm_twice (m : List (Nat × Mp)) (p q : Nat -> Bool) : ((m.filter fun x => !p x.1 && !mpTo m p x.1).filter fun x => !q x.1 && !mpTo (m.filter fun x => !p x.1 && !mpTo m p x.1) q x.1) =
  m.filter fun x => (!p x.1 && !mpTo m p x.1) && (!q x.1 && !mpTo m q x.1) := by
 rw [List.filter_filter]
 refine List.filter_congr fun x _ => ?_
 cases h : (!p x.1 && !mpTo m p x.1)
 ·simp
 ·rw [mpTo_filter m (fun i => !p i && !mpTo m p i) q x.1 h]; simp
theorem killm_comm (m : List (Nat × Mp)) (p q : Nat -> Bool) : ((m.filter fun x => !p x.1 && !mpTo m p x.1).filter fun x => !q x.1 && !mpTo (m.filter fun x => !p x.1 && !mpTo m p x.1) q x.1) =
  ((m.filter fun x => !q x.1 && !mpTo m q x.1).filter fun x => !p x.1 && !mpTo (m.filter fun x => !q x.1 && !mpTo m q x.1) p x.1) := by
 rw [killm_twice,killm_twice]
 exact List.filter_congr fun x _ => Bool.and_comm _ _
theorem upP_comm {α : Type} (l : List (Nat × α)) (p q : Option (Nat × α)) (h : ∀ x y,p = some x -> q = some y -> x.1 ≠ y.1) : upP (upP l p) q = upP (upP l q) p := by
 cases p with
 | none => rfl
 | some p => cases q with
   | none => rfl
   | some q => exact up_comm l p.2 q.2 (h p q rfl rfl)
theorem upP_map {α β : Type} (f : α -> β) (s : List (Nat × α)) (p : Option (Nat × α)) : (upP s p).map (fun x => (x.1,f x.2)) = upP (s.map fun x => (x.1,f x.2)) (p.map fun x => (x.1,f x.2)) := by
 cases p with
 | none => rfl
 | some p => exact map_up f s p.1 p.2
theorem run_comm (e f : Eff) (st : St) (hd : ∀ x y, e.p = some x -> f.p = some y -> x.1 ≠ y.1) (hve : ∀ x, e.p = some x -> x.2.toV f.kb f.ka = false) (hvf : ∀ x, f.p = some x -> x.2.toV e.kb e.ka = false)
  (hb : ∀ x y,e.bx = some x -> f.bx = some y -> x.1 ≠ y.1) (hbe : ∀ x,e.bx = some x -> x.2.any (PV.to f.kb f.ka) = false) (hbf : ∀ x,f.bx = some x -> x.2.any (PV.to e.kb e.ka) = false)
  (ha : ∀ x y,e.ar = some x -> f.ar = some y -> x.1 ≠ y.1) : e.run (f.run st) = f.run (e.run st) := by
 unfold Eff.run St.kill
 simp only [upP_map,List.map_map]
 have h1 : f.p.map (fun x => (x.1,x.2.killV e.kb e.ka)) = f.p := by
  cases hx : f.p with
  | none => rfl
  | some x => simp [killV_id (hvf x hx)]
 have h2 : e.p.map (fun x => (x.1,x.2.killV f.kb f.ka)) = e.p := by
  cases hx : e.p with
  | none => rfl
  | some x => simp [killV_id (hve x hx)]
 have h3 : f.bx.map (fun x => (x.1,x.2.map (PV.kill e.kb e.ka))) = f.bx := by
  cases hx : f.bx with
  | none => rfl
  | some x => simp [killL_id (hbf x hx)]
 have h4 : e.bx.map (fun x => (x.1,x.2.map (PV.kill f.kb f.ka))) = e.bx := by
  cases hx : e.bx with
  | none => rfl
  | some x => simp [killL_id (hbe x hx)]
 rw [h1,h2,h3,h4]
 congr 1
 ·rw [upP_comm]
  ·congr 2
   refine List.map_congr_left fun x _ => ?_
   simp only [Function.comp,killV_comm f.kb f.ka e.kb e.ka]
  ·intro x y hx hy he; exact hd y x hy hx he.symm
 ·rw [upP_comm]
  ·congr 2
   refine List.map_congr_left fun x _ => ?_
   simp only [Function.comp,List.map_map]
   congr 1
   refine List.map_congr_left fun c _ => ?_
   exact kill_comm f.kb f.ka e.kb e.ka c
  ·intro x y hx hy he; exact hb y x hy hx he.symm
 ·rw [upP_comm]
  intro x y hx hy he; exact ha y x hy hx he.symm
 ·exact killm_comm _ _ _
theorem lk_upP {α : Type} (l : List (Nat × α)) (p : Option (Nat × α)) (j : Nat) (h : ∀ x,p = some x -> x.1 ≠ j) : lk (upP l p) j = lk l j := by
 cases p with
 | none => rfl
 | some p => show lk (up l p.1 p.2) j = _; rw [lk_up,if_neg (h p rfl)]
theorem run_get (e : Eff) (st : St) {i : Nat} (h : ∀ x,e.p = some x -> x.1 ≠ i) : (e.run st).get i = (st.get i).killV e.kb e.ka := by
 rw [<- get_kill]
 unfold St.get Eff.run
 simp only
 rw [lk_upP _ _ _ h]
theorem run_getp (e : Eff) (st : St) {x : Nat × PV} (h : e.p = some x) : (e.run st).get x.1 = x.2 := by
 unfold St.get Eff.run
 simp only [h,upP,lk_up,if_true,Option.getD_some]
theorem run_lkbx (e : Eff) (st : St) {x : Nat × List PV} (h : e.bx = some x) : lk (e.run st).b x.1 = some x.2 := by
 unfold Eff.run
 simp only [h,upP,lk_up,if_true]
theorem run_lkb (e : Eff) (st : St) {i : Nat} (h : ∀ x,e.bx = some x -> x.1 ≠ i) : lk (e.run st).b i = (lk st.b i).map (fun cs => cs.map (PV.kill e.kb e.ka)) := by
 rw [<- lk_killb]
 exact lk_upP _ _ _ h
theorem run_lka (e : Eff) (st : St) {i : Nat} (h : ∀ x,e.ar = some x -> x.1 ≠ i) : lk (e.run st).a i = lk st.a i := lk_upP _ _ _ h
end Go.Vc
namespace Go.Vc
open Go Go.RowKit
def isI (i : Nat) : Nat -> Bool := fun j => j == i
def sem (st : St) (d : Option Nat) : AOp -> Prop × Eff
 | .alc zero => match d with | some i => (True,⟨isI i,nul,some (i,.ptr i 0),some (i,zero),none⟩) | none => (False,⟨nul,nul,none,none,none⟩)
 | .box x => match d with | some i => (cellsOk (x.ev st) = true /\ (cellsOf (x.ev st)).any (PV.to (isI i) nul) = false,⟨isI i,nul,some (i,.ptr i 0),some (i,cellsOf (x.ev st)),none⟩) | none => (False,⟨nul,nul,none,none,none⟩)
 | .bsl es ty zero n parts => match d with
   | some i => let q := bslF st es parts (List.replicate n zero); ((0 < es /\ zero.length = es /\ n * es <= 16777216) /\ q.1,⟨nul,isI i,some (i,.view i 0 q.2.length),none,some (i,⟨es,ty,q.2⟩)⟩)
   | none => (False,⟨nul,nul,none,none,none⟩)
 | .mks es ty by_ zero l c => match d, l.ev st, c.ev st with
   | some i, .sc (.int _ n), .sc (.int _ m) => ((0 < es /\ zero.length = es) /\ 0 <= n /\ n <= m /\ m.toNat * by_ <= 140737488355328 /\ m <= 9223372036854775807,
     ⟨nul,isI i,some (i,.view i 0 (List.replicate n.toNat zero).length),none,some (i,⟨es,ty,List.replicate n.toNat zero⟩)⟩)
   | _,_,_ => (False,⟨nul,nul,none,none,none⟩)
 | .sto sz x v => match x.ev st with
   | .ptr id off => match lk st.b id with
     | some cs => ((cellsOk (v.ev st) = true /\ (cellsOf (v.ev st)).length = sz) /\ off + sz <= cs.length,⟨nul,nul,none,some (id,spl cs off (cellsOf (v.ev st))),none⟩)
     | none => (False,⟨nul,nul,none,none,none⟩)
   | .eptr id i off => match lk st.a id with
     | some A => (((cellsOk (v.ev st) = true /\ (cellsOf (v.ev st)).all pureC = true) /\ (cellsOf (v.ev st)).length = sz) /\ off + sz <= A.es /\ i < A.xs.length,
       ⟨nul,nul,none,none,some (id,{ A with xs := A.xs.set i (spl (A.xs.getD i []) off (cellsOf (v.ev st))) })⟩)
     | none => (False,⟨nul,nul,none,none,none⟩)
   | _ => (False,⟨nul,nul,none,none,none⟩)
 | .app es ty by_ s x => let q := srcOf st es (x.ev st); match d, s.ev st with
   | some i, .nil => match q.2 with
     | [] => (0 < es /\ q.1,⟨nul,nul,some (i,.nil),none,none⟩)
     | y :: r => ((0 < es /\ q.1) /\ (r.length + 1) * by_ <= 140737488355328 /\ r.length + 1 <= 9223372036854775807,⟨nul,isI i,some (i,.view i 0 (y :: r).length),none,some (i,⟨es,ty,y :: r⟩)⟩)
   | some i, .view id lo n => match lk st.a id with
     | some A => (((lo = 0 /\ A.es = es /\ A.ty = ty) /\ q.1) /\ n = A.xs.length /\ (n + q.2.length) * by_ <= 140737488355328 /\ n + q.2.length <= 9223372036854775807,
       ⟨nul,isI id,some (i,.view id 0 (n + q.2.length)),none,some (id,{ A with xs := A.xs ++ q.2 })⟩)
     | none => (False,⟨nul,nul,none,none,none⟩)
   | _,_ => (False,⟨nul,nul,none,none,none⟩)
 | .cpy es x y => let q := srcOf st es (y.ev st); match x.ev st with
   | .view id lo n => match lk st.a id with
     | some A => ((0 < es /\ A.es = es) /\ q.1,⟨nul,nul,d.map (fun i => (i,.int (min q.2.length n : Nat))),none,some (id,{ A with xs := cpyF A.xs lo (q.2.take n) })⟩)
     | none => (False,⟨nul,nul,none,none,none⟩)
   | _ => (False,⟨nul,nul,none,none,none⟩)
 | op => ((aev st op).1,⟨nul,nul,d.map (fun i => (i,(aev st op).2)),none,none⟩)
theorem frzs_nil (st : St) {cs : List PV} (h : viewIds cs = []) : st.frzs cs = st := by simp [St.frzs,h]
theorem frzParts_id (st : St) (parts : List (Nat × Opd)) (h : ∀ p ∈ parts,viewIds (cellsOf (p.2.ev st)) = []) : frzParts st parts = st := by
 induction parts with
 | nil => rfl
 | cons p r ih =>
   obtain ⟨j,x⟩ := p
   simp only [frzParts]
   rw [frzs_nil st (h (j,x) List.mem_cons_self)]
   exact ih fun p hp => h p (List.mem_cons_of_mem _ hp)
theorem run_rd (st : St) (d : Option Nat) (v : PV) : (⟨nul,nul,d.map (fun i => (i,v)),none,none⟩ : Eff).run st = st.put d v := by
 unfold Eff.run
 simp only [kill_nul]
 cases d <;> rfl
theorem run_rd1 (st : St) (i : Nat) (v : PV) : (⟨nul,nul,some (i,v),none,none⟩ : Eff).run st = st.put (some i) v := run_rd st (some i) v
theorem sem_op (P : Env) (st : St) (d : Option Nat) (g : Option (Nat × Bool)) (t : List Nat) (op : AOp) (hc : isCal op = false) (hm : isCpy op = false) (u : List Nat) (hs : sideOK st t u op) (hn : isSt1 op = true -> d = none) (K : St -> Prop) :
  opK P ⟨d,g,op⟩ st K ↔ (sem st d op).1 /\ K ((sem st d op).2.run st) := by
 cases op
 case cal => simp [isCal] at hc
 case clv => simp [isCal] at hc
 case cpy es x y =>
  simp only [opK,isHeavy,if_true,hev,sem]
  generalize srcOf st es (y.ev st) = q
  cases x.ev st with
  | view id lo n =>
    simp only
    cases lk st.a id with
    | none => simp
    | some A =>
      simp only [Eff.run,kill_nul,upP]
      cases d <;> exact Iff.rfl
  | _ => simp
 case alc zero =>
  simp only [opK,isHeavy,if_true,hev,sem]
  cases d with
  | none => simp
  | some i => exact Iff.rfl
 case box x =>
  simp only [opK,isHeavy,if_true,hev,sem]
  cases d with
  | none => simp
  | some i => exact Iff.rfl
 case bsl es ty zero n parts =>
  simp only [opK,isHeavy,if_true,hev,sem]
  cases d with
  | none => simp
  | some i =>
    simp only
    rw [frzParts_id st parts hs]
    exact Iff.rfl
 case mks es ty by_ zero l c =>
  simp only [opK,isHeavy,if_true,hev,sem]
  cases d with
  | none => simp
  | some i =>
    generalize l.ev st = u
    generalize c.ev st = v
    cases u with
    | sc u => cases v with
      | sc v => cases u <;> cases v <;> first | exact Iff.rfl | simp
      | _ => cases u <;> simp
    | _ => cases v <;> simp
 case sto sz x v =>
  have hd := hn rfl
  subst hd
  simp only [sideOK] at hs
  simp only [opK,isHeavy,if_true,hev,sem]
  cases hx : x.ev st with
  | ptr id off =>
    simp only
    cases hb : lk st.b id with
    | none => simp
    | some cs =>
      simp only [Eff.run,kill_nul,upP]
  | eptr id i off =>
    simp only [frzs_nil st hs.1]
    cases ha : lk st.a id with
    | none => simp
    | some A =>
      simp only [Eff.run,kill_nul,upP,hx,and_true]
  | _ => simp
 case app es ty by_ s x =>
  simp only [opK,isHeavy,if_true,hev,sem]
  cases d with
  | none => simp
  | some i =>
    generalize srcOf st es (x.ev st) = q
    obtain ⟨q1,q2⟩ := q
    cases s.ev st with
    | nil =>
      cases q2 with
      | nil => simp only [run_rd1]; exact Iff.rfl
      | cons y r => exact Iff.rfl
    | view id lo n =>
      simp only
      cases lk st.a id with
      | none => simp
      | some A => exact Iff.rfl
    | _ => simp
 all_goals first | (simp [isCpy,isMem] at hm; done) | simp only [opK,isHeavy,Bool.false_eq_true,if_false,sem,run_rd]
structure FrW (pb pa : Nat -> Bool) (st st' : St) : Prop where
 b : ∀ i,pb i = false -> lk st'.b i = lk st.b i
 a : ∀ i,pa i = false -> lk st'.a i = lk st.a i
structure FrS (pb pa : Nat -> Bool) (st st' : St) : Prop extends FrW pb pa st st' where
 bx : ∀ i cs,lk st.b i = some cs -> cs.any (PV.to pb pa) = false
def FrO (pb pa : Nat -> Bool) (st st' : St) (x : Opd) : Prop := x.ev st' = x.ev st /\ (x.ev st).toV pb pa = false
section
variable {pb pa : Nat -> Bool} {st st' : St}
theorem bldF_fr (parts : List (Nat × Nat × Opd)) (cs : List PV) (h : ∀ x ∈ parts.map (fun p => p.2.2),x.ev st' = x.ev st) : bldF st' parts cs = bldF st parts cs := by
 induction parts generalizing cs with
 | nil => rfl
 | cons p r ih =>
   obtain ⟨o,s,x⟩ := p
   simp only [List.map_cons,List.forall_mem_cons] at h
   simp only [bldF,h.1]
   rw [ih _ h.2]
theorem bslF_fr (es : Nat) (parts : List (Nat × Opd)) (rs : List (List PV)) (h : ∀ x ∈ parts.map (fun p => p.2),x.ev st' = x.ev st) : bslF st' es parts rs = bslF st es parts rs := by
 induction parts generalizing rs with
 | nil => rfl
 | cons p r ih =>
   obtain ⟨o,x⟩ := p
   simp only [List.map_cons,List.forall_mem_cons] at h
   simp only [bslF,h.1]
   rw [ih _ h.2]
theorem slcB_fr (n : Nat) (lo hi : Option Opd) (h : ∀ x ∈ optL lo ++ optL hi,x.ev st' = x.ev st) : slcB st' n lo hi = slcB st n lo hi := by
 cases lo <;> cases hi <;> simp only [optL,List.nil_append,List.append_nil,List.forall_mem_append,List.forall_mem_cons] at h <;> simp only [slcB]
 ·rw [h.1]
 ·rw [h.1]
 ·rw [h.1.1,h.2.1]
theorem aev_free (op : AOp) (hf : memFree op = true) (h : ∀ x ∈ opds op,x.ev st' = x.ev st) : aev st' op = aev st op := by
 cases op <;> simp only [memFree] at hf <;> first | (exact absurd hf Bool.false_ne_true) | skip
 case bld zero parts => simp only [aev]; rw [bldF_fr parts zero h]
 case lenA => rfl
 all_goals
  simp only [opds,List.forall_mem_cons] at h
 case pick => simp only [aev,h.1,h.2.1,h.2.2.1]
 all_goals first
  | (simp only [aev,h.1,h.2.1]; done)
  | (simp only [aev,h.1]; done)
theorem aev_fr (hf : FrW pb pa st st') (op : AOp) (hc : isCpy op = false) (h : ∀ x ∈ opds op,FrO pb pa st st' x) : aev st' op = aev st op := by
 by_cases hm : memFree op = true
 ·exact aev_free op hm fun x hx => (h x hx).1
 cases op <;> simp only [memFree,not_true_eq_false] at hm
 case ld agg sz x =>
  have hx := h x (by simp [opds])
  simp only [aev,hx.1]
  cases hv : x.ev st with
  | ptr id off =>
    have h2 := hx.2; rw [hv] at h2
    simp only [hf.b id h2]
  | eptr id i off =>
    have h2 := hx.2; rw [hv] at h2
    simp only [hf.a id h2]
  | _ => rfl
 case ixs es x i =>
  have hx := h x (by simp [opds])
  have hi := h i (by simp [opds])
  simp only [aev,hx.1,hi.1]
  generalize i.ev st = j
  have h2 := hx.2
  revert h2
  generalize x.ev st = u
  intro h2
  cases u with
  | view id lo n =>
    cases j with
    | sc v => cases v <;> first | rfl | simp only [hf.a id h2]
    | _ => rfl
  | _ =>
    cases j with
    | sc v => cases v <;> rfl
    | _ => rfl
 case slc es x lo hi =>
  have hx := h x (by simp [opds])
  have hb := fun n => slcB_fr (st := st) (st' := st') n lo hi fun y hy => (h y (by simp only [opds]; exact List.mem_cons_of_mem _ hy)).1
  simp only [aev,hx.1,hb]
  cases hv : x.ev st with
  | view id l n =>
    have h2 := hx.2; rw [hv] at h2
    simp only [hf.a id h2]
  | _ => rfl
 all_goals first | (simp [isCpy,isMem] at hc; done) | rfl
theorem srcOf_fr (hf : FrW pb pa st st') (es : Nat) {v : PV} (h : v.toV pb pa = false) : srcOf st' es v = srcOf st es v := by
 cases v with
 | view id lo n => simp only [srcOf,hf.a id h]
 | _ => rfl
theorem sem_fr (hf : FrW pb pa st st') (d : Option Nat) (op : AOp) (hc : isCpy op = false) (h : ∀ x ∈ opds op,FrO pb pa st st' x) : sem st' d op = sem st d op := by
 cases op
 case alc zero => rfl
 case box x =>
  have hx := h x (by simp [opds])
  simp only [sem,hx.1]
 case bsl es ty zero n parts =>
  simp only [sem]
  rw [bslF_fr es parts _ fun x hx => (h x hx).1]
 case mks es ty by_ zero l c =>
  have hx := h l (by simp [opds])
  have hy := h c (by simp [opds])
  simp only [sem,hx.1,hy.1]
 case sto sz x v =>
  have hx := h x (by simp [opds])
  have hy := h v (by simp [opds])
  simp only [sem,hx.1,hy.1]
  cases hv : x.ev st with
  | ptr id off => have h2 := hx.2; rw [hv] at h2; simp only [hf.b id h2]
  | eptr id i off => have h2 := hx.2; rw [hv] at h2; simp only [hf.a id h2]
  | _ => rfl
 case app es ty by_ s x =>
  have hx := h s (by simp [opds])
  have hy := h x (by simp [opds])
  simp only [sem,hx.1,hy.1,srcOf_fr hf es hy.2]
  have h2 := hx.2
  revert h2
  generalize s.ev st = u
  intro h2
  cases d with
  | none => cases u <;> rfl
  | some i => cases u with
    | view id lo n => simp only [hf.a id h2]
    | _ => rfl
 case cpy es x y =>
  have hx := h x (by simp [opds])
  have hy := h y (by simp [opds])
  simp only [sem,hx.1,hy.1,srcOf_fr hf es hy.2]
  have h2 := hx.2
  revert h2
  generalize x.ev st = u
  intro h2
  cases u with
  | view id lo n => simp only [hf.a id h2]
  | _ => rfl
 all_goals
  simp only [sem]
  rw [aev_fr hf _ hc h]
theorem rs0_fr (hf : FrS pb pa st st') {v : PV} (h : v.to pb pa = false) : v.rs0 st' = v.rs0 st := by
 cases v with
 | view id lo n => simp only [PV.rs0,hf.a id h]
 | eptr id i o => simp only [PV.rs0,hf.a id h]
 | _ => rfl
theorem rs0L_fr (hf : FrS pb pa st st') {cs : List PV} (h : cs.any (PV.to pb pa) = false) : cs.map (PV.rs0 st') = cs.map (PV.rs0 st) := by
 rw [List.any_eq_false] at h
 exact List.map_congr_left fun x hx => rs0_fr hf (by simpa using h x hx)
theorem rs1_fr (hf : FrS pb pa st st') {v : PV} (h : v.to pb pa = false) : v.rs1 st' = v.rs1 st := by
 cases v with
 | ptr id off =>
   simp only [PV.rs1,hf.b id h]
   cases hb : lk st.b id with
   | none => rfl
   | some cs => simp only [rs0L_fr hf (hf.bx id cs hb)]
 | clo f ids =>
   simp only [PV.rs1]
   congr 1
   have h : ids.any pb = false := h
   rw [List.any_eq_false] at h
   refine List.map_congr_left fun i hi => ?_
   have h2 : pb i = false := by simpa using h i hi
   simp only [rsBox,hf.b i h2]
   cases hb : lk st.b i with
   | none => rfl
   | some cs => simp only [rs0L_fr hf (hf.bx i cs hb)]
 | bv id es n =>
   simp only [PV.rs1,hf.b id h]
   cases hb : lk st.b id with
   | none => rfl
   | some cs =>
     have h1 := hf.bx id cs hb
     rw [List.any_eq_false] at h1
     have h2 : (cs.map fun c => [c.rs0 st']) = cs.map fun c => [c.rs0 st] := List.map_congr_left fun x hx => by rw [rs0_fr hf (by simpa using h1 x hx)]
     simp only [h2]
 | _ => exact rs0_fr hf h
theorem rsA_fr (hf : FrS pb pa st st') {v : PV} (h : v.toV pb pa = false) : v.rsA st' = v.rsA st := by
 cases v with
 | tup cs => rfl
 | agg cs =>
   simp only [PV.rsA]
   congr 1
   have h : cs.any (PV.to pb pa) = false := h
   rw [List.any_eq_false] at h
   exact List.map_congr_left fun x hx => rs1_fr hf (by simpa using h x hx)
 | _ =>
   have h2 := h
   rw [toV_toA (by intro cs e; cases e),toA_to (by intro cs e; cases e)] at h2
   exact rs1_fr hf h2
end
end Go.Vc
namespace Go.Vc
open Go Go.RowKit
def gst (st : St) : Option (Nat × Bool) -> Option Bool
 | none => some true
 | some (s,w) => match st.get s with | .sc (.bool b) => some (b == w) | .tup [] => some false | _ => none
def putE (d : Option Nat) (v : PV) : Eff := ⟨nul,nul,d.map (fun i => (i,v)),none,none⟩
def Can (P : Env) (x : DO) (st : St) (S : Eff -> Prop) : Prop :=
 match gst st x.o.g with
 | none => False
 | some false => S = fun e => e = putE x.o.d (.tup [])
 | some true => match x.o.op with
   | .cal f args => ∃ post,FnOK P.p f (args.map fun y => (y.ev st).rsA st) post /\ S = fun e => ∃ r,post r /\ e = putE x.o.d r
   | .clv y args => ∃ f u v post,y.ev st = .sc (.func (.func f) u v) /\ funOk P.p f = true /\ FnOK P.p f (args.map fun y => (y.ev st).rsA st) post /\ S = fun e => ∃ r,post r /\ e = putE x.o.d r
   | op => (isCpy op = false /\ sideOK st x.t x.u op) /\ (sem st x.o.d op).1 /\ S = fun e => e = (sem st x.o.d op).2
structure Good (x : DO) (st : St) (e : Eff) : Prop where
 d : ∀ p,e.p = some p -> x.o.d = some p.1
 kb : ∀ i,e.kb i = true -> inL x.t i = true
 ka : ∀ i,e.ka i = true -> inL x.t i = true
 bx : ∀ p,e.bx = some p -> inL x.t p.1 = true
 ar : ∀ p,e.ar = some p -> inL x.t p.1 = true
 nos : ∀ s,srcS x.o.op ≠ some s -> (st.get s).toV (inL x.t) (inL x.t) = false
 nob : ∀ i cs,lk st.b i = some cs -> cs.any (PV.to (inL x.t) (inL x.t)) = false
 v : ∀ p,e.p = some p -> p.2.toV (inL x.u) (inL x.u) = false
 bv : ∀ p,e.bx = some p -> p.2.any (PV.to (inL x.u) (inL x.u)) = false
 od : ∀ i,x.o.d = some i -> (st.get i).toV (inL x.u) (inL x.u) = false
 ob : ∀ i cs,inL x.t i = true -> lk st.b i = some cs -> cs.any (PV.to (inL x.u) (inL x.u)) = false
structure Apart (x y : DO) : Prop where
 rd : ∀ s ∈ rdS y.o,x.o.d ≠ some s /\ srcS x.o.op ≠ some s
 dd : ∀ s,y.o.d = some s -> x.o.d ≠ some s /\ srcS x.o.op ≠ some s
 tu : ∀ i,inL y.t i = true -> inL x.u i = true
 tt : ∀ i,inL y.t i = true -> inL x.t i = false
theorem apart_of {x y : DO} (h : apart1 x y = true) : Apart x y := by
 simp only [apart1,Bool.and_eq_true,List.all_eq_true] at h
 obtain ⟨⟨h1,h2⟩,h3⟩ := h
 refine ⟨fun s hs => ⟨fun e => ?_,fun e => ?_⟩,fun s hs => ⟨fun e => ?_,fun e => ?_⟩,fun i hi => ?_,fun i hi => ?_⟩
 ·rw [e] at h1; simp at h1; exact h1.1 hs
 ·rw [e] at h2; simp at h2; exact h2.1 hs
 ·rw [e,hs] at h1; simp at h1
 ·rw [e,hs] at h2; simp at h2
 ·exact (h3 i (by simpa [inL] using hi)).1
 ·exact (Bool.not_eq_true' _).mp (h3 i (by simpa [inL] using hi)).2
section
variable {P : Env} {x y : DO} {st : St} {e f : Eff} {S : Eff -> Prop}
theorem fr_good (h : Good x st e) : FrS (inL x.t) (inL x.t) st (e.run st) := by
 refine ⟨⟨fun i hi => ?_,fun i hi => ?_⟩,h.nob⟩
 ·rw [run_lkb]
  ·cases hl : lk st.b i with
   | none => rfl
   | some cs => simp [killL_id (anyTo_le h.kb h.ka (h.nob i cs hl))]
  ·intro p hp he
   have := h.bx p hp
   rw [he,hi] at this; cases this
 ·rw [run_lka]
  intro p hp he
  have := h.ar p hp
  rw [he,hi] at this; cases this
theorem run_get_good (h : Good x st e) {s : Nat} (hd : x.o.d ≠ some s) (hs : srcS x.o.op ≠ some s) : (e.run st).get s = st.get s := by
 rw [run_get]
 ·exact killV_id (toV_le h.kb h.ka (h.nos s hs))
 ·intro p hp he
  exact hd (by rw [h.d p hp,he])
theorem opd_fr (h : Good x st e) {o : Opd} (hd : ∀ s ∈ opdS o,x.o.d ≠ some s /\ srcS x.o.op ≠ some s) (hp : opdP o = true) : FrO (inL x.t) (inL x.t) st (e.run st) o := by
 cases o with
 | t n =>
   obtain ⟨h1,h2⟩ := hd n (by simp [opdS])
   exact ⟨run_get_good h h1 h2,h.nos n h2⟩
 | c p =>
   refine ⟨rfl,?_⟩
   simp only [opdP,Bool.not_eq_true'] at hp
   exact toV_le (fun _ _ => rfl) (fun _ _ => rfl) hp
theorem side_fr (st st' : St) (t u : List Nat) (op : AOp) (h : ∀ o ∈ opds op,o.ev st' = o.ev st) : sideOK st' t u op ↔ sideOK st t u op := by
 cases op <;> simp only [sideOK]
 case bsl es ty zero n parts =>
  constructor <;> intro hh p hp <;> have := hh p hp
  ·rw [h p.2 (by simp only [opds]; exact List.mem_map_of_mem hp)] at this; exact this
  ·rw [h p.2 (by simp only [opds]; exact List.mem_map_of_mem hp)]; exact this
 case sto sz x v => rw [h v (by simp [opds]),h x (by simp [opds])]
 case ld agg sz x => rw [h x (by simp [opds])]
 case ixs es x i => rw [h x (by simp [opds])]
 case slc es x lo hi => rw [h x (by simp [opds])]
 case app es ty by_ s x => rw [h s (by simp [opds])]
theorem gst_fr {st st' : St} (o : AO) (h : ∀ s ∈ rdS o,st'.get s = st.get s) : gst st' o.g = gst st o.g := by
 cases hg : o.g with
 | none => rfl
 | some p => simp only [gst]; rw [h p.1 (by simp [rdS,hg])]
theorem can_fr' {st st' : St} {pb pa : Nat -> Bool} (hf : FrS pb pa st st') (hg : gst st' y.o.g = gst st y.o.g) (hcp : isCpy y.o.op = false) (ho : ∀ o ∈ opds y.o.op,FrO pb pa st st' o) : Can P y st' S ↔ Can P y st S := by
 unfold Can
 rw [hg]
 cases gst st y.o.g with
 | none => exact Iff.rfl
 | some b =>
   cases b with
   | false => exact Iff.rfl
   | true =>
     simp only
     split
     ·rename_i f args hop
      have : (args.map fun z => (z.ev st').rsA st') = args.map fun z => (z.ev st).rsA st := by
       refine List.map_congr_left fun z hz => ?_
       have h := ho z (by rw [hop]; exact hz)
       rw [h.1,rsA_fr hf h.2]
      rw [this]
     ·rename_i z args hop
      have : (args.map fun z => (z.ev st').rsA st') = args.map fun z => (z.ev st).rsA st := by
       refine List.map_congr_left fun z hz => ?_
       have h := ho z (by rw [hop]; exact List.mem_cons_of_mem _ hz)
       rw [h.1,rsA_fr hf h.2]
      rw [this,(ho z (by rw [hop]; exact List.mem_cons_self)).1]
     ·rw [side_fr st st' y.t y.u y.o.op (fun o h => (ho o h).1),sem_fr hf.toFrW _ _ hcp ho]
theorem opdS_rd {o : Opd} (h : o ∈ opds y.o.op) {s : Nat} (hs : s ∈ opdS o) : s ∈ rdS y.o := by
 simp only [rdS,List.mem_append,List.mem_flatMap]
 exact .inr ⟨o,h,hs⟩
theorem can_fr (h : Good x st e) (ha : Apart x y) (hcp : isCpy y.o.op = false) (hp : (opds y.o.op).all opdP = true) : Can P y (e.run st) S ↔ Can P y st S :=
 can_fr' (fr_good h) (gst_fr _ fun s hs => run_get_good h (ha.rd s hs).1 (ha.rd s hs).2) hcp fun o ho => opd_fr h (fun s hs => ha.rd s (opdS_rd ho hs)) (List.all_eq_true.1 hp o ho)
theorem can_sing (hc : isCal x.o.op = false) (h : Can P x st S) : ∃ e,S = fun f => f = e := by
 unfold Can at h
 split at h
 ·exact h.elim
 ·exact ⟨_,h⟩
 ·split at h
  ·rename_i hop; rw [hop] at hc; cases hc
  ·rename_i hop; rw [hop] at hc; cases hc
  ·exact ⟨_,h.2.2⟩
theorem inL_disj (ha : Apart x y) (h : Good x st e) : (∀ i,e.kb i = true -> inL y.t i = false) /\ ∀ i,e.ka i = true -> inL y.t i = false := by
 constructor <;> intro i hi <;> cases hy : inL y.t i <;> first | rfl | skip
 ·have h1 := ha.tt i hy; rw [h.kb i hi] at h1; cases h1
 ·have h1 := ha.tt i hy; rw [h.ka i hi] at h1; cases h1
theorem good_pre (ha : Apart x y) (hb : Apart y x) (h : Good x st e) (hy : Good y (e.run st) f) : Good y st f := by
 obtain ⟨hkb,hka⟩ := inL_disj ha h
 refine ⟨hy.d,hy.kb,hy.ka,hy.bx,hy.ar,fun s hs => ?_,fun i cs hi => ?_,hy.v,hy.bv,fun i hi => ?_,fun i cs ht hi => ?_⟩
 ·by_cases hd : x.o.d = some s
  ·exact toV_le ha.tu ha.tu (h.od s hd)
  ·have h1 := hy.nos s hs
   rw [run_get] at h1
   ·exact toV_kill_disj hkb hka h1
   ·intro p hp he; exact hd (by rw [h.d p hp,he])
 ·cases ht : inL x.t i
  ·have h1 := hy.nob i (cs.map (PV.kill e.kb e.ka)) (by
    rw [run_lkb,hi]; · rfl
    ·intro p hp he; have := h.bx p hp; rw [he,ht] at this; cases this)
   exact anyTo_kill_disj hkb hka h1
  ·exact anyTo_le ha.tu ha.tu (h.ob i cs ht hi)
 ·obtain ⟨h1,h2⟩ := ha.dd i hi
  have h3 := hy.od i hi
  rw [run_get_good h h1 h2] at h3
  exact h3
 ·have h1 : lk (e.run st).b i = some cs := by rw [(fr_good h).b i (ha.tt i ht)]; exact hi
  exact hy.ob i cs ht h1
theorem good_post (ha : Apart x y) (hb : Apart y x) (h : Good x st e) (hy : Good y st f) : Good x (f.run st) e := by
 refine ⟨h.d,h.kb,h.ka,h.bx,h.ar,fun s hs => ?_,fun i cs hi => ?_,h.v,h.bv,fun i hi => ?_,fun i cs ht hi => ?_⟩
 ·by_cases hd : ∃ p,f.p = some p /\ p.1 = s
  ·obtain ⟨p,h1,rfl⟩ := hd
   rw [run_getp f st h1]
   exact toV_le hb.tu hb.tu (hy.v p h1)
  ·rw [run_get]
   ·exact toV_kill_le (h.nos s hs)
   ·intro p hp he; exact hd ⟨p,hp,he⟩
 ·by_cases hd : ∃ p,f.bx = some p /\ p.1 = i
  ·obtain ⟨p,h1,rfl⟩ := hd
   rw [run_lkbx f st h1] at hi
   cases hi
   exact anyTo_le hb.tu hb.tu (hy.bv p h1)
  ·rw [run_lkb] at hi
   ·obtain ⟨c0,h1,rfl⟩ := Option.map_eq_some_iff.1 hi
    exact anyTo_kill_le (h.nob i c0 h1)
   ·intro p hp he; exact hd ⟨p,hp,he⟩
 ·obtain ⟨h1,h2⟩ := hb.dd i hi
  rw [run_get_good hy h1 h2]
  exact h.od i hi
 ·rw [(fr_good hy).b i (hb.tt i ht)] at hi
  exact h.ob i cs ht hi
theorem good_comm (ha : Apart x y) (hb : Apart y x) (h : Good x st e) (hy : Good y st f) : e.run (f.run st) = f.run (e.run st) := by
 refine run_comm e f st (fun p q hp hq he => ?_) (fun p hp => ?_) (fun p hp => ?_) (fun p q hp hq he => ?_) (fun p hp => ?_) (fun p hp => ?_) (fun p q hp hq he => ?_)
 ·exact (ha.dd q.1 (hy.d q hq)).1 (by rw [h.d p hp,he])
 ·exact toV_le (fun i hi => ha.tu i (hy.kb i hi)) (fun i hi => ha.tu i (hy.ka i hi)) (h.v p hp)
 ·exact toV_le (fun i hi => hb.tu i (h.kb i hi)) (fun i hi => hb.tu i (h.ka i hi)) (hy.v p hp)
 ·have h1 := h.bx p hp
  rw [he,ha.tt q.1 (hy.bx q hq)] at h1; cases h1
 ·exact anyTo_le (fun i hi => ha.tu i (hy.kb i hi)) (fun i hi => ha.tu i (hy.ka i hi)) (h.bv p hp)
 ·exact anyTo_le (fun i hi => hb.tu i (h.kb i hi)) (fun i hi => hb.tu i (h.ka i hi)) (hy.bv p hp)
 ·have h1 := h.ar p hp
  rw [he,ha.tt q.1 (hy.ar q hq)] at h1; cases h1
end
def canG (P : Env) (x : DO) (st : St) (K : St -> Prop) : Prop := ∃ S,Can P x st S /\ (∃ e,S e) /\ ∀ e,S e -> (isSto x.o.op = false -> Good x st e) /\ K (e.run st)
section
variable {P : Env} {x y : DO} {st : St} {K K' : St -> Prop}
theorem canG_mono (hk : ∀ st,K st -> K' st) (h : canG P x st K) : canG P x st K' := by
 obtain ⟨S,h1,h2,h3⟩ := h
 exact ⟨S,h1,h2,fun e he => ⟨(h3 e he).1,hk _ (h3 e he).2⟩⟩
theorem comm_regular (hx : regular x = true) (hy : regular y = true) (ha : Apart x y) (hb : Apart y x) (hc : isCal x.o.op = false \/ isCal y.o.op = false) (h : canG P x st (fun st' => canG P y st' K)) : canG P y st (fun st' => canG P x st' K) := by
 simp only [regular,Bool.and_eq_true,Bool.not_eq_true'] at hx hy
 obtain ⟨⟨⟨⟨_,hxs⟩,hxc⟩,hxp⟩,_⟩ := hx
 obtain ⟨⟨⟨⟨_,hys⟩,hyc⟩,hyp⟩,_⟩ := hy
 obtain ⟨Sx,h1,⟨e0,h2⟩,h3⟩ := h
 obtain ⟨g0,Sy,k1,⟨f0,k2⟩,k3⟩ := h3 e0 h2
 have g0 := g0 hxs
 have k1' := (can_fr g0 ha hyc hyp).1 k1
 refine ⟨Sy,k1',⟨f0,k2⟩,fun f hf => ?_⟩
 have gf := good_pre ha hb g0 ((k3 f hf).1 hys)
 refine ⟨fun _ => gf,Sx,(can_fr gf hb hxc hxp).2 h1,⟨e0,h2⟩,fun e he => ?_⟩
 have ge := (h3 e he).1 hxs
 refine ⟨fun _ => good_post ha hb ge gf,?_⟩
 rw [good_comm ha hb ge gf]
 rcases hc with hc | hc
 ·obtain ⟨e1,rfl⟩ := can_sing hc h1
  have h2 : e0 = e1 := h2
  have he : e = e1 := he
  rw [he,<- h2]
  exact (k3 f hf).2
 ·obtain ⟨_,Sy',m1,⟨f1,m2⟩,m3⟩ := h3 e he
  obtain ⟨a1,rfl⟩ := can_sing hc k1
  obtain ⟨a2,rfl⟩ := can_sing hc m1
  have m1' := (can_fr ge ha hyc hyp).1 m1
  have : (fun z => z = a1) = fun z : Eff => z = a2 := by
   unfold Can at k1' m1'
   cases hg : gst st y.o.g with
   | none => rw [hg] at k1'; exact k1'.elim
   | some b =>
     rw [hg] at k1' m1'
     cases b with
     | false => exact k1'.trans m1'.symm
     | true =>
       simp only at k1' m1'
       split at k1'
       ·rename_i hop; rw [hop] at hc; cases hc
       ·rename_i hop; rw [hop] at hc; cases hc
       ·split at m1'
        ·rename_i hop; rw [hop] at hc; cases hc
        ·rename_i hop; rw [hop] at hc; cases hc
        ·exact k1'.2.2.trans m1'.2.2.symm
  have h5 : f = a2 := by
   have := congrFun this f
   exact this.mp hf
  exact (m3 f h5).2
end
end Go.Vc
namespace Go.Vc
open Go Go.RowKit
section
variable {P : Env} {x y : DO} {st st' : St} {e f : Eff} {S : Eff -> Prop} {K K' : St -> Prop}
theorem sem_free (op : AOp) (hf : memFree op = true) (d : Option Nat) (h : ∀ x ∈ opds op,x.ev st' = x.ev st) : sem st' d op = sem st d op := by
 have h2 := aev_free op hf h
 cases op <;> simp only [memFree] at hf <;> first | (exact absurd hf Bool.false_ne_true) | skip
 all_goals simp only [sem,h2]
theorem sem_free_eq (op : AOp) (hf : memFree op = true) (d : Option Nat) : sem st d op = ((aev st op).1,putE d (aev st op).2) := by
 cases op <;> simp only [memFree] at hf <;> first | (exact absurd hf Bool.false_ne_true) | rfl
theorem free_nocal {op : AOp} (hf : memFree op = true) : isCal op = false /\ isSto op = false := by
 cases op <;> simp only [memFree] at hf <;> first | (exact absurd hf Bool.false_ne_true) | exact ⟨rfl,rfl⟩
theorem sto_nocal {op : AOp} (hf : isSt1 op = true) : isCal op = false := by
 cases op <;> simp only [isSt1] at hf <;> first | (exact absurd hf Bool.false_ne_true) | rfl
theorem st1_sto {op : AOp} (h : isSt1 op = true) : isSto op = true := by cases op <;> first | rfl | cases h
theorem cop_sto {op : AOp} (h : isCop op = true) : isSto op = true := by cases op <;> first | rfl | cases h
theorem cop_nocal {op : AOp} (h : isCop op = true) : isCal op = false := by cases op <;> first | rfl | cases h
theorem sto_eff (hs : isSt1 x.o.op = true) (hd : x.o.d = none) (hc : Can P x st S) (he : S e) : e.kb = nul /\ e.ka = nul /\ e.p = none := by
 unfold Can at hc
 split at hc
 ·exact hc.elim
 ·subst hc
  have he : e = putE x.o.d (.tup []) := he
  subst he
  rw [hd]
  exact ⟨rfl,rfl,rfl⟩
 ·split at hc
  ·rename_i hop; rw [hop] at hs; cases hs
  ·rename_i hop; rw [hop] at hs; cases hs
  ·obtain ⟨_,h1,rfl⟩ := hc
   have he : e = (sem st x.o.d x.o.op).2 := he
   subst he
   revert h1 hs
   rw [hd]
   cases x.o.op <;> intro hs h1 <;> simp only [isSt1] at hs <;> first | (exact absurd hs Bool.false_ne_true) | skip
   simp only [sem]
   split
   ·split <;> exact ⟨rfl,rfl,rfl⟩
   ·split <;> exact ⟨rfl,rfl,rfl⟩
   ·exact ⟨rfl,rfl,rfl⟩
theorem free_eff (hs : memFree y.o.op = true) (hc : Can P y st S) (he : S e) : ∃ v,e = putE y.o.d v := by
 unfold Can at hc
 split at hc
 ·exact hc.elim
 ·subst hc; exact ⟨_,he⟩
 ·split at hc
  ·rename_i hop; rw [hop] at hs; cases hs
  ·rename_i hop; rw [hop] at hs; cases hs
  ·obtain ⟨_,h1,rfl⟩ := hc
   have he : e = (sem st y.o.d y.o.op).2 := he
   rw [sem_free_eq _ hs] at he
   exact ⟨_,he⟩
theorem run_slots (h1 : e.kb = nul) (h2 : e.ka = nul) (h3 : e.p = none) : (e.run st).s = st.s := by
 unfold Eff.run
 simp only [h1,h2,h3,kill_nul,upP]
theorem get_slots {st st' : St} (h : st'.s = st.s) (i : Nat) : st'.get i = st.get i := by unfold St.get; rw [h]
theorem ev_slots {st st' : St} (h : st'.s = st.s) (o : Opd) : o.ev st' = o.ev st := by
 cases o with
 | t n => exact get_slots h n
 | c p => rfl
theorem can_free (hf : memFree y.o.op = true) (h : st'.s = st.s) : Can P y st' S ↔ Can P y st S := by
 have hg : gst st' y.o.g = gst st y.o.g := gst_fr _ fun s _ => get_slots h s
 unfold Can
 rw [hg]
 cases gst st y.o.g with
 | none => exact Iff.rfl
 | some b =>
   cases b with
   | false => exact Iff.rfl
   | true =>
     simp only
     split
     ·rename_i hop; rw [hop] at hf; cases hf
     ·rename_i hop; rw [hop] at hf; cases hf
     ·rw [side_fr st st' y.t y.u y.o.op (fun o _ => ev_slots h o),sem_free _ hf _ (fun o _ => ev_slots h o)]
theorem inL_nil (i : Nat) : inL [] i = false := rfl
theorem toV_inL_nil (v : PV) : v.toV (inL []) (inL []) = false := toV_le (pb := inL []) (pa := inL []) (qb := nul) (qa := nul) (fun i h => by rw [inL_nil] at h; cases h) (fun i h => by rw [inL_nil] at h; cases h) (PV.toV_nul v)
theorem any_inL_nil (cs : List PV) : cs.any (PV.to (inL []) (inL [])) = false := anyTo_le (pb := inL []) (pa := inL []) (qb := nul) (qa := nul) (fun i h => by rw [inL_nil] at h; cases h) (fun i h => by rw [inL_nil] at h; cases h) (by simp [PV.to_nul])
theorem good_free (ht : y.t = []) (h : st'.s = st.s) (hg : Good y st f) : Good y st' f := by
 refine ⟨hg.d,hg.kb,hg.ka,hg.bx,hg.ar,fun s _ => by rw [ht]; exact toV_inL_nil _,fun i cs _ => by rw [ht]; exact any_inL_nil _,hg.v,hg.bv,fun i hi => by rw [get_slots h]; exact hg.od i hi,fun i cs hi _ => ?_⟩
 rw [ht] at hi; cases hi
theorem can_sto (hs : isSt1 x.o.op = true) {d : Option Nat} (hd : ∀ i,d = some i -> i ∉ rdS x.o) (v : PV) : Can P x ((putE d v).run st) S ↔ Can P x st S := by
 have hr : (putE d v).run st = st.put d v := run_rd st d v
 have hget : ∀ s ∈ rdS x.o,(st.put d v).get s = st.get s := fun s h => by
  cases d with
  | none => rfl
  | some i =>
    unfold St.get St.put
    simp only [lk_up]
    rw [if_neg (fun (e : i = s) => hd i rfl (by rw [e]; exact h))]
 rw [hr]
 refine can_fr' (pb := nul) (pa := nul) ⟨⟨fun i _ => ?_,fun i _ => ?_⟩,fun i cs _ => by simp [PV.to_nul]⟩ (gst_fr _ hget) (by cases ho : x.o.op <;> rw [ho] at hs <;> first | (cases hs; done) | rfl) fun o ho => ⟨?_,PV.toV_nul _⟩
 ·cases d <;> rfl
 ·cases d <;> rfl
 ·cases o with
  | t n => exact hget n (opdS_rd ho (by simp [opdS]))
  | c p => rfl
def RdS (x y : DO) : Prop := memFree y.o.op = true \/ (isRd y.o.op = true /\ x.u ≠ [] /\ ∀ i,inL x.u i = true -> inL y.u i = true)
theorem stoFree_spec (h : stoFree x y = true) : x.str = true /\ y.str = true /\ isSt1 x.o.op = true /\ x.o.d = none /\ RdS x y /\ y.t = [] /\ ∀ d,y.o.d = some d -> d ∉ rdS x.o := by
 simp only [stoFree,Bool.and_eq_true,List.isEmpty_iff] at h
 obtain ⟨⟨⟨⟨⟨⟨h1,h2⟩,h3⟩,h4⟩,h5⟩,h6⟩,h7⟩ := h
 have h5 : RdS x y := by
  simp only [Bool.or_eq_true,Bool.and_eq_true,stoRd,Bool.not_eq_true',List.isEmpty_eq_false_iff,List.all_eq_true] at h5
  rcases h5 with h5 | ⟨h5,h8,h9⟩
  ·exact .inl h5
  ·exact .inr ⟨h5,h8,fun i hi => h9 i (by simpa [inL] using hi)⟩
 refine ⟨h1,h2,h3,by cases hd : x.o.d <;> simp_all,h5,h6,fun d hd hm => ?_⟩
 rw [hd] at h7
 simp at h7
 exact h7 hm
theorem rd_nocal {op : AOp} (hf : isRd op = true) : isCal op = false := by
 cases op <;> simp only [isRd] at hf <;> first | (exact absurd hf Bool.false_ne_true) | rfl
theorem RdS.nocal (h : RdS x y) : isCal y.o.op = false := h.elim (fun h => (free_nocal h).1) fun h => rd_nocal h.1
theorem rds_eff (hs : RdS x y) (hc : Can P y st S) (he : S e) : ∃ v,e = putE y.o.d v := by
 rcases hs with hs | ⟨hs,_,_⟩
 ·exact free_eff hs hc he
 unfold Can at hc
 split at hc
 ·exact hc.elim
 ·subst hc; exact ⟨_,he⟩
 ·split at hc
  ·rename_i hop; rw [hop] at hs; cases hs
  ·rename_i hop; rw [hop] at hs; cases hs
  ·obtain ⟨_,h1,rfl⟩ := hc
   have he : e = (sem st y.o.d y.o.op).2 := he
   rw [show sem st y.o.d y.o.op = ((aev st y.o.op).1,putE y.o.d (aev st y.o.op).2) from by
    revert hs; cases y.o.op <;> intro hs <;> first | (cases hs; done) | rfl] at he
   exact ⟨_,he⟩
theorem aev_rd {pb pa : Nat -> Bool} (hf : FrW pb pa st st') (hsl : st'.s = st.s) {t u : List Nat} (op : AOp) (hr : isRd op = true) (hs : sideOK st t u op) (hu : ∀ v,refU u v = false -> v.toV pb pa = false) : aev st' op = aev st op := by
 cases op <;> simp only [isRd] at hr <;> first | (exact absurd hr Bool.false_ne_true) | skip
 case ld agg sz x =>
  have h2 := hu _ hs
  simp only [aev,ev_slots hsl]
  cases hv : x.ev st with
  | ptr id off => rw [hv] at h2; simp only [hf.b id h2]
  | eptr id i off => rw [hv] at h2; simp only [hf.a id h2]
  | _ => rfl
 case ixs es x i =>
  have h2 := hu _ hs
  simp only [aev,ev_slots hsl]
  generalize i.ev st = j
  revert h2
  generalize x.ev st = u
  intro h2
  cases u with
  | view id lo n =>
    cases j with
    | sc v => cases v <;> first | rfl | simp only [hf.a id h2]
    | _ => rfl
  | _ =>
    cases j with
    | sc v => cases v <;> rfl
    | _ => rfl
 case slc es x lo hi =>
  have h2 := hu _ hs
  have hb := fun n => slcB_fr (st := st) (st' := st') n lo hi fun y _ => ev_slots hsl y
  simp only [aev,ev_slots hsl,hb]
  cases hv : x.ev st with
  | view id l n => rw [hv] at h2; simp only [hf.a id h2]
  | _ => rfl
theorem can_rd {pb pa : Nat -> Bool} (hf : FrW pb pa st st') (hsl : st'.s = st.s) (hr : isRd y.o.op = true) (hu : ∀ v,refU y.u v = false -> v.toV pb pa = false) : Can P y st' S ↔ Can P y st S := by
 have hg : gst st' y.o.g = gst st y.o.g := gst_fr _ fun s _ => get_slots hsl s
 unfold Can
 rw [hg]
 cases gst st y.o.g with
 | none => exact Iff.rfl
 | some b =>
   cases b with
   | false => exact Iff.rfl
   | true =>
     simp only
     split
     ·rename_i hop; rw [hop] at hr; cases hr
     ·rename_i hop; rw [hop] at hr; cases hr
     ·rw [side_fr st st' y.t y.u y.o.op (fun o _ => ev_slots hsl o)]
      have key : sideOK st y.t y.u y.o.op -> sem st' y.o.d y.o.op = sem st y.o.d y.o.op := fun hs => by
       have h2 := aev_rd hf hsl y.o.op hr hs hu
       revert h2 hr
       cases y.o.op <;> intro hr h2 <;> first | (cases hr; done) | simp only [sem,h2]
      constructor
      ·rintro ⟨h1,h2,h3⟩; rw [key h1.2] at h2 h3; exact ⟨h1,h2,h3⟩
      ·rintro ⟨h1,h2,h3⟩; rw [<- key h1.2] at h2 h3; exact ⟨h1,h2,h3⟩
theorem sto_frw (hs : isSt1 x.o.op = true) (hd : x.o.d = none) (hu : x.u ≠ []) (hc : Can P x st S) (he : S e) : FrW (inL x.u) (inL x.u) st (e.run st) := by
 have base : ∀ {f : Eff},f.kb = nul -> f.ka = nul -> (∀ p,f.bx = some p -> inL x.u p.1 = true) -> (∀ p,f.ar = some p -> inL x.u p.1 = true) -> FrW (inL x.u) (inL x.u) st (f.run st) := fun {f} k1 k2 k3 k4 => by
  refine ⟨fun i hi => ?_,fun i hi => ?_⟩
  ·unfold Eff.run
   simp only [k1,k2,kill_nul]
   exact lk_upP _ _ _ fun p hp e => by rw [<- e,k3 p hp] at hi; cases hi
  ·unfold Eff.run
   simp only [k1,k2,kill_nul]
   exact lk_upP _ _ _ fun p hp e => by rw [<- e,k4 p hp] at hi; cases hi
 unfold Can at hc
 split at hc
 ·exact hc.elim
 ·subst hc
  have he : e = putE x.o.d (.tup []) := he
  subst he
  exact base rfl rfl (fun p h => by cases h) (fun p h => by cases h)
 ·split at hc
  ·rename_i hop; rw [hop] at hs; cases hs
  ·rename_i hop; rw [hop] at hs; cases hs
  ·obtain ⟨h0,h1,rfl⟩ := hc
   have he : e = (sem st x.o.d x.o.op).2 := he
   subst he
   have h0 := h0.2
   revert h0 h1 hs
   rw [hd]
   cases x.o.op <;> intro hs h1 h0 <;> simp only [isSt1] at hs <;> first | (exact absurd hs Bool.false_ne_true) | skip
   rename_i sz a v
   replace h0 : stoT x.u (a.ev st) = true := h0.2
   generalize x.u = xu at hu h0 base ⊢
   cases xu with
   | nil => exact absurd rfl hu
   | cons q r =>
     revert h1
     simp only [sem]
     split
     ·rename_i id off hx
      rw [hx] at h0
      split
      ·intro _; exact base rfl rfl (fun p h => by cases h; exact h0) (fun p h => by cases h)
      ·intro h; exact h.elim
     ·rename_i id i off hx
      rw [hx] at h0
      split
      ·intro _; exact base rfl rfl (fun p h => by cases h) (fun p h => by cases h; exact h0)
      ·intro h; exact h.elim
     ·intro h; exact h.elim
theorem can_rds (hs : isSt1 x.o.op = true) (hd : x.o.d = none) (hr : RdS x y) {Sx : Eff -> Prop} (hc : Can P x st Sx) (he : Sx e) (hsl : (e.run st).s = st.s) : Can P y (e.run st) S ↔ Can P y st S := by
 rcases hr with hr | ⟨hr,hu,hl⟩
 ·exact can_free hr hsl
 ·refine can_rd (sto_frw hs hd hu hc he) hsl hr fun v hv => ?_
  have : v.toV (inL y.u) (inL y.u) = false := by
   revert hv hl
   cases y.u with
   | nil =>
     intro hl _
     obtain ⟨i,r,hxu⟩ := List.exists_cons_of_ne_nil hu
     have := hl i (by rw [hxu]; simp [inL])
     cases this
   | cons q r => intro _ hv; exact hv
  exact toV_le hl hl this
theorem sto_run_comm (h1 : e.kb = nul) (h2 : e.ka = nul) (h3 : e.p = none) (d : Option Nat) (v : PV) : e.run ((putE d v).run st) = (putE d v).run (e.run st) := by
 refine run_comm e (putE d v) st (fun x _ hx => ?_) (fun x hx => ?_) (fun x _ => ?_) (fun _ _ _ h => ?_) (fun x _ => ?_) (fun _ h => ?_) (fun _ _ _ h => ?_)
 ·rw [h3] at hx; cases hx
 ·rw [h3] at hx; cases hx
 ·rw [h1,h2]; exact PV.toV_nul _
 ·cases h
 ·simp [putE,PV.to_nul]
 ·cases h
 ·cases h
theorem comm_sto1 (h : stoFree x y = true) (hk : canG P x st (fun st' => canG P y st' K)) : canG P y st (fun st' => canG P x st' K) := by
 obtain ⟨_,_,hs,hd,hf,ht,hr⟩ := stoFree_spec h
 obtain ⟨Sx,h1,⟨e0,h2⟩,h3⟩ := hk
 obtain ⟨e1,rfl⟩ := can_sing (sto_nocal hs) h1
 have h2 : e0 = e1 := h2
 subst h2
 obtain ⟨q1,q2,q3⟩ := sto_eff hs hd h1 rfl
 have hsl := run_slots (st := st) q1 q2 q3
 obtain ⟨_,Sy,k1,⟨f0,k2⟩,k3⟩ := h3 e0 rfl
 refine ⟨Sy,(can_rds hs hd hf h1 rfl hsl).1 k1,⟨f0,k2⟩,fun f hf' => ⟨fun hh => good_free ht hsl.symm ((k3 f hf').1 hh),?_⟩⟩
 obtain ⟨v,rfl⟩ := rds_eff hf k1 hf'
 refine ⟨_,(can_sto hs hr v).2 h1,⟨e0,rfl⟩,fun e he => ⟨fun hh => (by rw [st1_sto hs] at hh; cases hh),?_⟩⟩
 have he : e = e0 := he
 subst he
 rw [sto_run_comm q1 q2 q3]
 exact (k3 _ hf').2
theorem comm_sto2 (h : stoFree x y = true) (hk : canG P y st (fun st' => canG P x st' K)) : canG P x st (fun st' => canG P y st' K) := by
 obtain ⟨_,_,hs,hd,hf,ht,hr⟩ := stoFree_spec h
 obtain ⟨Sy,k1,⟨f0,k2⟩,k3⟩ := hk
 obtain ⟨f1,rfl⟩ := can_sing hf.nocal k1
 have k2 : f0 = f1 := k2
 subst k2
 obtain ⟨g0,Sx,h1,⟨e0,h2⟩,h3⟩ := k3 f0 rfl
 obtain ⟨v,rfl⟩ := rds_eff hf k1 rfl
 have h1' := (can_sto hs hr v).1 h1
 obtain ⟨e1,rfl⟩ := can_sing (sto_nocal hs) h1
 have h2 : e0 = e1 := h2
 subst h2
 obtain ⟨q1,q2,q3⟩ := sto_eff hs hd h1' rfl
 have hsl := run_slots (st := st) q1 q2 q3
 refine ⟨_,h1',⟨e0,rfl⟩,fun e he => ⟨fun hh => (by rw [st1_sto hs] at hh; cases hh),?_⟩⟩
 have he : e = e0 := he
 subst he
 refine ⟨_,(can_rds hs hd hf h1' rfl hsl).2 k1,⟨_,rfl⟩,fun f hf' => ⟨fun hh => ?_,?_⟩⟩
 ·have hf' : f = putE y.o.d v := hf'
  subst hf'
  exact good_free ht hsl (g0 hh)
 ·have hf' : f = putE y.o.d v := hf'
  subst hf'
  rw [<- sto_run_comm q1 q2 q3]
  exact (h3 e rfl).2
theorem cpy_eff (hs : isCop x.o.op = true) (hc : Can P x st S) (he : S e) : e.kb = nul /\ e.ka = nul /\ ∀ p,e.p = some p -> x.o.d = some p.1 /\ ∀ (qb qa : Nat -> Bool),p.2.toV qb qa = false := by
 have base : ∀ v : PV,(∀ (qb qa : Nat -> Bool),v.toV qb qa = false) -> ∀ p,(putE x.o.d v).p = some p -> x.o.d = some p.1 /\ ∀ (qb qa : Nat -> Bool),p.2.toV qb qa = false := fun v hv p hp => by
  obtain ⟨i,e1,rfl⟩ := Option.map_eq_some_iff.1 hp
  exact ⟨e1,hv⟩
 unfold Can at hc
 split at hc
 ·exact hc.elim
 ·subst hc
  have he : e = putE x.o.d (.tup []) := he
  subst he
  exact ⟨rfl,rfl,base _ fun _ _ => rfl⟩
 ·split at hc
  ·rename_i hop; rw [hop] at hs; cases hs
  ·rename_i hop; rw [hop] at hs; cases hs
  ·obtain ⟨_,h1,rfl⟩ := hc
   have he : e = (sem st x.o.d x.o.op).2 := he
   subst he
   revert h1 hs
   cases x.o.op <;> intro hs h1 <;> simp only [isCop] at hs <;> first | (exact absurd hs Bool.false_ne_true) | skip
   revert h1
   simp only [sem]
   split
   ·split
    ·intro _; exact ⟨rfl,rfl,base _ fun _ _ => rfl⟩
    ·intro h; exact h.elim
   ·intro h; exact h.elim
theorem cpyFree_spec (h : cpyFree x y = true) : x.str = true /\ y.str = true /\ isCop x.o.op = true /\ memFree y.o.op = true /\ y.t = [] /\ (∀ d,y.o.d = some d -> d ∉ rdS x.o /\ x.o.d ≠ some d) /\ ∀ d,x.o.d = some d -> d ∉ rdS y.o := by
 simp only [cpyFree,Bool.and_eq_true,List.isEmpty_iff] at h
 obtain ⟨⟨⟨⟨⟨⟨h1,h2⟩,h3⟩,h4⟩,h5⟩,h6⟩,h7⟩ := h
 refine ⟨h1,h2,h3,h4,h5,fun d hd => ?_,fun d hd hm => ?_⟩
 ·rw [hd] at h6
  simp at h6
  exact h6
 ·rw [hd] at h7
  simp at h7
  exact h7 hm
theorem cpy_get (h1 : e.kb = nul) (h2 : e.ka = nul) {s : Nat} (h3 : ∀ p,e.p = some p -> p.1 ≠ s) : (e.run st).get s = st.get s := by
 rw [run_get _ _ h3]
 rw [h1,h2]
 exact killV_id (PV.toV_nul _)
theorem can_free' (hf : memFree y.o.op = true) (h : ∀ s ∈ rdS y.o,st'.get s = st.get s) : Can P y st' S ↔ Can P y st S := by
 have hg : gst st' y.o.g = gst st y.o.g := gst_fr _ h
 have he : ∀ o ∈ opds y.o.op,o.ev st' = o.ev st := fun o ho => by
  cases o with
  | t n => exact h n (opdS_rd ho (by simp [opdS]))
  | c p => rfl
 unfold Can
 rw [hg]
 cases gst st y.o.g with
 | none => exact Iff.rfl
 | some b =>
   cases b with
   | false => exact Iff.rfl
   | true =>
     simp only
     split
     ·rename_i hop; rw [hop] at hf; cases hf
     ·rename_i hop; rw [hop] at hf; cases hf
     ·rw [side_fr st st' y.t y.u y.o.op he,sem_free _ hf _ he]
theorem can_cop (hs : isCop x.o.op = true) {d : Option Nat} (hd : ∀ i,d = some i -> i ∉ rdS x.o) (v : PV) : Can P x ((putE d v).run st) S ↔ Can P x st S := by
 have hr : (putE d v).run st = st.put d v := run_rd st d v
 have hget : ∀ s ∈ rdS x.o,(st.put d v).get s = st.get s := fun s h => by
  cases d with
  | none => rfl
  | some i =>
    unfold St.get St.put
    simp only [lk_up]
    rw [if_neg (fun (e : i = s) => hd i rfl (by rw [e]; exact h))]
 rw [hr]
 refine can_fr' (pb := nul) (pa := nul) ⟨⟨fun i _ => ?_,fun i _ => ?_⟩,fun i cs _ => by simp [PV.to_nul]⟩ (gst_fr _ hget) (by cases ho : x.o.op <;> rw [ho] at hs <;> first | (cases hs; done) | rfl) fun o ho => ⟨?_,PV.toV_nul _⟩
 ·cases d <;> rfl
 ·cases d <;> rfl
 ·cases o with
  | t n => exact hget n (opdS_rd ho (by simp [opdS]))
  | c p => rfl
theorem good_free' (ht : y.t = []) (h : ∀ i,y.o.d = some i -> st'.get i = st.get i) (hg : Good y st f) : Good y st' f := by
 refine ⟨hg.d,hg.kb,hg.ka,hg.bx,hg.ar,fun s _ => by rw [ht]; exact toV_inL_nil _,fun i cs _ => by rw [ht]; exact any_inL_nil _,hg.v,hg.bv,fun i hi => by rw [h i hi]; exact hg.od i hi,fun i cs hi _ => ?_⟩
 rw [ht] at hi; cases hi
theorem cpy_run_comm (h1 : e.kb = nul) (h2 : e.ka = nul) (d : Option Nat) (v : PV) (h3 : ∀ p,e.p = some p -> d ≠ some p.1) (h4 : ∀ p,e.p = some p -> ∀ (qb qa : Nat -> Bool),p.2.toV qb qa = false) : e.run ((putE d v).run st) = (putE d v).run (e.run st) := by
 refine run_comm e (putE d v) st (fun x y hx hy he => ?_) (fun x hx => h4 x hx _ _) (fun x _ => ?_) (fun _ _ _ h => ?_) (fun x _ => ?_) (fun _ h => ?_) (fun _ _ _ h => ?_)
 ·obtain ⟨i,e1,rfl⟩ := Option.map_eq_some_iff.1 hy
  exact h3 x hx (by rw [e1,he])
 ·rw [h1,h2]; exact PV.toV_nul _
 ·cases h
 ·simp [putE,PV.to_nul]
 ·cases h
 ·cases h
theorem comm_cpy1 (h : cpyFree x y = true) (hk : canG P x st (fun st' => canG P y st' K)) : canG P y st (fun st' => canG P x st' K) := by
 obtain ⟨_,_,hs,hf,ht,hr,hr2⟩ := cpyFree_spec h
 obtain ⟨Sx,h1,⟨e0,h2⟩,h3⟩ := hk
 obtain ⟨e1,rfl⟩ := can_sing (cop_nocal hs) h1
 have h2 : e0 = e1 := h2
 subst h2
 obtain ⟨q1,q2,q3⟩ := cpy_eff hs h1 rfl
 have hgy : ∀ s,x.o.d ≠ some s -> (e0.run st).get s = st.get s := fun s hd => cpy_get q1 q2 fun p hp hh => hd (by rw [(q3 p hp).1,hh])
 obtain ⟨_,Sy,k1,⟨f0,k2⟩,k3⟩ := h3 e0 rfl
 refine ⟨Sy,(can_free' hf fun s hs' => hgy s fun hd => hr2 s hd hs').1 k1,⟨f0,k2⟩,fun f hf' => ⟨fun hh => good_free' ht (fun i hi => (hgy i (hr i hi).2).symm) ((k3 f hf').1 hh),?_⟩⟩
 obtain ⟨v,rfl⟩ := free_eff hf k1 hf'
 refine ⟨_,(can_cop hs (fun i hi => (hr i hi).1) v).2 h1,⟨e0,rfl⟩,fun e he => ⟨fun hh => (by rw [cop_sto hs] at hh; cases hh),?_⟩⟩
 have he : e = e0 := he
 subst he
 rw [cpy_run_comm q1 q2 _ _ (fun p hp hd => (hr _ hd).2 (q3 p hp).1) fun p hp => (q3 p hp).2]
 exact (k3 _ hf').2
theorem comm_cpy2 (h : cpyFree x y = true) (hk : canG P y st (fun st' => canG P x st' K)) : canG P x st (fun st' => canG P y st' K) := by
 obtain ⟨_,_,hs,hf,ht,hr,hr2⟩ := cpyFree_spec h
 obtain ⟨Sy,k1,⟨f0,k2⟩,k3⟩ := hk
 obtain ⟨f1,rfl⟩ := can_sing (free_nocal hf).1 k1
 have k2 : f0 = f1 := k2
 subst k2
 obtain ⟨g0,Sx,h1,⟨e0,h2⟩,h3⟩ := k3 f0 rfl
 obtain ⟨v,rfl⟩ := free_eff hf k1 rfl
 have h1' := (can_cop hs (fun i hi => (hr i hi).1) v).1 h1
 obtain ⟨e1,rfl⟩ := can_sing (cop_nocal hs) h1
 have h2 : e0 = e1 := h2
 subst h2
 obtain ⟨q1,q2,q3⟩ := cpy_eff hs h1' rfl
 have hgy : ∀ s,x.o.d ≠ some s -> (e0.run st).get s = st.get s := fun s hd => cpy_get q1 q2 fun p hp hh => hd (by rw [(q3 p hp).1,hh])
 refine ⟨_,h1',⟨e0,rfl⟩,fun e he => ⟨fun hh => (by rw [cop_sto hs] at hh; cases hh),?_⟩⟩
 have he : e = e0 := he
 subst he
 refine ⟨_,(can_free' hf fun s hs' => hgy s fun hd => hr2 s hd hs').2 k1,⟨_,rfl⟩,fun f hf' => ⟨fun hh => ?_,?_⟩⟩
 ·have hf' : f = putE y.o.d v := hf'
  subst hf'
  exact good_free' ht (fun i hi => hgy i (hr i hi).2) (g0 hh)
 ·have hf' : f = putE y.o.d v := hf'
  subst hf'
  rw [<- cpy_run_comm q1 q2 _ _ (fun p hp hd => (hr _ hd).2 (q3 p hp).1) fun p hp => (q3 p hp).2]
  exact (h3 e rfl).2
theorem comm_pair (h : pairOK x y = true) (hk : canG P x st (fun st' => canG P y st' K)) : canG P y st (fun st' => canG P x st' K) := by
 simp only [pairOK,Bool.or_eq_true,Bool.and_eq_true,Bool.not_eq_true',Bool.and_eq_false_iff] at h
 rcases h with (((⟨⟨⟨⟨h1,h2⟩,h3⟩,h4⟩,h5⟩ | h) | h) | h) | h
 ·exact comm_regular h1 h2 (apart_of h3) (apart_of h4) h5 hk
 ·exact comm_sto1 h hk
 ·exact comm_sto2 h hk
 ·exact comm_cpy1 h hk
 ·exact comm_cpy2 h hk
theorem pair_str (h : pairOK x y = true) : x.str = true /\ y.str = true := by
 simp only [pairOK,Bool.or_eq_true,Bool.and_eq_true,regular] at h
 rcases h with (((⟨⟨⟨⟨h1,h2⟩,h3⟩,h4⟩,h5⟩ | h) | h) | h) | h
 ·exact ⟨h1.1.1.1.1,h2.1.1.1.1⟩
 ·exact ⟨(stoFree_spec h).1,(stoFree_spec h).2.1⟩
 ·exact ⟨(stoFree_spec h).2.1,(stoFree_spec h).1⟩
 ·exact ⟨(cpyFree_spec h).1,(cpyFree_spec h).2.1⟩
 ·exact ⟨(cpyFree_spec h).2.1,(cpyFree_spec h).1⟩
def genG (P : Env) (x : DO) (st : St) (K : St -> Prop) : Prop := if x.str = true then canG P x st K else grdK st x.o.g (opK P x.o st K) (K (st.put x.o.d (.tup [])))
def csK (P : Env) : List DO -> St -> (St -> Prop) -> Prop
 | [],st,K => K st
 | x :: r,st,K => genG P x st fun st' => csK P r st' K
theorem opK_mono {o : AO} (hk : ∀ st,K st -> K' st) (h : opK P o st K) : opK P o st K' := by
 obtain ⟨d,g,op⟩ := o
 cases op
 case cal f args =>
  obtain ⟨post,h1,h2⟩ := h
  exact ⟨post,h1,fun r hr => hk _ (h2 r hr)⟩
 case clm f args => exact FnM.mono h fun r st' hr => hk _ hr
 case clv x args =>
  simp only [opK,clvK] at h ⊢
  split at h
  ·exact FnM.mono h fun r st' hr => hk _ hr
  ·exact FnM.mono h fun r st' hr => hk _ hr
  ·obtain ⟨h0,post,h1,h2⟩ := h
   exact ⟨h0,post,h1,fun r hr => hk _ (h2 r hr)⟩
  ·obtain ⟨K1,h1,h2⟩ := h
   exact ⟨K1,h1,fun st' hr => hk _ (h2 st' hr)⟩
  ·exact h.elim
 case nxt x =>
  simp only [opK,nxtK] at h ⊢
  split at h
  ·split at h
   ·split at h
    ·exact ⟨h.1,fun e => hk _ (h.2.1 e),fun i z hz => hk _ (h.2.2 i z hz)⟩
    ·exact h.elim
   ·exact h.elim
  ·exact h.elim
 case xo k args => exact xoK_mono hk h
 case clx f args => exact FnX.mono h fun r st' hr => hk _ hr
 case pan x => exact h
 case niq neg x =>
  simp only [opK,niqK] at h ⊢
  split at h <;> first | exact hk _ h | exact fun b => hk _ (h b) | exact h.elim
 all_goals
  simp only [opK] at h ⊢
  split at h
  ·rename_i h1; rw [if_pos h1]; exact ⟨h.1,hk _ h.2⟩
  ·rename_i h1; rw [if_neg h1]; exact ⟨h.1,hk _ h.2⟩
theorem grdK_mono {g : Option (Nat × Bool)} {a b a' b' : Prop} (ha : a -> a') (hb : b -> b') (h : grdK st g a b) : grdK st g a' b' := by
 cases g with
 | none => exact ha h
 | some p =>
   simp only [grdK] at h ⊢
   generalize st.get p.1 = v at h ⊢
   cases v with
   | sc v => cases v <;> first | exact h.elim | exact ⟨fun e => ha (h.1 e),fun e => hb (h.2 e)⟩
   | tup cs => cases cs with
     | nil => exact hb h
     | cons _ _ => exact h.elim
   | _ => exact h.elim
theorem genG_mono (hk : ∀ st,K st -> K' st) (h : genG P x st K) : genG P x st K' := by
 unfold genG at h ⊢
 split
 ·rename_i hs; rw [if_pos hs] at h; exact canG_mono hk h
 ·rename_i hs; rw [if_neg hs] at h; exact grdK_mono (opK_mono hk) (hk _) h
theorem bubble (L2 : List DO) : ∀ (L1 : List DO) (st : St),(∀ x ∈ L1,pairOK x y = true) -> csK P (L1 ++ y :: L2) st K -> genG P y st fun st' => csK P (L1 ++ L2) st' K
 | [],_,_,h => h
 | x :: L1, st, hp, h => by
   have hxy := hp x List.mem_cons_self
   obtain ⟨hs1,hs2⟩ := pair_str hxy
   have h1 : genG P x st fun st' => genG P y st' fun st'' => csK P (L1 ++ L2) st'' K := genG_mono (fun st' h => bubble L2 L1 st' (fun z hz => hp z (List.mem_cons_of_mem _ hz)) h) h
   simp only [genG,hs1,hs2,if_true] at h1
   have h2 := comm_pair hxy h1
   show genG P y st fun st' => genG P x st' fun st'' => csK P (L1 ++ L2) st'' K
   simp only [genG,hs1,hs2,if_true]
   exact h2
end
end Go.Vc
