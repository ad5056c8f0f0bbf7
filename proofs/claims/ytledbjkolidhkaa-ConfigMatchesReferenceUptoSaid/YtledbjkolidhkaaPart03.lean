/- VcJ VcQ VcX VcK: lemmas -/
import Derived.Test.YtledbjkolidhkaaPart02
import Derived.Maps.RangeRun
import Derived.Deep.LoopGhost
import Derived.RangeFuncNested
set_option linter.unusedSimpArgs false
set_option linter.unusedVariables false
namespace Go.Vc
open Go Go.RowKit
theorem growslice_ok {need cap by_ : Nat} (h1 : cap < need) (h2 : need * by_ <= 140737488355328) : Builtin.nextslicecap need cap * by_ <= 281474976710656 := growslice_fits h1 h2
section
variable {w0 : World} {Z0 : Zone} {N : Fr} {Z : Zone} {L : Lay} {st : St} {a : Act} {w : World} {P : Program}
theorem run_append_stay {t ty e : TypeId} {ti : TypeInfo} (ht : P.underlying t = some (.slice e)) (hi : P.info? e = some ti) {g sLen sCap : Nat} {cur : Array Value} (hg : w.heap[g]? = some (.cells cur e (0, 0)))
  {x : Value} {n : Nat} {news : List Value} (hs : Src P ti.size t x n news w) (hroom : sLen + n <= sCap) (hfit : sLen * ti.size + news.length <= cur.size) :
  (Builtin.append_ #[t,t] ty #[.slice (some ⟨g,0,none⟩) sLen sCap,x]).run P w = .ok (.slice (some ⟨g,0,none⟩) (sLen + n) sCap)
   (w.setRow g (cur.toList.take (sLen * ti.size) ++ news ++ cur.toList.drop (sLen * ti.size + news.length)).toArray) := by
 have hst := run_storeCells_at P g (sLen * ti.size) e news 0 cur w hg (by simpa using hfit) hs.one
 simp only [Nat.add_zero] at hst
 simp [Builtin.append_,run_underlying ht,sizeOf,typeInfo,hi,hs.len,hroom,hs.cells,Addr.add_lit,hst]
theorem run_append_zero {t ty e : TypeId} {ti : TypeInfo} (ht : P.underlying t = some (.slice e)) (hi : P.info? e = some ti) {x : Value} {news : List Value} (hs : Src P ti.size t x 0 news w) :
  (Builtin.append_ #[t,t] ty #[.slice none 0 0,x]).run P w = .ok (.slice none 0 0) w := by
 simp [Builtin.append_,run_underlying ht,sizeOf,typeInfo,hi,hs.len,hs.cells]
theorem cpyF_get {xs ys : List (List PV)} {lo : Nat} (h : lo + ys.length <= xs.length) {j : Nat} {c : List PV} (hj : (cpyF xs lo ys)[j]? = some c) :
  (lo <= j /\ j < lo + ys.length /\ ys[j - lo]? = some c) \/ (¬ (lo <= j /\ j < lo + ys.length) /\ xs[j]? = some c) := by
 unfold cpyF at hj
 have hl : (xs.take lo).length = lo := by simp; omega
 rw [List.append_assoc] at hj
 by_cases h1 : j < lo
 ·rw [List.getElem?_append_left (by omega),List.getElem?_take,if_pos h1] at hj
  exact .inr ⟨by omega,hj⟩
 ·rw [List.getElem?_append_right (by omega),hl] at hj
  by_cases h2 : j < lo + ys.length
  ·rw [List.getElem?_append_left (by omega)] at hj
   exact .inl ⟨by omega,h2,hj⟩
  ·rw [List.getElem?_append_right (by omega),List.getElem?_drop] at hj
   refine .inr ⟨by omega,?_⟩
   rw [show lo + ys.length + (j - lo - ys.length) = j from by omega] at hj
   exact hj
theorem cpyF_len {xs ys : List (List PV)} {lo : Nat} (h : lo + ys.length <= xs.length) : (cpyF xs lo ys).length = xs.length := by
 simp [cpyF]; omega
theorem cpy_runs (h : Inv w0 Z0 N Z L st a w) {d d' : Option Nat} (hd : N.dst d d') {es : Nat} {x y : Opd} {op : Op} (hm : okH P N.sh (.cpy es x y) op = true) (hv : (hev st d (.cpy es x y)).1) :
  Runs P w0 Z0 N w a op d' (hev st d (.cpy es x y)).2 := by
 unfold okH at hm
 split at hm <;> (first | (rename_i heq; cases heq; done) | skip)
 all_goals (try (rename_i heq; cases heq))
 ·split at hm
  ·rename_i x' y' t t' e1 e2
   simp only [Bool.and_eq_true] at hm
   obtain ⟨⟨hx,hy⟩,ht⟩ := hm
   have e1 := list2 e1; have e2 := list2 e2; cases e1; cases e2
   split at ht
   ·rename_i e he
    simp only [hev] at hv ⊢
    split at hv
    ·rename_i id lo n e1
     split at hv
     ·rename_i A hA
      obtain ⟨⟨hpos,rfl⟩,hq⟩ := hv
      have hxr := h.ev hx
      rw [e1] at hxr
      obtain ⟨ad,c,hxv,hnc,hcm,hal,hp,_⟩ := hxr
      obtain ⟨cur,hX⟩ := h.arrs id A hA
      obtain ⟨o1,o2,o3⟩ := h.owna id A hA
      rw [hX.al] at hal
      obtain ⟨news,hsrc,hrows,hcell⟩ := src_first (P := P) h hpos hy hq n
      simp only
      generalize hys : (srcOf st A.es (y.ev st)).2 = ys at *
      have hnl : news.length = (ys.take n).length * A.es := by rw [hsrc.newsLen,List.length_take,Nat.min_comm]
      have hkl : lo + (ys.take n).length <= A.xs.length := by rw [List.length_take]; omega
      have hfit : lo * A.es + news.length <= cur.size := by
       rw [hnl,<- Nat.add_mul,hX.size]
       exact Nat.mul_le_mul_right _ (Nat.le_trans hkl hX.fits)
      have hst : (storeCells ad news).run P w = .ok () (w.setRow (L.ab id) (cur.toList.take (lo * A.es) ++ news ++ cur.toList.drop (lo * A.es + news.length)).toArray) := by
       by_cases hn : 0 < n
       ·have := hp hn
        subst this
        have := run_storeCells_at P (L.ab id) (lo * A.es) A.ty news 0 cur w hX.blk (by simpa using hfit) hsrc.one
        simpa [hX.ae] using this
       ·have hn0 : n = 0 := by omega
        subst hn0
        have : news = [] := List.eq_nil_of_length_eq_zero (by rw [hsrc.newsLen]; simp)
        subst this
        simp only [List.append_nil,List.length_nil,Nat.add_zero,List.take_append_drop,Array.toArray_toList,storeCells]
        rw [setRow_self w _ cur A.ty (0,0) hX.blk]
        rfl
      have hsz' : ∃ ti,P.info? e = some ti /\ ti.size = A.es := by
       cases hq : P.info? e with
       | none => simp [szIs,hq] at ht
       | some ti => exact ⟨ti,rfl,by simpa [szIs,hq] using ht⟩
      obtain ⟨ti,hti,htis⟩ := hsz'
      have hrun : ∀ ty : TypeId,(Builtin.copy_ #[t,t'] ty #[a.eval x',a.eval y']).run P w = .ok (goInt (min ys.length n : Nat)) (w.setRow (L.ab id) (cur.toList.take (lo * A.es) ++ news ++ cur.toList.drop (lo * A.es + news.length)).toArray) := fun ty => by
       have h1 := hsrc.cells
       have h2 := hsrc.len
       have h1 : (Builtin.firstCells A.es (Nat.min ys.length n) (a.eval y')).run P w = .ok news.toArray w := h1
       have e5 : (goInt (min ys.length n : Nat)) = goInt (Nat.min ys.length n : Nat) := rfl
       rw [e5]
       simp only [Builtin.copy_,hxv]
       simp [run_underlying he,sizeOf,typeInfo,hti,htis,h2,h1,hst]
      have hk : Kept Z w (w.setRow (L.ab id) (cur.toList.take (lo * A.es) ++ news ++ cur.toList.drop (lo * A.es + news.length)).toArray) :=
       ⟨fun p b hp => setRow_other w _ b _ (fun e => o3 p (e ▸ hp))⟩
      have exec : ∀ {v : Value} {w' : World}, (∀ ty, (Builtin.copy_ #[t, t'] ty #[a.eval x', a.eval y']).run P w = .ok v w') -> ∀ (ty : TypeId) (pos : String) (after : Array Edge) (g : Option (Nat × Bool)),
        (execOp a.eval ⟨d',.call ⟨.builtin .copy,#[x',y'],#[t,t']⟩,ty,pos,after,g⟩).run P w = .ok (.value v) w' := by
       intro v w' hr ty _ _ _
       simp [execOp,resolve,invoke,builtin,hr ty]
      refine ⟨_,_,_,.inl rfl,exec hrun,Z,L,?_⟩
      have h1 := h.setArr (grownBy_setRow w (L.ab id) (cur.toList.take (lo * A.es) ++ news ++ cur.toList.drop (lo * A.es + news.length)).toArray) (row := some (L.ab id)) (fun k ek => ⟨A,hA,by cases ek; rfl⟩) (id := id) (LSame.refl L) (fun _ _ => rfl) (.inl ⟨A,hA,rfl⟩)
       (by rw [setRow_size]; exact o2) (St.noTo_nul _) (A' := { A with xs := cpyF A.xs lo (ys.take n) })
       (cur := (cur.toList.take (lo * A.es) ++ news ++ cur.toList.drop (lo * A.es + news.length)).toArray)
       ⟨hX.pos,hX.ae,by rw [cpyF_len hkl]; exact hX.al,setRow_heap w _ cur _ A.ty _ hX.blk,by rw [splA_size hfit]; exact hX.size,by rw [cpyF_len hkl]; exact hX.fits,hX.max,fun r hr => by
        simp only [cpyF,List.mem_append] at hr
        rcases hr with (h2 | h2) | h2
        ·exact hX.rows r (List.mem_of_mem_take h2)
        ·exact hrows r (List.mem_of_mem_take h2)
        ·exact hX.rows r (List.mem_of_mem_drop h2),fun p q r' c hp hq' => by
        rw [splA_get hfit]
        dsimp only at hp ⊢
        rcases cpyF_get hkl hp with ⟨h2,h3,h4⟩ | ⟨h2,h3⟩
        ·have hql : q < A.es := by
          rw [<- hrows r' (List.mem_of_mem_take (List.mem_of_getElem? h4))]; exact (List.getElem?_eq_some_iff.1 hq').1
         have hpn : p - lo < n := by
          have := List.length_take_le n ys
          omega
         rw [List.getElem?_take,if_pos hpn] at h4
         have h5 := hcell (p - lo) q r' c hpn h4 hq'
         have h6 := idx_lt (show p - lo < (ys.take n).length by omega) hql
         have h7 : p * A.es + q = lo * A.es + ((p - lo) * A.es + q) := by
          rw [<- Nat.add_assoc,<- Nat.add_mul,show lo + (p - lo) = p from by omega]
         rw [if_pos ⟨by omega,by omega⟩,h7,Nat.add_sub_cancel_left]
         exact ⟨h5.1.keep hk (fun _ _ h => h),h5.2⟩
        ·have hql : q < A.es := by rw [<- hX.rows r' (List.mem_of_getElem? h3)]; exact (List.getElem?_eq_some_iff.1 hq').1
         have h5 := hX.cell p q r' c h3 hq'
         rw [if_neg (by
          rintro ⟨q1,q2⟩
          rw [hnl,<- Nat.add_mul] at q2
          refine h2 ⟨?_,?_⟩
          ·by_cases hh : lo <= p
           ·exact hh
           ·have := idx_lt (show p < lo by omega) hql; omega
          ·by_cases hh : p < lo + (ys.take n).length
           ·exact hh
           ·have := Nat.mul_le_mul_right A.es (show lo + (ys.take n).length <= p by omega); omega)]
         exact ⟨h5.1.keep hk (fun _ _ h => h),h5.2⟩⟩
      exact h1.put hd (v := .int (min ys.length n : Nat)) (u := goInt (min ys.length n : Nat)) (TR.sc (.int .i64 (min ys.length n : Nat)) rfl)
     ·exact hv.elim
    ·exact hv.elim
   ·cases ht
  ·cases hm
 ·cases hm
theorem app_runs (h : Inv w0 Z0 N Z L st a w) {i ir : Nat} (hi : N.dst (some i) (some ir)) {es ty by_ : Nat} {s x : Opd} {op : Op} (hm : okH P N.sh (.app es ty by_ s x) op = true) (hv : (hev st (some i) (.app es ty by_ s x)).1) :
  Runs P w0 Z0 N w a op (some ir) (hev st (some i) (.app es ty by_ s x)).2 := by
 unfold okH at hm
 split at hm <;> (first | (rename_i heq; cases heq; done) | skip)
 all_goals (try (rename_i heq; cases heq))
 ·split at hm
  ·rename_i s' x' t t' e1 e2
   simp only [Bool.and_eq_true,beq_iff_eq] at hm
   obtain ⟨⟨⟨hs',hx'⟩,rfl⟩,ht⟩ := hm
   have e1 := list2 e1; have e2 := list2 e2; cases e1; cases e2
   split at ht
   ·rename_i e he
    simp only [Bool.and_eq_true,beq_iff_eq] at ht
    obtain ⟨⟨⟨rfl,hsz⟩,hby⟩,hzz⟩ := ht
    split at hzz
    ·rename_i ti hti
     split at hzz
     ·rename_i z hz
      have hzs : z.cells.size = es := by simpa using hzz
      have hby' : ti.bytes = by_ := by simpa [byIs,hti] using hby
      have hsz' : ti.size = es := by simpa [szIs,hti] using hsz
      simp only [hev] at hv ⊢
      have hsr := h.ev hs'
      have exec : ∀ {v : Value} {w' : World}, (∀ ty, (Builtin.append_ #[t, t] ty #[a.eval s', a.eval x']).run P w = .ok v w') -> ∀ (ty : TypeId) (pos : String) (after : Array Edge) (g : Option (Nat × Bool)),
        (execOp a.eval ⟨some ir,.call ⟨.builtin .append,#[s',x'],#[t,t]⟩,ty,pos,after,g⟩).run P w = .ok (.value v) w' := by
       intro v w' hr ty _ _ _
       simp [execOp,resolve,invoke,builtin,hr ty]
      split at hv
      ·rename_i i' e4 e3
       cases e4
       rw [e3] at hsr
       simp only [VR,AR,CR] at hsr
       have hsv : a.eval s' = .slice none 0 0 := by
        generalize a.eval s' = u at hsr; cases hsr; rfl
       split at hv
       ·rename_i hnil
        obtain ⟨hpos,hv⟩ := hv
        obtain ⟨news,hsrc,_,_⟩ := src_ok h he hpos hx' hv
        rw [hnil,<- hsz'] at hsrc
        exact ⟨_,_,_,.inl rfl,exec (fun ty => by rw [hsv]; exact run_append_zero he hti hsrc),Z,L,h.put (d := some i) (d' := some ir) hi (v := .nil) (u := .slice none 0 0) TR.nil⟩
       ·rename_i y r hnil
        obtain ⟨⟨hpos,hq⟩,hbytes,h63⟩ := hv
        obtain ⟨news,hsrc,hrows,hcell⟩ := src_ok h he hpos hx' hq
        rw [hnil] at hsrc hrows hcell
        have hn1 : (y :: r).length = r.length + 1 := rfl
        have hnl : news.length = (r.length + 1) * es := by rw [hsrc.newsLen,hn1]
        have hrun := fun (ty : TypeId) => run_append_grow_src (P := P) w t t ty e ti z he hti hz none 0 0 [] (by simp [Builtin.firstCells]) (a.eval x') (r.length + 1) news (by rw [hsz']; exact hsrc) (by omega) (by omega)
          (growslice_ok (by omega) (by rw [hby',Nat.zero_add]; exact hbytes))
        simp only [Nat.zero_add,List.nil_append] at hrun
        have hge := grownCap_ge w (r.length + 1) 0 e
        have hle := grownCap_le_maxLen w (r.length + 1) 0 e (by simp only [maxLen]; omega)
        refine ⟨_,_,_,.inl rfl,exec (fun ty => by rw [hsv]; exact hrun ty),?_⟩
        have := h.newArr hi (A := ⟨es,e,y :: r⟩) (cur := news.toArray ++ Builtin.zeroCells z.cells (grownCap w (r.length + 1) 0 e - (r.length + 1))) (cap := grownCap w (r.length + 1) 0 e)
         (w' := w.drew.alloc (.cells (news.toArray ++ Builtin.zeroCells z.cells (grownCap w (r.length + 1) 0 e - (r.length + 1))) e))
         ⟨rfl,rfl,rfl,by simp,fun k hk _ => Below.heap_alloc w.drew _ k hk⟩ (g := w.heap.size) (Nat.le_refl _) (by simp) (heap_alloc_new w.drew _) hpos
         (by simp only [Array.size_append,List.size_toArray,size_zeroCells,hzs,hnl,<- Nat.add_mul]; congr 1; omega) hge hle hrows
         (fun p q x c hp hq' => by
          have hpl : p < r.length + 1 := (List.getElem?_eq_some_iff.1 hp).1
          have hql : q < es := by rw [<- hrows x (List.mem_of_getElem? hp)]; exact (List.getElem?_eq_some_iff.1 hq').1
          have hlt := idx_lt hpl hql
          have e5 : (news.toArray ++ Builtin.zeroCells z.cells (grownCap w (r.length + 1) 0 e - (r.length + 1))).getD (p * es + q) undef = news.getD (p * es + q) undef := by
           rw [Array.getD_eq_getD_getElem?,Array.getElem?_append_left (by simp; omega),List.getD_eq_getElem?_getD]; simp
          simp only at e5 ⊢
          rw [e5]; exact hcell p q x c hp hq')
        exact this
      ·rename_i i' id lo n e4 e3
       cases e4
       rw [e3] at hsr
       split at hv
       ·rename_i A hA
        obtain ⟨⟨⟨rfl,hes,hty⟩,hq⟩,rfl,hbytes,h63⟩ := hv
        subst hes
        obtain ⟨cur,hX⟩ := h.arrs id A hA
        obtain ⟨o1,o2,o3⟩ := h.owna id A hA
        obtain ⟨ad,c,hsv,hnc,hcm,_,_,hz0⟩ := hsr
        obtain ⟨rfl,rfl⟩ := hz0 rfl
        obtain ⟨news,hsrc,hrows,hcell⟩ := src_ok h he hX.pos hx' hq
        generalize hys : (srcOf st A.es (x.ev st)).2 = ys at *
        have hnl : news.length = ys.length * A.es := hsrc.newsLen
        have hblk : w.heap[L.ab id]? = some (.cells cur e (0,0)) := by rw [<- hty]; exact hX.blk
        by_cases hroom : A.xs.length + ys.length <= L.ac id
        ·have hfit : A.xs.length * A.es + news.length <= cur.size := by rw [hnl,hX.size,<- Nat.add_mul]; exact Nat.mul_le_mul_right _ hroom
         have hrun := fun (ty : TypeId) => run_append_stay (P := P) (ty := ty) he hti hblk (by rw [hsz']; exact hsrc) hroom (by rw [hsz']; exact hfit)
         rw [hsz'] at hrun
         refine ⟨_,_,_,.inl rfl,exec (fun ty => by rw [hsv]; exact hrun ty),?_⟩
         have hl : LSame L { L with al := fun j => if j = id then A.xs.length + ys.length else L.al j } nul (fun j => j == id) :=
          ⟨fun _ _ => rfl,fun _ _ => rfl,fun _ _ => rfl,fun _ _ => rfl,fun j hj => by simp only [beq_eq_false_iff_ne] at hj; simp [hj],fun _ _ => rfl⟩
         have hk : Kept Z w (w.setRow (L.ab id) (cur.toList.take (A.xs.length * A.es) ++ news ++ cur.toList.drop (A.xs.length * A.es + news.length)).toArray) :=
          ⟨fun p b hp => setRow_other w _ b _ (fun e => o3 p (e ▸ hp))⟩
         have h1 := (h.kill nul (fun j => j == id)).setArr (grownBy_setRow w (L.ab id) (cur.toList.take (A.xs.length * A.es) ++ news ++ cur.toList.drop (A.xs.length * A.es + news.length)).toArray) (row := some (L.ab id)) (fun k ek => ⟨A,hA,by cases ek; rfl⟩) (id := id) hl (fun j hj => by simpa using hj) (.inl ⟨A,hA,rfl⟩)
          (by rw [setRow_size]; exact o2) (St.noTo_kill st _ _) (A' := { A with xs := A.xs ++ ys })
          (cur := (cur.toList.take (A.xs.length * A.es) ++ news ++ cur.toList.drop (A.xs.length * A.es + news.length)).toArray)
          ⟨hX.pos,hX.ae,by simp,by rw [hty]; exact setRow_heap w _ cur _ e _ hblk,by rw [splA_size hfit]; exact hX.size,by simpa using hroom,hX.max,fun r hr => by
           rcases List.mem_append.1 hr with h2 | h2
           ·exact hX.rows r h2
           ·exact hrows r h2,fun p q r' c hp hq' => by
           rw [splA_get hfit]
           dsimp only at hp ⊢
           by_cases hpl : p < A.xs.length
           ·rw [List.getElem?_append_left hpl] at hp
            have hql : q < A.es := by rw [<- hX.rows r' (List.mem_of_getElem? hp)]; exact (List.getElem?_eq_some_iff.1 hq').1
            have := idx_lt hpl hql
            rw [if_neg (by omega)]
            have h3 := hX.cell p q r' c hp hq'
            exact ⟨h3.1.keep hk (fun _ _ h => h),h3.2⟩
           ·rw [List.getElem?_append_right (by omega)] at hp
            have hpy : p - A.xs.length < ys.length := (List.getElem?_eq_some_iff.1 hp).1
            have hql : q < A.es := by rw [<- hrows r' (List.mem_of_getElem? hp)]; exact (List.getElem?_eq_some_iff.1 hq').1
            have h3 := hcell (p - A.xs.length) q r' c hp hq'
            have h4 := idx_lt hpy hql
            have h5 : p * A.es + q = A.xs.length * A.es + ((p - A.xs.length) * A.es + q) := by
             rw [<- Nat.add_assoc,<- Nat.add_mul,show A.xs.length + (p - A.xs.length) = p from by omega]
            rw [if_pos ⟨by omega,by omega⟩,h5,Nat.add_sub_cancel_left]
            exact ⟨h3.1.keep hk (fun _ _ h => h),h3.2⟩⟩
         exact ⟨_,_,h1.put (d := some i) (d' := some ir) hi (v := .view id 0 (A.xs.length + ys.length)) (u := .slice (some ⟨L.ab id,0,none⟩) (A.xs.length + ys.length) (L.ac id)) ⟨_,_,rfl,hroom,hX.max,by simp,by simp,by simp⟩⟩
        ·have hrun := fun (ty : TypeId) => run_append_grow_src (P := P) w t t ty e ti z he hti hz (some ⟨L.ab id, 0, none⟩) A.xs.length (L.ac id) (cur.toList.take (A.xs.length * A.es))
           (by
            rw [hsz']
            have hl : (cur.toList.take (A.xs.length * A.es)).length = A.xs.length * A.es := by
             have := Nat.mul_le_mul_right A.es hX.fits
             have h6 := hX.size
             simp; omega
            refine run_firstCells_some w.drew A.es A.xs.length ⟨L.ab id,0,none⟩ A.xs.length (L.ac id) _ hl (fun j v hj => ?_)
            rw [List.getElem?_take] at hj
            split at hj
            ·rw [Addr.add_lit]
             have : w.drew.cell? ⟨L.ab id,0 + j,none⟩ = w.cell? ⟨L.ab id,0 + j,none⟩ := rfl
             rw [this,cell_of_row w _ _ _ _ _ hblk,Nat.zero_add]; simpa using hj
            ·cases hj)
           (a.eval x') ys.length news (by rw [hsz']; exact hsrc) (by omega) (by omega) (growslice_ok (by omega) (by rw [hby']; exact hbytes))
         have hge := grownCap_ge w (A.xs.length + ys.length) (L.ac id) e
         have hle := grownCap_le_maxLen w (A.xs.length + ys.length) (L.ac id) e (by simp only [maxLen]; omega)
         have hold : (cur.toList.take (A.xs.length * A.es)).length = A.xs.length * A.es := by
          have := Nat.mul_le_mul_right A.es hX.fits
          have h6 := hX.size
          simp; omega
         refine ⟨_,_,_,.inl rfl,exec (fun ty => by rw [hsv]; exact hrun ty),?_⟩
         have hl : LSame L { L with ab := fun j => if j = id then w.heap.size else L.ab j,ac := fun j => if j = id then grownCap w (A.xs.length + ys.length) (L.ac id) e else L.ac j,al := fun j => if j = id then A.xs.length + ys.length else L.al j } nul (fun j => j == id) :=
          ⟨fun _ _ => rfl,fun j hj => by simp only [beq_eq_false_iff_ne] at hj; simp [hj],fun j hj => by simp only [beq_eq_false_iff_ne] at hj; simp [hj],fun _ _ => rfl,fun j hj => by simp only [beq_eq_false_iff_ne] at hj; simp [hj],fun _ _ => rfl⟩
         have hg : w.grownBy (w.drew.alloc (.cells ((cur.toList.take (A.xs.length * A.es) ++ news).toArray ++ Builtin.zeroCells z.cells (grownCap w (A.xs.length + ys.length) (L.ac id) e - (A.xs.length + ys.length))) e)) none :=
          ⟨rfl,rfl,rfl,by simp,fun k hk _ => Below.heap_alloc w.drew _ k hk⟩
         have hk : Kept Z w (w.drew.alloc (.cells ((cur.toList.take (A.xs.length * A.es) ++ news).toArray ++ Builtin.zeroCells z.cells (grownCap w (A.xs.length + ys.length) (L.ac id) e - (A.xs.length + ys.length))) e)) :=
          ⟨fun p b hp => hg.block b (h.zb p b hp) (by simp)⟩
         have h1 := (h.kill nul (fun j => j == id)).setArr hg (by simp) (id := id) hl (fun j hj => by simpa using hj) (.inr (by simp)) (by simp) (St.noTo_kill st _ _) (A' := { A with xs := A.xs ++ ys })
          (cur := (cur.toList.take (A.xs.length * A.es) ++ news).toArray ++ Builtin.zeroCells z.cells (grownCap w (A.xs.length + ys.length) (L.ac id) e - (A.xs.length + ys.length)))
          ⟨hX.pos,hX.ae,by simp,by simp only [if_true,hty]; exact heap_alloc_new w.drew _,by
           simp only [if_true,Array.size_append,List.size_toArray,List.length_append,size_zeroCells,hzs,hnl,hold,<- Nat.add_mul]; congr 1; omega,by simpa using hge,by simpa using hle,fun r hr => by
           rcases List.mem_append.1 hr with h2 | h2
           ·exact hX.rows r h2
           ·exact hrows r h2,fun p q r' c hp hq' => by
           dsimp only at hp ⊢
           have hpt : p < A.xs.length + ys.length := by
            have := (List.getElem?_eq_some_iff.1 hp).1
            simpa using this
           by_cases hpl : p < A.xs.length
           ·rw [List.getElem?_append_left hpl] at hp
            have hql : q < A.es := by rw [<- hX.rows r' (List.mem_of_getElem? hp)]; exact (List.getElem?_eq_some_iff.1 hq').1
            have hlt := idx_lt hpl hql
            have h3 := hX.cell p q r' c hp hq'
            have e5 : ((cur.toList.take (A.xs.length * A.es) ++ news).toArray ++ Builtin.zeroCells z.cells (grownCap w (A.xs.length + ys.length) (L.ac id) e - (A.xs.length + ys.length))).getD (p * A.es + q) undef = cur.getD (p * A.es + q) undef := by
             rw [Array.getD_eq_getD_getElem?,Array.getElem?_append_left (by rw [List.size_toArray,List.length_append,hold,hnl]; omega),List.getElem?_toArray,List.getElem?_append_left (by omega),List.getElem?_take,if_pos hlt,Array.getD_eq_getD_getElem?]; simp
            rw [e5]
            exact ⟨h3.1.keep hk (fun _ _ h => h),h3.2⟩
           ·rw [List.getElem?_append_right (by omega)] at hp
            have hpy : p - A.xs.length < ys.length := (List.getElem?_eq_some_iff.1 hp).1
            have hql : q < A.es := by rw [<- hrows r' (List.mem_of_getElem? hp)]; exact (List.getElem?_eq_some_iff.1 hq').1
            have h3 := hcell (p - A.xs.length) q r' c hp hq'
            have h4 := idx_lt hpy hql
            have h5 : p * A.es + q = A.xs.length * A.es + ((p - A.xs.length) * A.es + q) := by
             rw [<- Nat.add_assoc,<- Nat.add_mul,show A.xs.length + (p - A.xs.length) = p from by omega]
            have e5 : ((cur.toList.take (A.xs.length * A.es) ++ news).toArray ++ Builtin.zeroCells z.cells (grownCap w (A.xs.length + ys.length) (L.ac id) e - (A.xs.length + ys.length))).getD (p * A.es + q) undef = news.getD ((p - A.xs.length) * A.es + q) undef := by
             rw [Array.getD_eq_getD_getElem?,Array.getElem?_append_left (by rw [List.size_toArray,List.length_append,hold,hnl]; omega),List.getElem?_toArray,List.getElem?_append_right (by omega),hold,h5,Nat.add_sub_cancel_left,List.getD_eq_getElem?_getD]
            rw [e5]
            exact ⟨h3.1.keep hk (fun _ _ h => h),h3.2⟩⟩
         exact ⟨_,_,h1.put (d := some i) (d' := some ir) hi (v := .view id 0 (A.xs.length + ys.length)) ⟨_,_,rfl,hge,hle,by simp,by simp,by simp⟩⟩
       ·exact hv.elim
      ·exact hv.elim
     ·cases hzz
    ·cases hzz
   ·cases ht
  ·cases hm
 ·cases hm
end
end Go.Vc
namespace Go.Vc
open Go Go.RowKit
section
variable {w0 : World} {Z0 : Zone} {N : Fr} {Z : Zone} {L : Lay} {st : St} {a : Act} {w : World} {P : Program} {pb pa : Nat -> Bool}
theorem map_ne {id j : Nat} {M M' : Mp} (h : Inv w0 Z0 N Z L st a w) (h1 : lk st.m id = some M) (h2 : lk st.m j = some M') (hne : j ≠ id) {i : Nat} {x : List (Value × PV)} {y : Option (Value × PV)} (hi : M.it = some (i, x, y)) :
  L.bx j ≠ L.bx i /\ (∀ i' x' y',M'.it = some (i',x',y') -> L.bx i' ≠ L.bx i) /\ (∀ i' x' y',M'.it = some (i',x',y') -> L.bx i' ≠ L.bx id) := by
 obtain ⟨ents,clock,hR⟩ := h.maps id M h1
 obtain ⟨ents',clock',hR'⟩ := h.maps j M' h2
 obtain ⟨seen,b1,_⟩ := hR.itAt hi
 refine ⟨fun e => ?_,fun i' x' y' hi' e => ?_,fun i' x' y' hi' e => ?_⟩
 ·have := hR'.blk; rw [e,b1] at this; cases this
 ·obtain ⟨seen',c1,_⟩ := hR'.itAt hi'
  rw [e,b1] at c1
  simp only [Option.some.injEq,Obj.mapIter.injEq] at c1
  exact hne (h.injm j id M' M h2 h1 c1.1.symm)
 ·obtain ⟨seen',c1,_⟩ := hR'.itAt hi'
  rw [e,hR.blk] at c1; cases c1
theorem Inv.setMap (h : Inv w0 Z0 N Z L st a w) {w' : World} {row : Option Nat} {id : Nat} (hg : w.grownBy w' row)
  (hrow : ∀ k,row = some k -> ∃ M o,lk st.m id = some M /\ w.heap[k]? = some o /\ o.isCells = false /\ isRec o = false /\ w0.heap.size <= k /\ (∀ p,¬ Z p k) /\
   ∀ j M',j ≠ id -> lk st.m j = some M' -> L.bx j ≠ k /\ ∀ i x y,M'.it = some (i,x,y) -> L.bx i ≠ k)
  {L' : Lay} (hl : LSame L L' pb nul) (hns : ∀ i v,lk st.s i = some v -> v.toV pb nul = false) (hnb : ∀ i v,lk st.b i = some v -> pb i = false /\ v.any (PV.to pb nul) = false)
  (hm : ∀ j M,j ≠ id -> lk st.m j = some M -> pb j = false /\ M.to pb = false) (hown : w0.heap.size <= L'.bx id /\ L'.bx id < w'.heap.size /\ ∀ p,¬ Z p (L'.bx id))
  (hinj : ∀ j M,j ≠ id -> lk st.m j = some M -> L'.bx j ≠ L'.bx id) {M' : Mp} (hx : ∃ ents clock,MR w0 w' Z L' id M' ents clock) (hy : L'.yb = L.yb := by rfl) :
  Inv w0 Z0 N Z L' { st with m := up st.m id M' } a w' := by
 have hrz : ∀ p b,Z p b -> some b ≠ row := fun p b hp e => by
  obtain ⟨M,o,_,_,_,_,_,h1,_⟩ := hrow b e.symm
  exact h1 p hp
 have hk : Kept Z w w' := ⟨fun p b hp => hg.block b (h.zb p b hp) (hrz p b hp)⟩
 have h0 : w0.heap.size <= w.heap.size := h.below.size
 have hcell : ∀ b o,w.heap[b]? = some o -> (o.isCells = true \/ isRec o = true) -> w'.heap[b]? = w.heap[b]? := fun b o hb ho => hg.block b (lt_of_some hb) fun e => by
  obtain ⟨M,o',_,h1,h2,h3,_⟩ := hrow b e.symm
  rw [hb] at h1; cases h1
  rcases ho with ho | ho
  ·rw [ho] at h2; cases h2
  ·rw [ho] at h3; cases h3
 have hbk : ∀ i cs,lk st.b i = some cs -> w'.heap[L.bx i]? = w.heap[L.bx i]? := fun i cs hi => by
  obtain ⟨vs,T,h1,_⟩ := h.boxes i cs hi
  exact hcell _ _ h1 (.inl rfl)
 have hak : ∀ i A,lk st.a i = some A -> w'.heap[L.ab i]? = w.heap[L.ab i]? := fun i A hi => by
  obtain ⟨cur,hX⟩ := h.arrs i A hi
  exact hcell _ _ hX.blk (.inl rfl)
 have hrec : ∀ x,RecAt w0 Z w x -> RecAt w0 Z w' x := fun x hx => hx.keep (hcell _ _ hx.1 (.inr hx.2.1)) (fun _ hp => hp)
 refine ⟨h.zt,h.z0,h.zn,fun p b hp => Nat.lt_of_lt_of_le (h.zb p b hp) hg.size,h.below.grown hg h0 (fun k hk => ?_),?_,?_,?_,?_,?_,?_,?_,?_,?_,?_,fun x hx => hrec x (h.oth x hx),by rw [hy]; exact h.yb,h.size,?_,?_⟩
 ·obtain ⟨M,o,_,_,_,_,h1,_⟩ := hrow k hk
  exact h1
 ·intro i cs hi
  rw [hl.bx i (hnb i cs hi).1]
  obtain ⟨h1,h2,h3⟩ := h.ownb i cs hi
  exact ⟨h1,Nat.lt_of_lt_of_le h2 hg.size,h3⟩
 ·intro i A hi
  rw [hl.ab i rfl]
  obtain ⟨h1,h2,h3⟩ := h.owna i A hi
  exact ⟨h1,Nat.lt_of_lt_of_le h2 hg.size,h3⟩
 ·intro i j x y hx hy he
  rw [hl.bx i (hnb i x hx).1,hl.bx j (hnb j y hy).1] at he
  exact h.injb i j x y hx hy he
 ·intro i j x y hx hy he
  rw [hl.ab i rfl,hl.ab j rfl] at he
  exact h.inja i j x y hx hy he
 ·intro i j x y hx hy he
  rw [hl.bx i (hnb i x hx).1,hl.ab j rfl] at he
  exact h.injx i j x y hx hy he
 ·intro i cs hi
  exact (h.boxes i cs hi).keep hk (fun _ _ h => h) (hbk i cs hi) hl (hnb i cs hi).1 (hnb i cs hi).2
 ·intro i A hi
  obtain ⟨c,hX⟩ := h.arrs i A hi
  exact ⟨c,hX.keep hk (fun _ _ h => h) (hak i A hi) hl rfl⟩
 ·intro i M hi
  rw [lk_up] at hi
  by_cases e : id = i
  ·subst e; exact hown
  ·rw [if_neg e] at hi
   rw [hl.bx i (hm i M (Ne.symm e) hi).1]
   obtain ⟨h1,h2,h3⟩ := h.ownm i M hi
   exact ⟨h1,Nat.lt_of_lt_of_le h2 hg.size,h3⟩
 ·intro i j x y hx hy he
  rw [lk_up] at hx hy
  by_cases e1 : id = i <;> by_cases e2 : id = j
  ·rw [<- e1,<- e2]
  ·subst e1; rw [if_neg e2] at hy; exact absurd he.symm (hinj j y (Ne.symm e2) hy)
  ·subst e2; rw [if_neg e1] at hx; exact absurd he (hinj i x (Ne.symm e1) hx)
  ·rw [if_neg e1] at hx; rw [if_neg e2] at hy
   rw [hl.bx i (hm i x (Ne.symm e1) hx).1,hl.bx j (hm j y (Ne.symm e2) hy).1] at he
   exact h.injm i j x y hx hy he
 ·intro i M hi
  rw [lk_up] at hi
  by_cases e : id = i
  ·subst e; rw [if_pos rfl] at hi; cases hi; exact hx
  ·rw [if_neg e] at hi
   obtain ⟨ents,clock,hR⟩ := h.maps i M hi
   have hne : ∀ k,row = some k -> L.bx i ≠ k /\ ∀ i' x y,M.it = some (i',x,y) -> L.bx i' ≠ k := fun k hk => by
    obtain ⟨M1,o,_,_,_,_,_,_,h2⟩ := hrow k hk
    exact h2 i M (Ne.symm e) hi
   refine ⟨ents,clock,hR.keep hk (fun _ _ h => h) (hg.block _ (lt_of_some hR.blk) fun e => (hne _ e.symm).1 rfl) (fun i' x y hi' => ?_) hl (hm i M (Ne.symm e) hi).1 (hm i M (Ne.symm e) hi).2⟩
   obtain ⟨seen,b1,b2,b3⟩ := hR.itAt hi'
   exact ⟨hg.block _ (lt_of_some b1) fun e => (hne _ e.symm).2 i' x y hi' rfl,b3⟩
 ·intro dd hdm
  obtain ⟨l,h1,hn,h2⟩ := h.defers dd hdm
  exact ⟨l,h1,hn,fun D hD => hrec _ (h2 D hD)⟩
 ·intro i v hi
  exact (h.slots i v hi).keep hk (fun _ _ h => h) hl (hns i v hi)
theorem lk_rm_sub {α : Type} (l : List (Nat × α)) (i j : Nat) (v : α) (h : lk (rm l i) j = some v) : lk l j = some v /\ j ≠ i := by
 rw [lk_rm] at h
 split at h
 ·cases h
 ·rename_i e; exact ⟨h,Ne.symm e⟩
theorem kill_slots {i : Nat} {v : PV} (h : lk (st.kill pb nul).s i = some v) : v.toV pb nul = false := St.noTo_slot (St.noTo_kill st pb nul) h
theorem Inv.rmBox (h : Inv w0 Z0 N Z L st a w) (i : Nat) : Inv w0 Z0 N Z L { st with b := rm st.b i } a w :=
 h.forget (fun _ _ hl => .inl hl) (fun _ _ hl => (lk_rm_sub _ _ _ _ hl).1) (fun _ _ hl => hl) (fun _ _ hl => hl)
theorem mkm_runs (h : Inv w0 Z0 N Z L st a w) {i i' : Nat} (hi : N.dst (some i) (some i')) {kd : KD} {op : Op} (hm : okH P N.sh (.mkm kd) op = true) :
  Runs P w0 Z0 N w a op (some i') (hev st (some i) (.mkm kd)).2 := by
 cases op <;> simp only [okH] at hm <;> first | (exact absurd hm Bool.false_ne_true) | skip
 rename_i t r
 cases r with
 | some r => simp at hm
 | none =>
 simp only [hev]
 have hrun : (Instr.makeMap t none).run P w = .ok (.map (some w.heap.size)) (w.alloc (.map #[] 0)) := by simp [Instr.makeMap,run_newObj_alloc]
 refine ⟨_,_,_,.inl rfl,fun _ _ _ _ => by simp only [execOp,Option.map_none,Sem.run_bind,hrun,Result.andThen_ok]; rfl,?_⟩
 have hl : LSame L { L with bx := fun j => if j = i then w.heap.size else L.bx j } (fun j => j == i) nul := ⟨fun j hj => by simp only [beq_eq_false_iff_ne] at hj; simp [hj],fun _ _ => rfl,fun _ _ => rfl,fun _ _ => rfl,fun _ _ => rfl,fun _ _ => rfl⟩
 have hk0 := (h.kill (fun j => j == i) nul).rmBox i
 have h1 := hk0.setMap (grownBy_new w (.map #[] 0)) (row := none) (by simp) (id := i) hl (fun j v hj => kill_slots hj)
  (fun j v hj => by
   obtain ⟨h2,h3⟩ := lk_rm_sub _ _ _ _ hj
   exact ⟨by simpa using h3,St.noTo_box (St.noTo_kill st _ _) h2⟩)
  (fun j M hj hM => (St.noTo_map (St.noTo_kill st (fun j => j == i) nul) hM)) ⟨by simpa using h.below.size,by simp,fun p hp => by have := h.zb p _ hp; simp at this⟩
  (fun j M hj hM => by simp only [hj,if_false,if_true]; have := (hk0.ownm j M hM).2.1; omega) (M' := ⟨kd,[],none⟩)
  ⟨#[],0,⟨by simp only [if_true]; exact heap_alloc_new w _,rfl,fun j e x h1 => by simp at h1,fun x hx => by simp at hx,fun x hx => by simp at hx,by simp,trivial⟩⟩
 exact ⟨_,_,h1.put (d := some i) (d' := some i') hi (v := .mp i) (by simp [VR,AR,CR])⟩
theorem run_setObj_map {r : Nat} {es : Array MapEntry} {c : Nat} (h : w.heap[r]? = some (.map es c)) (o : Obj) : (setObj r o).run P w = .ok () (w.putObj r o) := by simp [setObj,Sem.run,h,World.putObj]
theorem mput_get {k : Value} {v : PV} : ∀ {es : List (Value × PV)},(∀ x ∈ es,vEq x.1 k = false) -> mput es k v = es ++ [(k,v)]
 | [],_ => rfl
 | (k0, u) :: r, h => by
   have h1 := h (k0,u) (by simp)
   simp only at h1
   have h2 := mput_get (v := v) (es := r) (fun x hx => h x (List.mem_cons_of_mem _ hx))
   simp only [mput,h1,Bool.false_eq_true,if_false,List.cons_append,h2]
theorem mput_set {k : Value} {v : PV} : ∀ {es : List (Value × PV)} {j : Nat} {x : Value × PV},es[j]? = some x -> vEq x.1 k = true -> (∀ j' x',j' < j -> es[j']? = some x' -> vEq x'.1 k = false) -> mput es k v = es.set j (k,v)
 | [],j,x,h,_,_ => by simp at h
 | (k0,u) :: r,0,x,h,h1,_ => by simp at h; subst h; simp only at h1; simp only [mput,h1,if_true,List.set_cons_zero]; rw [vEq_eq h1]
 | (k0, u) :: r, j + 1, x, h, h1, h2 => by
   have h3 := h2 0 (k0,u) (by omega) rfl
   simp only at h3
   simp only [mput,h3,Bool.false_eq_true,if_false,List.set_cons_succ]
   rw [mput_set (by simpa using h) h1 (fun j' x' hj hx => h2 (j' + 1) x' (by omega) (by simpa using hx))]
theorem modify_map {α β : Type} (g : α -> β) (f : α -> α) (h : ∀ x,g (f x) = g x) : ∀ (l : List α) (j : Nat),(l.modify j f).map g = l.map g := by
 intro l
 induction l with
 | nil => intro j; simp
 | cons x r ih => intro j; cases j <;> simp [h,ih]
theorem ta_of_vr {c : PV} {v : Value} (h : VR w Z L c v) (hp : pureV c = true) : TA w Z c v := by
 cases c with
 | agg cs =>
   obtain ⟨vs,h1,h2,h3⟩ := h
   refine ⟨vs,h1,h2,fun j c hj => (h3 j c hj).pure ?_⟩
   simp only [pureV,List.all_eq_true] at hp
   exact hp c (List.mem_of_getElem? hj)
 | sc u => exact h
 | nil => exact h
 | sl p es xs => exact h
 | iptr p cs o => exact h
 | _ => simp [pureV,pureC] at hp
theorem sameBits_of {x y : Value} (h : vEq x y = true) (kd : KD) (hk : kd.has y = true) : Instr.sameBits 10000 x y = true := by
 have := vEq_eq h
 subst this
 cases kd with
 | st n =>
   cases x <;> first | (cases hk; done) | skip
   rename_i c
   replace hk : i64s n c.toList = true := hk
   show (c.size == c.size && (c.toList.zip c.toList).all fun (x,y) => Instr.sameBits 9999 x y) = true
   rw [beq_self_eq_true,Bool.true_and]
   generalize c.toList = l at hk
   induction l generalizing n with
   | nil => rfl
   | cons v r ih =>
     cases n with
     | zero => cases v <;> cases hk
     | succ n =>
       cases v <;> first | (cases hk; done) | skip
       rename_i k m
       cases k <;> first | (cases hk; done) | skip
       rw [List.zip_cons_cons,List.all_cons,ih n hk,Bool.and_true]
       simp [Instr.sameBits]
 | _ =>
   cases x <;> simp [KD.has] at hk <;> simp [Instr.sameBits]
   try exact (bytesBeq _ _).2 rfl
theorem mup_runs (h : Inv w0 Z0 N Z L st a w) {d : Option Nat} (hd : d = none) {kd : KD} {x k v : Opd} {op : Op} (hm : okH P N.sh (.mup kd x k v) op = true) (hv : (hev st none (.mup kd x k v)).1) :
  Runs P w0 Z0 N w a op d (hev st none (.mup kd x k v)).2 := by
 subst hd
 cases op <;> simp only [okH,Bool.and_eq_true] at hm <;> first | (exact absurd hm Bool.false_ne_true) | skip
 rename_i t y k' u
 obtain ⟨⟨⟨ht,hx⟩,hk⟩,hu⟩ := hm
 split at ht
 ·rename_i kt e htu
  simp only [hev] at hv ⊢
  split at hv
  ·rename_i id kv e1 e2
   split at hv
   ·rename_i M hM
    obtain ⟨⟨hv1,hv2⟩,hpu⟩ := hv
    have h1 := h.ev hx
    rw [e1] at h1
    have h2 := h.ev hk
    have h1 : a.eval y = .map (some (L.bx id)) := h1
    have h2 : a.eval k' = kv := keyV_ev e2 h2
    have h3 := ta_of_vr (h.ev hu) hpu
    obtain ⟨ents,clock,hR⟩ := h.maps id M hM
    have hfn := findKey_mget (P := P) (w := w) ht hv2 ents.toList M.es (by simpa using hR.size) (fun j e x h3 h4 => ⟨(hR.ent j e x (by simpa using h3) h4).1,by have := hR.kind x (List.mem_of_getElem? h4); rwa [hv1] at this⟩)
    have hlt : L.bx id < w.heap.size := lt_of_some hR.blk
    have fin : ∀ (ents' : Array MapEntry) (clock' : Nat), (Instr.mapUpdate t (a.eval y) (a.eval k') (a.eval u)).run P w = .ok () (w.putObj (L.bx id) (.map ents' clock')) ->
      (∀ w' : World,Kept Z w w' -> w'.heap[L.bx id]? = some (.map ents' clock') -> MR w0 w' Z L id ⟨kd,mput M.es kv (v.ev st),none⟩ ents' clock') ->
      Runs P w0 Z0 N w a (.mapUpdate t y k' u) none { s := st.s,b := st.b,a := st.a,m := up st.m id ⟨kd,mput M.es kv (v.ev st),none⟩ } := by
     intro ents' clock' hrun hmr
     refine ⟨undef,.skip,_,.inr ⟨rfl,rfl⟩,fun _ _ _ _ => by simp only [execOp,Sem.run_bind,hrun,Result.andThen_ok]; rfl,Z,L,?_⟩
     have hg := grownBy_putObj' w (L.bx id) (.map ents' clock')
     refine h.setMap hg (row := some (L.bx id)) (fun k hk' => ?_) (LSame.refl L) (fun _ v _ => PV.toV_nul v) (fun _ v _ => ⟨rfl,by simp [PV.to_nul]⟩) (fun _ M _ _ => ⟨rfl,by unfold Mp.to; split <;> rfl⟩)
      ⟨(h.ownm id M hM).1,by simpa using hlt,(h.ownm id M hM).2.2⟩ (fun j M' hj hM' e => hj (h.injm j id M' M hM' hM e)) ⟨ents',clock',hmr _ ⟨fun p b hp => ?_⟩ (World.putObj_heap_same hlt)⟩
     ·cases hk'
      refine ⟨M,_,hM,hR.blk,rfl,rfl,(h.ownm id M hM).1,(h.ownm id M hM).2.2,fun j M' hj hM' => ⟨fun e => hj (h.injm j id M' M hM' hM e),fun i x y hi e => ?_⟩⟩
      obtain ⟨ents2,clock2,hR2⟩ := h.maps j M' hM'
      obtain ⟨seen,c1,_⟩ := hR2.itAt hi
      rw [e,hR.blk] at c1; cases c1
     ·exact World.putObj_heap_other fun e => (h.ownm id M hM).2.2 p (e ▸ hp)
    have hkk : kd.has kv = true := hv2
    rcases hfn with ⟨f1,f2,f3⟩ | ⟨j,e',x',f1,f2,f3,f4,f5,f6⟩
    ·refine fin (ents.push { key := kv,val := a.eval u,born := clock }) (clock + 1) ?_ (fun w' hK hb => ?_)
     ·simp [Instr.mapUpdate,run_underlying htu,h1,h2,getObj_map hR.blk,checkKey_run ht hv2,f3,run_setObj_map hR.blk]
     ·rw [mput_get f2]
      refine ⟨hb,by simp [hR.size],fun j e x g1 g2 => ?_,fun x hx => ?_,fun x hx => ?_,?_,trivial⟩
      ·rw [Array.getElem?_push] at g1
       by_cases ej : j = ents.size
       ·rw [if_pos ej] at g1; cases g1
        rw [List.getElem?_append_right (by rw [ej,hR.size]; exact Nat.le_refl _),ej,hR.size] at g2
        simp at g2; subst g2
        exact EntR.keep hK (fun _ _ h => h) ⟨rfl,h3⟩
       ·rw [if_neg ej] at g1
        have := (Array.getElem?_eq_some_iff.1 g1).1
        rw [List.getElem?_append_left (by rw [<- hR.size]; exact this)] at g2
        exact (hR.ent j e x g1 g2).keep hK (fun _ _ h => h)
      ·rcases List.mem_append.1 hx with hx | hx
       ·rw [<- hv1]; exact hR.kind x hx
       ·rw [List.mem_singleton] at hx; subst hx; exact hv2
      ·simp only [Array.toList_push,List.mem_append,List.mem_singleton] at hx
       rcases hx with hx | rfl
       ·exact Nat.lt_succ_of_lt (hR.old x hx)
       ·exact Nat.lt_succ_self _
      ·simp only [Array.toList_push]
       rw [List.pairwise_append]
       refine ⟨hR.born,by simp,fun x hx z hz => ?_⟩
       rw [List.mem_singleton] at hz; subst hz
       exact Nat.ne_of_lt (hR.old x hx)
    ·have hje : ents[j]? = some e' := by simpa using f1
     refine fin (ents.modify j fun e => { e with key := kv,val := a.eval u }) clock ?_ (fun w' hK hb => ?_)
     ·have hsb : Instr.sameBits 10000 (((ents[j]?).map (·.key)).getD kv) kv = true := by
       rw [hje]
       simp only [Option.map_some,Option.getD_some]
       have hek := (hR.ent j e' x' hje f2).1
       rw [hek]
       exact sameBits_of f5 kd hv2
      have hks : (Instr.keyThatStays (((ents[j]?).map (·.key)).getD kv) kv).run P w = .ok kv w := by
       simp only [Instr.keyThatStays,hsb,if_true,Sem.run_pure]
      simp only [Instr.mapUpdate,Sem.run_bind,run_underlying htu,h1,h2,getObj_map hR.blk,checkKey_run ht hv2,f4,Result.andThen_ok,hks,run_setObj_map hR.blk]
     ·rw [mput_set f2 f5 f6]
      have hjl : j < ents.size := (Array.getElem?_eq_some_iff.1 hje).1
      have hmod : ∀ (q : Nat) (e : MapEntry),(ents.modify j fun e => { e with key := kv,val := a.eval u })[q]? = some e -> if q = j then e = { e' with key := kv,val := a.eval u } else ents[q]? = some e := by
       intro q e hq
       rw [Array.getElem?_modify] at hq
       by_cases eq : j = q
       ·subst eq; rw [if_pos rfl,hje] at hq; simp at hq; rw [if_pos rfl]; exact hq.symm
       ·rw [if_neg eq] at hq; rw [if_neg (Ne.symm eq)]; exact hq
      refine ⟨hb,by simp [hR.size],fun q e x g1 g2 => ?_,fun x hx => ?_,fun x hx => ?_,?_,trivial⟩
      ·have hq := hmod q e g1
       by_cases eq : q = j
       ·subst eq
        rw [if_pos rfl] at hq; subst hq
        rw [List.getElem?_set_self (by rw [<- hR.size]; exact hjl)] at g2
        cases g2
        exact EntR.keep hK (fun _ _ h => h) ⟨rfl,h3⟩
       ·rw [if_neg eq] at hq
        rw [List.getElem?_set_ne (Ne.symm eq)] at g2
        exact (hR.ent q e x hq g2).keep hK (fun _ _ h => h)
      ·rcases List.mem_or_eq_of_mem_set hx with hx | hx
       ·rw [<- hv1]; exact hR.kind x hx
       ·rw [hx]; exact hv2
      ·obtain ⟨q,hq⟩ := List.getElem?_of_mem hx
       have hq := hmod q x (by rw [<- Array.getElem?_toList]; exact hq)
       by_cases eq : q = j
       ·rw [if_pos eq] at hq; subst hq
        exact hR.old e' (by rw [<- Array.mem_def]; exact Array.mem_of_getElem? hje)
       ·rw [if_neg eq] at hq
        exact hR.old x (by rw [<- Array.mem_def]; exact Array.mem_of_getElem? hq)
      ·have hb' := hR.born
       rw [<- List.pairwise_map (f := fun x : MapEntry => x.born) (R := fun x y => x ≠ y)] at hb' ⊢
       rw [Array.toList_modify,modify_map (fun x : MapEntry => x.born) (fun e => { e with key := kv,val := a.eval u }) (fun _ => rfl)]
       exact hb'
   ·exact hv.elim
  ·exact hv.elim
 ·cases ht
theorem rng_runs (h : Inv w0 Z0 N Z L st a w) {i i' : Nat} (hi : N.dst (some i) (some i')) {x : Opd} {op : Op} (hm : okH P N.sh (.rng x) op = true) (hv : (hev st (some i) (.rng x)).1) :
  Runs P w0 Z0 N w a op (some i') (hev st (some i) (.rng x)).2 := by
 cases op <;> simp only [okH,Bool.and_eq_true] at hm <;> first | (exact absurd hm Bool.false_ne_true) | skip
 rename_i t y
 obtain ⟨ht,hx⟩ := hm
 split at ht
 ·rename_i kt e htu
  simp only [hev] at hv ⊢
  split at hv
  ·rename_i i2 id ei e1
   cases ei
   split at hv
   ·rename_i M hM
    have h1 := h.ev hx
    rw [e1] at h1
    have h1 : a.eval y = .map (some (L.bx id)) := h1
    have hk0 := (h.kill (fun j => j == i) nul).rmBox i
    obtain ⟨ents,clock,hR⟩ := hk0.maps id M hM
    obtain ⟨hp1,hp2⟩ := St.noTo_map (St.noTo_kill st (fun j => j == i) nul) hM
    have hne : id ≠ i := by simpa using hp1
    have hrun : (Instr.range t (a.eval y)).run P w = .ok (.pointer (some ⟨w.heap.size,0,none⟩)) (w.alloc (.mapIter (some (L.bx id)) clock #[] clock)) := by
     simp [Instr.range,run_underlying htu,h1,getObj_map hR.blk,run_newObj_alloc]
    refine ⟨_,_,_,.inl rfl,fun _ _ _ _ => by simp only [execOp,Sem.run_bind,hrun,Result.andThen_ok]; rfl,?_⟩
    have hl : LSame L { L with bx := fun j => if j = i then w.heap.size else L.bx j } (fun j => j == i) nul := ⟨fun j hj => by simp only [beq_eq_false_iff_ne] at hj; simp [hj],fun _ _ => rfl,fun _ _ => rfl,fun _ _ => rfl,fun _ _ => rfl,fun _ _ => rfl⟩
    have hK : Kept Z w (w.alloc (.mapIter (some (L.bx id)) clock #[] clock)) := ⟨fun p b hp => Below.heap_alloc _ _ _ (h.zb p b hp)⟩
    have hlt : L.bx id < w.heap.size := lt_of_some hR.blk
    have hf : (ents.toList.filter fun e => !(#[] : Array Nat).contains e.born) = ents.toList := List.filter_eq_self.2 (by simp)
    have h2 := hk0.setMap (grownBy_new w (.mapIter (some (L.bx id)) clock #[] clock)) (row := none) (by simp) (id := id) hl (fun j v hj => kill_slots hj)
     (fun j v hj => by
      obtain ⟨h2,h3⟩ := lk_rm_sub _ _ _ _ hj
      exact ⟨by simpa using h3,St.noTo_box (St.noTo_kill st _ _) h2⟩)
     (fun j M hj hM => (St.noTo_map (St.noTo_kill st (fun j => j == i) nul) hM)) ⟨by simp only [hne,if_false]; exact (hk0.ownm id M hM).1,by simp only [hne,if_false]; simp; omega,by simp only [hne,if_false]; exact (hk0.ownm id M hM).2.2⟩
     (fun j M' hj hM' => by
      have hji := (St.noTo_map (St.noTo_kill st (fun j => j == i) nul) hM').1
      have hji : j ≠ i := by simpa using hji
      simp only [hji,hne,if_false]
      exact fun e => hj (hk0.injm j id M' M hM' hM e)) (M' := { M with it := some (i,M.es,none) })
     ⟨ents,clock,⟨by simp only [hne,if_false]; exact (Below.heap_alloc _ _ _ hlt).trans hR.blk,hR.size,fun j e x g1 g2 => (hR.ent j e x g1 g2).keep hK (fun _ _ h => h),hR.kind,hR.old,hR.born,by
      refine ⟨#[],?_,?_,?_,?_,?_,fun x hx => by cases hx⟩
      ·simp only [if_true,hne,if_false]; exact heap_alloc_new w _
      ·simp only [if_true]; exact h.below.size
      ·simp only [if_true]; intro p hp; have := h.zb p _ hp; omega
      ·rw [hf]; simpa using hR.size
      ·intro j e x g1 g2
       rw [hf] at g1
       exact (hR.ent j e x (by simpa using g1) g2).keep hK (fun _ _ h => h)⟩⟩
    exact ⟨_,_,h2.put (d := some i) (d' := some i') hi (v := .itr id i) (by simp [VR,AR,CR])⟩
   ·exact hv.elim
  ·exact hv.elim
 ·cases ht
theorem filter_erase : ∀ (F : List MapEntry) (i : Nat) (e : MapEntry),F.Pairwise (fun x y => x.born ≠ y.born) -> F[i]? = some e -> F.filter (fun x => x.born != e.born) = F.eraseIdx i
 | [],i,e,_,h => by simp at h
 | z :: r, 0, e, hp, h => by
   simp at h; subst h
   rw [List.pairwise_cons] at hp
   simp only [List.eraseIdx_cons_zero]
   rw [List.filter_cons_of_neg (by simp)]
   exact List.filter_eq_self.2 fun x hx => by simpa using (hp.1 x hx).symm
 | z :: r, i + 1, e, hp, h => by
   rw [List.pairwise_cons] at hp
   have hm : e ∈ r := List.mem_of_getElem? (by simpa using h)
   rw [List.filter_cons_of_pos (by simpa using hp.1 e hm),List.eraseIdx_cons_succ,filter_erase r i e hp.2 (by simpa using h)]
theorem erase_get {α : Type} (l : List α) (i j : Nat) : (l.eraseIdx i)[j]? = if j < i then l[j]? else l[j + 1]? := List.getElem?_eraseIdx ..
theorem nxt_runs (h : Inv w0 Z0 N Z L st a w) {d d' : Option Nat} (hd : N.dst d d') {x : Opd} {op : Op} (hm : okH P N.sh (.nxt x) op = true) {id it : Nat} (e1 : x.ev st = .itr id it) {M : Mp} (hM : lk st.m id = some M) (hsc : M.kd.sc = true)
  {left : List (Value × PV)} {cur : Option (Value × PV)} (hit : M.it = some (it,left,cur)) :
  (left = [] /\ Runs P w0 Z0 N w a op d' (st.put d (.tup [.sc (.bool false)]))) \/
  (∃ (i : Nat) (z : Value × PV),left[i]? = some z /\ Runs P w0 Z0 N w a op d' (({ st with m := up st.m id { M with it := some (it,left.eraseIdx i,some z) } } : St).put d (.tup [.sc (.bool true),.sc z.1,z.2]))) := by
 cases op <;> simp only [okH] at hm <;> first | (exact absurd hm Bool.false_ne_true) | skip
 rename_i y q
 cases q with
 | true => simp at hm
 | false =>
 have h1 := h.ev hm
 rw [e1] at h1
 have h1 : a.eval y = .pointer (some ⟨L.bx it,0,none⟩) := h1
 obtain ⟨ents,clock,hR⟩ := h.maps id M hM
 have hI := hR.it
 rw [hit] at hI
 obtain ⟨seen,i1,i2,i3,i4,i5,i6⟩ := hI
 have hleft : (leftOf ents seen).toList = ents.toList.filter fun e => !seen.contains e.born := by simp [leftOf]
 rcases run_next_at (P := P) w 0 (L.bx it) (L.bx id) clock clock seen ents clock i1 hR.blk hR.old (Nat.le_refl _) with ⟨g1,g2⟩ | ⟨e,g1,w1,g2,g3⟩
 ·left
  have hnil : left = [] := by
   rw [<- hleft] at i4
   have : (leftOf ents seen).toList.length = 0 := by simpa using g1
   rw [this] at i4
   exact List.eq_nil_of_length_eq_zero i4.symm
  refine ⟨hnil,_,_,w,.inl rfl,fun ty _ _ _ => by have g2' : (Instr.next (.pointer (some ⟨L.bx it,0,none⟩)) false ty).run P w = _ := g2; simp only [execOp,Sem.run_bind,h1,g2',Result.andThen_ok]; rfl,Z,L,h.put hd ⟨#[.bool false],rfl,rfl,fun j c hj => ?_⟩⟩
  match j with
  | 0 => simp at hj; subst hj; exact TR.sc _ rfl
  | j + 1 => simp at hj
 ·right
  rw [hleft] at g1
  obtain ⟨i,hi⟩ := List.getElem?_of_mem g1
  have hil : i < left.length := by rw [<- i4]; exact (List.getElem?_eq_some_iff.1 hi).1
  have hz := i5 i e left[i] hi (List.getElem?_eq_getElem hil)
  refine ⟨i,left[i],List.getElem?_eq_getElem hil,_,_,_,.inl rfl,fun ty _ _ _ => by have g3' : (Instr.next (.pointer (some ⟨L.bx it,0,none⟩)) false ty).run P w = _ := g3; simp only [execOp,Sem.run_bind,h1,g3',Result.andThen_ok]; rfl,?_⟩
  have hw1 : w1.heap = w.heap := by rcases g2 with rfl | rfl <;> rfl
  have hI1 : Inv w0 Z0 N Z L st a w1 := by rcases g2 with rfl | rfl <;> first | exact h | exact h.drew
  have hsb : ChangeMaps.setBlock w1 (L.bx it) (.mapIter (some (L.bx id)) clock (seen.push e.born) clock) = w1.putObj (L.bx it) (.mapIter (some (L.bx id)) clock (seen.push e.born) clock) := rfl
  have hlt : L.bx it < w1.heap.size := by rw [hw1]; exact lt_of_some i1
  have hitid : L.bx id ≠ L.bx it := fun e => by have := hR.blk; rw [e,i1] at this; cases this
  rw [hsb]
  have hK : Kept Z w (w1.putObj (L.bx it) (.mapIter (some (L.bx id)) clock (seen.push e.born) clock)) := ⟨fun p b hp => by
   have hne : b ≠ L.bx it := fun e => i3 p (by rw [<- e]; exact hp)
   rw [World.putObj_heap_other hne,hw1]⟩
  have hmem : e ∈ ents.toList := (List.mem_filter.1 g1).1
  have h2 := hI1.setMap (grownBy_putObj' w1 (L.bx it) (.mapIter (some (L.bx id)) clock (seen.push e.born) clock)) (row := some (L.bx it)) (id := id) (fun k hk => by
    cases hk
    refine ⟨M,_,hM,by rw [hw1]; exact i1,rfl,rfl,i2,i3,fun j M' hj hM' => ?_⟩
    obtain ⟨n1,n2,_⟩ := map_ne h hM hM' hj hit
    exact ⟨n1,n2⟩) (LSame.refl L) (fun _ v _ => PV.toV_nul v) (fun _ v _ => ⟨rfl,by simp [PV.to_nul]⟩) (fun _ M _ _ => ⟨rfl,by unfold Mp.to; split <;> rfl⟩)
   ⟨(h.ownm id M hM).1,by rw [World.putObj_size,hw1]; exact (h.ownm id M hM).2.1,(h.ownm id M hM).2.2⟩ (fun j M' hj hM' e => hj (h.injm j id M' M hM' hM e)) (M' := { M with it := some (it,left.eraseIdx i,some left[i]) })
   ⟨ents,clock,⟨by rw [World.putObj_heap_other hitid,hw1]; exact hR.blk,hR.size,fun j e x f1 f2 => (hR.ent j e x f1 f2).keep hK (fun _ _ h => h),hR.kind,hR.old,hR.born,by
    have hfe : (ents.toList.filter fun x => !(seen.push e.born).contains x.born) = (ents.toList.filter fun x => !seen.contains x.born).eraseIdx i := by
     rw [<- filter_erase _ i e (hR.born.sublist List.filter_sublist) hi,List.filter_filter]
     refine List.filter_congr fun x _ => ?_
     rw [Bool.eq_iff_iff]
     simp only [Bool.not_eq_true',Array.contains_eq_mem,Array.mem_push,decide_eq_false_iff_not,not_or,Bool.and_eq_true,bne_iff_ne,ne_eq]
     exact ⟨fun hh => ⟨fun e' => hh.2 e',hh.1⟩,fun hh => ⟨hh.2,fun e' => hh.1 e'⟩⟩
    refine ⟨seen.push e.born,World.putObj_heap_same hlt,i2,i3,?_,?_,fun x hx => ?_⟩
    ·rw [hfe,List.length_eraseIdx,List.length_eraseIdx,i4]
    ·intro j e' x f1 f2
     rw [hfe,erase_get] at f1
     rw [erase_get] at f2
     split at f1
     ·rw [if_pos ‹_›] at f2; exact (i5 _ _ _ f1 f2).keep hK (fun _ _ h => h)
     ·rw [if_neg ‹_›] at f2; exact (i5 _ _ _ f1 f2).keep hK (fun _ _ h => h)
    ·cases hx
     exact ⟨e.born,e,by simp,hmem,rfl,hz.keep hK (fun _ _ h => h)⟩⟩⟩
  refine ⟨Z,L,h2.put hd ⟨#[.bool true,e.key,e.val],rfl,rfl,fun j c hj => ?_⟩⟩
  have hz' := hz.keep hK (fun _ _ h => h)
  match j with
  | 0 => simp at hj; subst hj; exact TR.sc _ rfl
  | 1 =>
    simp at hj; subst hj
    have hek : e.key = left[i].1 := hz.1
    refine hek ▸ TR.sc _ ?_
    obtain ⟨j,hj⟩ := List.getElem?_of_mem hmem
    have hjl : j < M.es.length := by rw [<- hR.size]; have := (List.getElem?_eq_some_iff.1 hj).1; simpa using this
    have h9 := hR.ent j e M.es[j] (by simpa using hj) (List.getElem?_eq_getElem hjl)
    have h10 := hR.kind _ (List.getElem_mem hjl)
    rw [<- h9.1] at h10
    revert h10 hsc
    cases M.kd <;> cases e.key <;> simp [KD.has,KD.sc,scOk]
  | 2 => simp at hj; subst hj; exact hz'.2.ar L
  | j + 3 => simp at hj
end
end Go.Vc
namespace Go.Vc
open Go Go.RowKit
inductive Sub : PV -> PV -> Prop
 | refl (c) : Sub c c
 | bot (c) : Sub c .bot
 | nil (p es) : Sub .nil (.sl p es [])
 | sl (p q es xs ys) : (q = true -> p = true) -> xs.length = ys.length -> (∀ (i : Nat) (x y : List PV), xs[i]? = some x -> ys[i]? = some y -> x.length = y.length) ->
   (∀ (i : Nat) (x y : List PV) (j : Nat) (c d : PV),xs[i]? = some x -> ys[i]? = some y -> x[j]? = some c -> y[j]? = some d -> Sub c d) -> Sub (.sl p es xs) (.sl q es ys)
 | iptr (p q cs ds off) : (q = true -> p = true) -> cs.length = ds.length -> (∀ (j : Nat) (c d : PV),cs[j]? = some c -> ds[j]? = some d -> Sub c d) -> Sub (.iptr p cs off) (.iptr q ds off)
 | agg (cs ds) : cs.length = ds.length -> (∀ (j : Nat) (c d : PV),cs[j]? = some c -> ds[j]? = some d -> Sub c d) -> Sub (.agg cs) (.agg ds)
 | tup (cs ds) : cs.length = ds.length -> (∀ (j : Nat) (c d : PV),cs[j]? = some c -> ds[j]? = some d -> Sub c d) -> Sub (.tup cs) (.tup ds)
section
variable {w : World} {Z : Zone} {L : Lay}
theorem some_at {α β : Type} {xs : List α} {ys : List β} (hl : xs.length = ys.length) {i : Nat} {y : β} (h : ys[i]? = some y) : ∃ x,xs[i]? = some x := by
 have := (List.getElem?_eq_some_iff.1 h).1
 exact ⟨xs[i],List.getElem?_eq_getElem (by omega)⟩
theorem Sub.tr (hz : ∀ b,Z true b -> Z false b) {c d : PV} (hs : Sub c d) : ∀ {v : Value},TR w Z c v -> TR w Z d v := by
 have hzz : ∀ {p q : Bool} {b : Nat},(q = true -> p = true) -> Z p b -> Z q b := fun {p q b} hpq h => by
  cases p <;> cases q <;> first | exact h | exact hz _ h | (cases hpq rfl)
 induction hs with
 | refl c => exact fun h => h
 | bot c => exact fun _ => .bot _
 | nil p es =>
   intro v h
   cases h
   exact .sl0 p es none 0 (Nat.zero_le _)
 | sl p q es xs ys hpq hl hr _ ih =>
   intro v h
   cases h with
   | sl0 _ _ a cap h =>
     have : ys = [] := List.length_eq_zero_iff.1 hl.symm
     subst this
     exact .sl0 q es a cap h
   | sl _ _ _ b o cap g h0 h1 h2 h3 h4 h5 h6 h7 =>
     rw [hl]
     refine .sl q es ys b o cap g h0 (hzz hpq h1) (by omega) (by omega) h4 (fun y hy => ?_) (fun i j hi hj => h6 i j (by omega) hj) (fun i j y d hi hj => ?_)
     ·obtain ⟨i,hi,rfl⟩ := List.getElem_of_mem hy
      have hxi : xs[i]? = some xs[i] := List.getElem?_eq_getElem (by omega)
      rw [<- hr i _ _ hxi (List.getElem?_eq_getElem hi)]
      exact h5 _ (List.mem_of_getElem? hxi)
     ·obtain ⟨x,hx⟩ := some_at hl hi
      obtain ⟨c,hc⟩ := some_at (hr i x y hx hi) hj
      exact ih i x y j c d hx hi hc hj (h7 i j x c hx hc)
 | iptr p q cs ds off hpq hl _ ih =>
   intro v h
   cases h with
   | iptr _ _ b o _ g h1 h2 h3 =>
     refine .iptr q ds b o off g (hzz hpq h1) (fun j hj => h2 j (by omega)) (fun j d hj => ?_)
     obtain ⟨c,hc⟩ := some_at hl hj
     exact ih j c d hc hj (h3 j c hc)
 | agg => intro v h; cases h
 | tup => intro v h; cases h
theorem Sub.cr (hz : ∀ b,Z true b -> Z false b) {c d : PV} (hs : Sub c d) {v : Value} (h : CR w Z L c v) : CR w Z L d v := by
 by_cases hcd : c = d
 ·subst hcd; exact h
 have h1 : TR w Z c v \/ d = .bot := by
  cases hs with
  | refl => exact absurd rfl hcd
  | bot => exact .inr rfl
  | _ => exact .inl h
 rcases h1 with h1 | rfl
 ·have h2 := hs.tr hz h1
  exact h2.cr L
 ·exact TR.bot v
theorem Sub.cm (hz : ∀ b,Z true b -> Z false b) {c d : PV} (hs : Sub c d) {v : Value} (h : CM w Z L c v) : CM w Z L d v := ⟨hs.cr hz h.1,h.2⟩
theorem AR.of_cr {c : PV} {v : Value} (h : CR w Z L c v) : AR w Z L c v := by
 cases c <;> simp only [AR] <;> first | exact h | (simp only [CR] at h; cases h)
theorem VR.of_ar {c : PV} {v : Value} (h : AR w Z L c v) : VR w Z L c v := by
 cases c <;> simp only [VR] <;> first | exact h | (simp only [AR,CR] at h; cases h)
theorem Sub.ar (hz : ∀ b,Z true b -> Z false b) {c d : PV} (hs : Sub c d) {v : Value} (h : AR w Z L c v) : AR w Z L d v := by
 cases hs with
 | refl => exact h
 | bot => exact TR.bot v
 | nil p es => exact AR.of_cr (Sub.cr hz (.nil p es) h)
 | sl p q es xs ys h1 h2 h3 h4 => exact AR.of_cr (Sub.cr hz (.sl p q es xs ys h1 h2 h3 h4) h)
 | iptr p q cs ds off h1 h2 h3 => exact AR.of_cr (Sub.cr hz (.iptr p q cs ds off h1 h2 h3) h)
 | agg cs ds hl hh =>
   obtain ⟨vs,e,h1,h2⟩ := h
   refine ⟨vs,e,by omega,fun j d hj => ?_⟩
   obtain ⟨c,hc⟩ := some_at hl hj
   exact (hh j c d hc hj).cm hz (h2 j c hc)
 | tup cs ds hl hh => simp only [AR,CR] at h; cases h
theorem Sub.vr (hz : ∀ b,Z true b -> Z false b) {c d : PV} (hs : Sub c d) {v : Value} (h : VR w Z L c v) : VR w Z L d v := by
 cases hs with
 | refl => exact h
 | bot => exact TR.bot v
 | nil p es => exact VR.of_ar (Sub.ar hz (.nil p es) h)
 | sl p q es xs ys h1 h2 h3 h4 => exact VR.of_ar (Sub.ar hz (.sl p q es xs ys h1 h2 h3 h4) h)
 | iptr p q cs ds off h1 h2 h3 => exact VR.of_ar (Sub.ar hz (.iptr p q cs ds off h1 h2 h3) h)
 | agg cs ds h1 h2 => exact VR.of_ar (Sub.ar hz (.agg cs ds h1 h2) h)
 | tup cs ds hl hh =>
   obtain ⟨vs,e,h1,h2⟩ := h
   refine ⟨vs,e,by omega,fun j d hj => ?_⟩
   obtain ⟨c,hc⟩ := some_at hl hj
   exact (hh j c d hc hj).ar hz (h2 j c hc)
theorem Sub.ta (hz : ∀ b,Z true b -> Z false b) {c d : PV} (hs : Sub c d) {v : Value} (h : TA w Z c v) : TA w Z d v := by
 have key : ∀ {c d : PV},(∀ cs,d ≠ .agg cs) -> Sub c d -> TR w Z c v -> TA w Z d v := fun {c d} hd hs h => by
  have := hs.tr hz h
  cases d <;> simp only [TA] <;> first | exact this | exact absurd rfl (hd _)
 cases hs with
 | refl => exact h
 | bot => exact TR.bot v
 | nil p es => exact key (by intro cs e; cases e) (.nil p es) h
 | sl p q es xs ys h1 h2 h3 h4 => exact key (by intro cs e; cases e) (.sl p q es xs ys h1 h2 h3 h4) h
 | iptr p q cs ds off h1 h2 h3 => exact key (by intro cs e; cases e) (.iptr p q cs ds off h1 h2 h3) h
 | agg cs ds hl hh =>
   obtain ⟨vs,e,h1,h2⟩ := h
   refine ⟨vs,e,by omega,fun j d hj => ?_⟩
   obtain ⟨c,hc⟩ := some_at hl hj
   exact ⟨(hh j c d hc hj).tr hz (h2 j c hc).1,(h2 j c hc).2⟩
 | tup cs ds hl hh => simp only [TA] at h; cases h
theorem Sub.tv (hz : ∀ b,Z true b -> Z false b) {c d : PV} (hs : Sub c d) {v : Value} (h : TV w Z c v) : TV w Z d v := by
 have key : ∀ {c d : PV},(∀ cs,d ≠ .tup cs) -> Sub c d -> TA w Z c v -> TV w Z d v := fun {c d} hd hs h => by
  have := hs.ta hz h
  cases d <;> simp only [TV] <;> first | exact this | exact absurd rfl (hd _)
 cases hs with
 | refl => exact h
 | bot => exact TR.bot v
 | nil p es => exact key (by intro cs e; cases e) (.nil p es) h
 | sl p q es xs ys h1 h2 h3 h4 => exact key (by intro cs e; cases e) (.sl p q es xs ys h1 h2 h3 h4) h
 | iptr p q cs ds off h1 h2 h3 => exact key (by intro cs e; cases e) (.iptr p q cs ds off h1 h2 h3) h
 | agg cs ds h1 h2 => exact key (by intro cs e; cases e) (.agg cs ds h1 h2) h
 | tup cs ds hl hh =>
   obtain ⟨vs,e,h1,h2⟩ := h
   refine ⟨vs,e,by omega,fun j d hj => ?_⟩
   obtain ⟨c,hc⟩ := some_at hl hj
   exact (hh j c d hc hj).ta hz (h2 j c hc)
end
def SubL : List PV -> List PV -> Prop
 | [],[] => True
 | c :: cs,d :: ds => Sub c d /\ SubL cs ds
 | _,_ => False
theorem SubL.len : ∀ {cs ds : List PV},SubL cs ds -> cs.length = ds.length
 | [],[],_ => rfl
 | c :: cs,d :: ds,h => by simp [SubL.len h.2]
theorem SubL.at : ∀ {cs ds : List PV},SubL cs ds -> ∀ (j : Nat) (c d : PV),cs[j]? = some c -> ds[j]? = some d -> Sub c d
 | [],[],_,j,c,d,h,_ => by simp at h
 | c' :: cs, d' :: ds, h, j, c, d, hc, hd => by
   cases j with
   | zero => simp at hc hd; subst hc hd; exact h.1
   | succ j => simp at hc hd; exact SubL.at h.2 j c d hc hd
theorem SubL.rfl' : ∀ cs : List PV,SubL cs cs
 | [] => trivial
 | c :: cs => ⟨.refl c,SubL.rfl' cs⟩
theorem Sub.aggL {cs ds : List PV} (h : SubL cs ds) : Sub (.agg cs) (.agg ds) := .agg cs ds h.len h.at
theorem Sub.tupL {cs ds : List PV} (h : SubL cs ds) : Sub (.tup cs) (.tup ds) := .tup cs ds h.len h.at
theorem Sub.slp (p es) (xs : List (List PV)) (q : Bool) (h : q = true -> p = true) : Sub (.sl p es xs) (.sl q es xs) :=
 .sl p q es xs xs h rfl (fun i x y h1 h2 => by rw [h1] at h2; cases h2; rfl) (fun i x y j c d h1 h2 h3 h4 => by rw [h1] at h2; cases h2; rw [h3] at h4; cases h4; exact .refl c)
def SubR : List (List PV) -> List (List PV) -> Prop
 | [],[] => True
 | x :: xs,y :: ys => SubL x y /\ SubR xs ys
 | _,_ => False
theorem SubR.len : ∀ {cs ds : List (List PV)},SubR cs ds -> cs.length = ds.length
 | [],[],_ => rfl
 | c :: cs,d :: ds,h => by simp [SubR.len h.2]
theorem SubR.at : ∀ {cs ds : List (List PV)},SubR cs ds -> ∀ (j : Nat) (c d : List PV),cs[j]? = some c -> ds[j]? = some d -> SubL c d
 | [],[],_,j,c,d,h,_ => by simp at h
 | c' :: cs, d' :: ds, h, j, c, d, hc, hd => by
   cases j with
   | zero => simp at hc hd; subst hc hd; exact h.1
   | succ j => simp at hc hd; exact SubR.at h.2 j c d hc hd
theorem SubR.rfl' : ∀ cs : List (List PV),SubR cs cs
 | [] => trivial
 | c :: cs => ⟨SubL.rfl' c,SubR.rfl' cs⟩
theorem SubR.app : ∀ {xs ys us vs : List (List PV)},SubR xs ys -> SubR us vs -> SubR (xs ++ us) (ys ++ vs)
 | [],[],_,_,_,h => h
 | _ :: _,_ :: _,_,_,h1,h => ⟨h1.1,SubR.app h1.2 h⟩
theorem SubR.map {α : Type} (f g : α -> List PV) : ∀ (l : List α),(∀ x ∈ l,SubL (f x) (g x)) -> SubR (l.map f) (l.map g)
 | [],_ => trivial
 | x :: l,h => ⟨h x List.mem_cons_self,SubR.map f g l fun y hy => h y (List.mem_cons_of_mem _ hy)⟩
theorem Sub.slR {p q : Bool} (es : Nat) {xs ys : List (List PV)} (hpq : q = true -> p = true) (h : SubR xs ys) : Sub (.sl p es xs) (.sl q es ys) :=
 .sl p q es xs ys hpq h.len (fun i x y h1 h2 => (h.at i x y h1 h2).len) (fun i x y j c d h1 h2 h3 h4 => (h.at i x y h1 h2).at j c d h3 h4)
def WkS : List (Nat × PV) -> List (Nat × PV) -> Prop
 | [],[] => True
 | (i,c) :: s,(j,d) :: t => i = j /\ Sub c d /\ WkS s t
 | _,_ => False
def WkB : List (Nat × List PV) -> List (Nat × List PV) -> Prop
 | [],[] => True
 | (i,c) :: s,(j,d) :: t => i = j /\ SubL c d /\ WkB s t
 | _,_ => False
def WkA : List (Nat × Arr) -> List (Nat × Arr) -> Prop
 | [],[] => True
 | (i,c) :: s,(j,d) :: t => (i = j /\ d.es = c.es /\ d.ty = c.ty) /\ SubR c.xs d.xs /\ WkA s t
 | _,_ => False
def Wk (st st' : St) : Prop := WkS st.s st'.s /\ WkB st.b st'.b /\ WkA st.a st'.a /\ st'.m = st.m
theorem WkS.lk : ∀ {s t : List (Nat × PV)},WkS s t -> ∀ i d,lk t i = some d -> ∃ c,lk s i = some c /\ Sub c d
 | [],[],_,i,d,h => by simp [Go.Vc.lk] at h
 | (k, c) :: s, (j, d') :: t, h, i, d, hd => by
   obtain ⟨rfl,h1,h2⟩ := h
   simp only [Go.Vc.lk] at hd ⊢
   split at hd
   ·rename_i e; cases hd; rw [if_pos e]; exact ⟨c,rfl,h1⟩
   ·rename_i e; rw [if_neg e]; exact WkS.lk h2 i d hd
theorem WkB.lk : ∀ {s t : List (Nat × List PV)},WkB s t -> ∀ i d,lk t i = some d -> ∃ c,lk s i = some c /\ SubL c d
 | [],[],_,i,d,h => by simp [Go.Vc.lk] at h
 | (k, c) :: s, (j, d') :: t, h, i, d, hd => by
   obtain ⟨rfl,h1,h2⟩ := h
   simp only [Go.Vc.lk] at hd ⊢
   split at hd
   ·rename_i e; cases hd; rw [if_pos e]; exact ⟨c,rfl,h1⟩
   ·rename_i e; rw [if_neg e]; exact WkB.lk h2 i d hd
theorem WkA.lk : ∀ {s t : List (Nat × Arr)},WkA s t -> ∀ i d,lk t i = some d -> ∃ c,lk s i = some c /\ (d.es = c.es /\ d.ty = c.ty) /\ SubR c.xs d.xs
 | [],[],_,i,d,h => by simp [Go.Vc.lk] at h
 | (k, c) :: s, (j, d') :: t, h, i, d, hd => by
   obtain ⟨⟨rfl,h0⟩,h1,h2⟩ := h
   simp only [Go.Vc.lk] at hd ⊢
   split at hd
   ·rename_i e; cases hd; rw [if_pos e]; exact ⟨c,rfl,h0,h1⟩
   ·rename_i e; rw [if_neg e]; exact WkA.lk h2 i d hd
theorem WkS.rfl' : ∀ s,WkS s s
 | [] => trivial
 | (_,c) :: s => ⟨rfl,.refl c,WkS.rfl' s⟩
theorem WkB.rfl' : ∀ s,WkB s s
 | [] => trivial
 | (_,c) :: s => ⟨rfl,SubL.rfl' c,WkB.rfl' s⟩
theorem WkA.rfl' : ∀ s,WkA s s
 | [] => trivial
 | (_,c) :: s => ⟨⟨rfl,rfl,rfl⟩,SubR.rfl' c.xs,WkA.rfl' s⟩
theorem Wk.refl (st : St) : Wk st st := ⟨WkS.rfl' _,WkB.rfl' _,WkA.rfl' _,rfl⟩
theorem Inv.wk {w0 : World} {Z0 : Zone} {N : Fr} {Z : Zone} {L : Lay} {st st' : St} {a : Act} {w : World} (h : Inv w0 Z0 N Z L st a w) (hw : Wk st st') : Inv w0 Z0 N Z L st' a w := by
 obtain ⟨hs,hb,ha,hm⟩ := hw
 refine ⟨h.zt,h.z0,h.zn,h.zb,h.below,fun i v hl => ?_,fun i v hl => ?_,fun i j x y hx hy => ?_,fun i j x y hx hy => ?_,fun i j x y hx hy => ?_,fun i v hl => ?_,fun i v hl => ?_,by rw [hm]; exact h.ownm,by rw [hm]; exact h.injm,by rw [hm]; exact h.maps,h.oth,h.yb,h.size,h.defers,fun i v hl => ?_⟩
 ·obtain ⟨c,h1,_⟩ := hb.lk i v hl; exact h.ownb i c h1
 ·obtain ⟨c,h1,_⟩ := ha.lk i v hl; exact h.owna i c h1
 ·obtain ⟨c,h1,_⟩ := hb.lk i x hx; obtain ⟨d,h2,_⟩ := hb.lk j y hy; exact h.injb i j c d h1 h2
 ·obtain ⟨c,h1,_⟩ := ha.lk i x hx; obtain ⟨d,h2,_⟩ := ha.lk j y hy; exact h.inja i j c d h1 h2
 ·obtain ⟨c,h1,_⟩ := hb.lk i x hx; obtain ⟨d,h2,_⟩ := ha.lk j y hy; exact h.injx i j c d h1 h2
 ·obtain ⟨c,h1,h2⟩ := hb.lk i v hl
  obtain ⟨vs,T,h3,h4,h5⟩ := h.boxes i c h1
  refine ⟨vs,T,h3,by rw [h4,h2.len],fun j d hj => ?_⟩
  obtain ⟨x,hx⟩ := some_at h2.len hj
  exact (h2.at j x d hx hj).cm h.zt (h5 j x hx)
 ·obtain ⟨c,h1,⟨h2,h3⟩,h4⟩ := ha.lk i v hl
  obtain ⟨cur,hX⟩ := h.arrs i c h1
  refine ⟨cur,by rw [h2]; exact hX.pos,by rw [h2]; exact hX.ae,by rw [<- h4.len]; exact hX.al,by rw [h3]; exact hX.blk,by rw [h2]; exact hX.size,by rw [<- h4.len]; exact hX.fits,hX.max,fun y hy => ?_,fun p q y d hp hq => ?_⟩
  ·obtain ⟨j,hj,rfl⟩ := List.getElem_of_mem hy
   have hyj : v.xs[j]? = some v.xs[j] := List.getElem?_eq_getElem hj
   obtain ⟨x,hx⟩ := some_at h4.len hyj
   rw [h2,<- (h4.at j x _ hx hyj).len]
   exact hX.rows x (List.mem_of_getElem? hx)
  ·obtain ⟨x,hx⟩ := some_at h4.len hp
   obtain ⟨e,he⟩ := some_at (h4.at p x y hx hp).len hq
   rw [h2]
   exact ⟨((h4.at p x y hx hp).at q e d he hq).tr h.zt (hX.cell p q x e hx he).1,(hX.cell p q x e hx he).2⟩
 ·obtain ⟨c,h1,h2⟩ := hs.lk i v hl
  exact h2.vr h.zt (h.slots i c h1)
end Go.Vc
namespace Go.Vc
open Go Go.RowKit
def PV.rs0 (st : St) : PV -> PV
 | .view id lo n => match lk st.a id with | some A => .sl false A.es ((A.xs.drop lo).take n) | none => .bot
 | .eptr id i off => match lk st.a id with | some A => .iptr false (A.xs.getD i []) off | none => .bot
 | .ptr _ _ | .clo .. | .yl _ | .mp _ | .itr .. | .cld _ | .bv .. => .bot
 | c => c
def rsBox (st : St) (i : Nat) : PV := match lk st.b i with | some cs => .iptr false (cs.map (PV.rs0 st)) 0 | none => .bot
def PV.rs1 (st : St) : PV -> PV
 | .clo f ids => .pcl f (ids.map (rsBox st))
 | .ptr id off => match lk st.b id with | some cs => .iptr false (cs.map (PV.rs0 st)) off | none => .bot
 | .bv id es n => match lk st.b id with | some cs => bif es == 1 && cs.length == n then .sl false 1 (cs.map fun c => [c.rs0 st]) else .bot | none => .bot
 | c => c.rs0 st
def PV.rsA (st : St) : PV -> PV
 | .agg cs => .agg (cs.map (PV.rs1 st))
 | .tup _ => .bot
 | c => c.rs1 st
def FnOK (P : Program) (f : Nat) (args : List PV) (post : PV -> Prop) : Prop :=
 ∀ (w : World) (Z : Zone),(∀ b,Z true b -> Z false b) -> (∀ p b,Z p b -> b < w.heap.size) -> ∀ vs : Array Value,vs.size = args.length -> (∀ j c,args[j]? = some c -> TV w Z c (vs.getD j undef)) ->
  Calls P f vs w fun e w' => ∃ v r,e = .returned v /\ post r /\ TV w' (fun p b => p = true /\ (Z true b \/ (w.heap.size <= b /\ b < w'.heap.size))) r v /\ Below w.heap.size w w'
theorem FnOK.mono {P : Program} {f : Nat} {args : List PV} {post post' : PV -> Prop} (h : FnOK P f args post) (hp : ∀ r,post r -> post' r) : FnOK P f args post' :=
 fun w Z h1 h2 vs h3 h4 => (h w Z h1 h2 vs h3 h4).mono fun _ _ ⟨v,r,e1,e2,e3⟩ => ⟨v,r,e1,hp r e2,e3⟩
theorem FnOK.sub {P : Program} {f : Nat} {args args' : List PV} {post : PV -> Prop} (h : FnOK P f args' post) (hs : SubL args args') : FnOK P f args post :=
 fun w Z h1 h2 vs h3 h4 => h w Z h1 h2 vs (by rw [h3,hs.len]) fun j d hj => by
  obtain ⟨c,hc⟩ := some_at hs.len hj
  exact (hs.at j c d hc hj).tv h1 (h4 j c hc)
def FnEq (P : Program) (f : Nat) (args : List PV) (r : PV) : Prop := FnOK P f args (· = r)
inductive Perm : PV -> Prop
 | bot : Perm .bot
 | sc (v) : Perm (.sc v)
 | nil : Perm .nil
 | sl (p es xs) : p = true -> (∀ x ∈ xs,∀ c ∈ x,Perm c) -> Perm (.sl p es xs)
 | iptr (p cs off) : p = true -> (∀ c ∈ cs,Perm c) -> Perm (.iptr p cs off)
 | agg (cs) : (∀ c ∈ cs,Perm c) -> Perm (.agg cs)
 | tup (cs) : (∀ c ∈ cs,Perm c) -> Perm (.tup cs)
@[simp] theorem perm_bot : Perm .bot ↔ True := ⟨fun _ => trivial,fun _ => .bot⟩
@[simp] theorem perm_sc (v : Value) : Perm (.sc v) ↔ True := ⟨fun _ => trivial,fun _ => .sc v⟩
@[simp] theorem perm_nil : Perm .nil ↔ True := ⟨fun _ => trivial,fun _ => .nil⟩
@[simp] theorem perm_sl (p : Bool) (es : Nat) (xs : List (List PV)) : Perm (.sl p es xs) ↔ p = true /\ ∀ x ∈ xs,∀ c ∈ x,Perm c := ⟨fun h => by cases h; exact ⟨‹_›,‹_›⟩,fun h => .sl _ _ _ h.1 h.2⟩
@[simp] theorem perm_iptr (p : Bool) (cs : List PV) (off : Nat) : Perm (.iptr p cs off) ↔ p = true /\ ∀ c ∈ cs,Perm c := ⟨fun h => by cases h; exact ⟨‹_›,‹_›⟩,fun h => .iptr _ _ _ h.1 h.2⟩
@[simp] theorem perm_agg (cs : List PV) : Perm (.agg cs) ↔ ∀ c ∈ cs,Perm c := ⟨fun h => by cases h; assumption,fun h => .agg _ h⟩
@[simp] theorem perm_tup (cs : List PV) : Perm (.tup cs) ↔ ∀ c ∈ cs,Perm c := ⟨fun h => by cases h; assumption,fun h => .tup _ h⟩
section
variable {w0 : World} {Z0 : Zone} {N : Fr} {Z : Zone} {L : Lay} {st : St} {a : Act} {w : World} {P : Program}
def calleeZ (Z : Zone) (L : Lay) (st : St) : Zone := fun p b => Z p b \/ (p = false /\ ((∃ id A,lk st.a id = some A /\ b = L.ab id) \/ (∃ id cs,lk st.b id = some cs /\ b = L.bx id)))
theorem view_tr {Z' : Zone} {id : Nat} {A : Arr} {cur : Array Value} (hX : XR w Z L id A cur) (hz : ∀ p b, Z p b -> Z' p b) {p : Bool} (hid : Z' p (L.ab id)) {lo n : Nat} {v : Value} (h : CR w Z L (.view id lo n) v) :
  TR w Z' (.sl p A.es ((A.xs.drop lo).take n)) v := by
 have hk : Kept Z w w := ⟨fun _ _ _ => rfl⟩
 obtain ⟨ad,c',rfl,h1,h2,h3,h4,h5⟩ := h
 rw [hX.al] at h3
 have hlen : ((A.xs.drop lo).take n).length = n := by simp; omega
 by_cases hn : n = 0
 ·subst hn
  rw [List.take_zero]
  exact TR.sl0 _ _ _ _ h2
 ·rw [h4 (by omega)]
  have := TR.sl (w := w) (Z := Z') p A.es ((A.xs.drop lo).take n) (L.ab id) (lo * L.ae id) c' (fun p q => cur.getD ((lo + p) * A.es + q) undef) hX.pos hid (by omega) (by omega) h2
   (fun x hx => hX.rows x (List.mem_of_mem_drop (List.mem_of_mem_take hx)))
   (fun p q hp hq => by
    rw [hlen] at hp
    have hpl : lo + p < A.xs.length := by omega
    have hlt : (lo + p) * A.es + q < cur.size := by rw [hX.size]; exact Nat.lt_of_lt_of_le (idx_lt hpl hq) (Nat.mul_le_mul_right _ hX.fits)
    have hrow := hX.rows _ (List.getElem_mem hpl)
    have hx' := hX.cell (lo + p) q _ (A.xs[lo + p])[q] (List.getElem?_eq_getElem hpl) (List.getElem?_eq_getElem (by omega))
    refine ⟨?_,hx'.2⟩
    rw [cell_of_row w _ _ _ _ _ hX.blk,hX.ae,<- Nat.add_assoc,<- Nat.add_mul]
    simp [Array.getD,hlt])
   (fun p q x c hp hq => by
    rw [List.getElem?_take] at hp
    split at hp
    ·rw [List.getElem?_drop] at hp
     exact (hX.cell _ _ _ _ hp hq).1.keep hk hz
    ·cases hp)
  rw [hlen] at this
  exact this
theorem CR.rs0 (h : Inv w0 Z0 N Z L st a w) {c : PV} {v : Value} (hc : CR w Z L c v) : TR w (calleeZ Z L st) (c.rs0 st) v := by
 have hk : Kept Z w w := ⟨fun _ _ _ => rfl⟩
 have hz : ∀ p b,Z p b -> calleeZ Z L st p b := fun _ _ h => .inl h
 cases c with
 | view id lo n =>
   simp only [PV.rs0]
   cases hA : lk st.a id with
   | none => exact TR.bot v
   | some A =>
     obtain ⟨cur,hX⟩ := h.arrs id A hA
     exact view_tr hX hz (.inr ⟨rfl,.inl ⟨id,A,hA,rfl⟩⟩) hc
 | eptr id i off =>
   simp only [PV.rs0]
   cases hA : lk st.a id with
   | none => exact TR.bot v
   | some A =>
     obtain ⟨cur,hX⟩ := h.arrs id A hA
     obtain ⟨rfl,h1⟩ := hc
     rw [hX.al] at h1
     have hl := hX.lies h1
     refine TR.iptr false _ (L.ab id) (i * L.ae id) off (fun q => cur.getD (i * A.es + q) undef) (.inr ⟨rfl,.inl ⟨id,A,hA,rfl⟩⟩) (fun q hq => ⟨hl.cell q hq,?_⟩) (fun q c hq => ?_)
     ·exact (hl.rel q _ (List.getElem?_eq_getElem hq)).2
     ·rw [List.getD_eq_getElem?_getD,List.getElem?_eq_getElem h1] at hq
      exact (hX.cell i q _ c (List.getElem?_eq_getElem h1) hq).1.keep hk hz
 | ptr id off => exact TR.bot v
 | clo f ids => exact TR.bot v
 | yl id => exact TR.bot v
 | mp id => exact TR.bot v
 | itr id it => exact TR.bot v
 | cld ids => exact TR.bot v
 | bv id es n => exact TR.bot v
 | _ => exact TR.keep hk hz hc
theorem box_rs (h : Inv w0 Z0 N Z L st a w) (i : Nat) : TR w (calleeZ Z L st) (rsBox st i) (.pointer (some ⟨L.bx i,0,none⟩)) := by
 unfold rsBox
 split
 ·rename_i cs hB
  obtain ⟨vs,T,h1,h2,h3⟩ := h.boxes i cs hB
  have := TR.iptr (w := w) (Z := calleeZ Z L st) false (cs.map (PV.rs0 st)) (L.bx i) 0 0 (fun j => vs.getD j undef) (.inr ⟨rfl,.inr ⟨i,cs,hB,rfl⟩⟩) (fun j hj => by
   simp only [List.length_map] at hj
   refine ⟨?_,(h3 j _ (List.getElem?_eq_getElem hj)).2⟩
   rw [cell_of_row w _ _ _ _ _ h1,Nat.zero_add]
   simp [Array.getD,h2,hj]) (fun j c hj => by
   rw [List.getElem?_map] at hj
   obtain ⟨c',h4,rfl⟩ := Option.map_eq_some_iff.1 hj
   exact CR.rs0 h (h3 j c' h4).1)
  exact this
 ·exact TR.bot _
theorem CR.rs1 (h : Inv w0 Z0 N Z L st a w) {c : PV} {v : Value} (hc : CR w Z L c v) : TR w (calleeZ Z L st) (c.rs1 st) v := by
 cases c with
 | clo f ids =>
   have hc : v = .func (.func f) #[] (ids.map fun i => Value.pointer (some ⟨L.bx i,0,none⟩)).toArray := hc
   rw [hc]
   refine TR.pcl f _ _ (by simp) fun j c hj => ?_
   rw [List.getElem?_map] at hj
   obtain ⟨i,h4,rfl⟩ := Option.map_eq_some_iff.1 hj
   have : ((ids.map fun i => Value.pointer (some ⟨L.bx i,0,none⟩)).toArray).getD j undef = .pointer (some ⟨L.bx i,0,none⟩) := by simp [Array.getD_eq_getD_getElem?,h4]
   rw [this]
   exact box_rs h i
 | ptr id off =>
   simp only [PV.rs1]
   cases hB : lk st.b id with
   | none => exact TR.bot v
   | some cs =>
     obtain ⟨vs,T,h1,h2,h3⟩ := h.boxes id cs hB
     simp only [CR] at hc
     subst hc
     have := TR.iptr (w := w) (Z := calleeZ Z L st) false (cs.map (PV.rs0 st)) (L.bx id) 0 off (fun j => vs.getD j undef) (.inr ⟨rfl,.inr ⟨id,cs,hB,rfl⟩⟩) (fun j hj => by
      simp only [List.length_map] at hj
      refine ⟨?_,(h3 j _ (List.getElem?_eq_getElem hj)).2⟩
      rw [cell_of_row w _ _ _ _ _ h1,Nat.zero_add]
      simp [Array.getD,h2,hj]) (fun j c hj => by
      rw [List.getElem?_map] at hj
      obtain ⟨c',h4,rfl⟩ := Option.map_eq_some_iff.1 hj
      exact CR.rs0 h (h3 j c' h4).1)
     rw [Nat.zero_add] at this
     exact this
 | bv id es n =>
   simp only [PV.rs1]
   cases hB : lk st.b id with
   | none => exact TR.bot v
   | some cs =>
     simp only
     cases he : (es == 1 && cs.length == n) with
     | false => exact TR.bot v
     | true =>
       simp only [Bool.and_eq_true,beq_iff_eq] at he
       obtain ⟨rfl,rfl⟩ := he
       obtain ⟨vs,T,h1,h2,h3⟩ := h.boxes id cs hB
       simp only [CR] at hc
       obtain ⟨rfl,hm⟩ := hc
       simp only [cond_true]
       by_cases h0 : cs = []
       ·subst h0
        exact TR.sl0 _ _ _ _ hm
       ·have hpos := List.length_pos_iff.2 h0
        have := TR.sl (w := w) (Z := calleeZ Z L st) false 1 (cs.map fun c => [c.rs0 st]) (L.bx id) 0 cs.length (fun i _ => vs.getD i undef) (by omega) (.inr ⟨rfl,.inr ⟨id,cs,hB,rfl⟩⟩) (by simpa using hpos) (by simp) hm
         (fun x hx => by obtain ⟨c,_,rfl⟩ := List.mem_map.1 hx; rfl)
         (fun i j hi hj => by
          simp only [List.length_map] at hi
          obtain rfl : j = 0 := by omega
          refine ⟨?_,(h3 i _ (List.getElem?_eq_getElem hi)).2⟩
          rw [cell_of_row w _ _ _ _ _ h1]
          simp [Array.getD,h2,hi])
         (fun i j x c hi hj => by
          rw [List.getElem?_map] at hi
          obtain ⟨c',h4,rfl⟩ := Option.map_eq_some_iff.1 hi
          match j,hj with
          | 0,hj => simp at hj; subst hj; exact CR.rs0 h (h3 i c' h4).1)
        simpa using this
 | _ => exact CR.rs0 h hc
theorem VR.rsA (h : Inv w0 Z0 N Z L st a w) {c : PV} {v : Value} (hc : VR w Z L c v) : TA w (calleeZ Z L st) (c.rsA st) v := by
 cases c with
 | agg cs =>
   obtain ⟨vs,h1,h2,h3⟩ := hc
   refine ⟨vs,h1,by simpa using h2,fun j c hj => ?_⟩
   rw [List.getElem?_map] at hj
   obtain ⟨c',h4,rfl⟩ := Option.map_eq_some_iff.1 hj
   exact ⟨CR.rs1 h (h3 j c' h4).1,(h3 j c' h4).2⟩
 | tup cs => exact TR.bot v
 | _ =>
   have h1 := CR.rs1 h (AR.toCR (by simp) (VR.toAR (by simp) hc))
   simp only [PV.rsA]
   revert h1
   generalize PV.rs1 st _ = c
   intro h1
   cases c <;> simp only [TA] <;> first | exact h1 | (cases h1)
structure Env where
 p : Program
 kk : Nat
 Y : Nat -> List PV -> St -> (St -> Prop) -> Prop
 pan : List PanicEntry -> St -> Prop
abbrev Env.of (P : Program) : Env := ⟨P,0,fun _ _ _ _ => False,fun _ _ => False⟩
def Fw (r : Option Nat) : Fence := { Fence.wide with round := r }
abbrev Mem (w0 : World) (Z0 : Zone) (X : Gh) (G : Nat -> Value) (Z : Zone) (L : Lay) (st : St) (w : World) : Prop := Inv w0 Z0 ⟨0,0,G,X,none⟩ Z L st ⟨#[],[]⟩ w
def ArgsR (w : World) (Z : Zone) (L : Lay) (args : List PV) (vs : Array Value) : Prop := vs.size = args.length /\ ∀ j c,args[j]? = some c -> VR w Z L c (vs.getD j undef)
def EnvOK (E : Env) (w0 : World) (Z0 : Zone) (X : Gh) (G : Nat -> Value) : Prop :=
 ∀ (X' : Gh) (G' : Nat -> Value) (Z : Zone) (L : Lay) (w : World) (id : Nat) (args : List PV) (st : St) (K : St -> Prop) (vs : Array Value),(∀ x ∈ X.x,x ∈ X'.x) -> X'.y = X.y -> (∀ i,i < E.kk -> G' i = G i) -> E.Y id args st K ->
  Mem w0 Z0 X' G' Z L st w -> ArgsR w Z L args vs ->
  ∃ (f : FuncId) (tmps : Array Value) (assign body : Code),(Instr.yield (X.y id) vs).run E.p w = .ok (.round (X.y id) f tmps assign body) w /\
   ∀ n,RoundIn (Fw none) n E.p (X.y id) f tmps assign body w fun e w' => e = .returned (.bool true) /\ ∃ st' Z' L',K st' /\ Mem w0 Z0 X' G' Z' L' st' w'
theorem EnvOK.of (P : Program) (w0 : World) (Z0 : Zone) (X : Gh) (G : Nat -> Value) : EnvOK (Env.of P) w0 Z0 X G := fun _ _ _ _ _ _ _ _ _ _ _ _ _ h => h.elim
theorem EnvOK.congr {E : Env} {w0 : World} {Z0 : Zone} {X X2 : Gh} {G G' : Nat -> Value} (h : EnvOK E w0 Z0 X G) (hx : ∀ x ∈ X.x,x ∈ X2.x) (hy : X2.y = X.y) (hg : ∀ i,i < E.kk -> G' i = G i) : EnvOK E w0 Z0 X2 G' :=
 fun X' G2 Z L w id args st K vs h1 h2 h3 => by
  rw [hy]
  exact h X' G2 Z L w id args st K vs (fun x hx' => h1 x (hx x hx')) (h2.trans hy) fun i hi => (h3 i hi).trans (hg i hi)
def funOk (P : Program) (f : Nat) : Bool := match P.funcs[f]? with | some fn => fn.body.isSome && fn.name != "runtime.NumGoroutine" | none => false
def FnM (E : Env) (f : Nat) (args : List PV) (st : St) (Q : PV -> St -> Prop) : Prop := funOk E.p f = true /\
 ∀ (w0 : World) (Z0 : Zone) (X : Gh) (G : Nat -> Value) (Z : Zone) (L : Lay) (w : World) (vs : Array Value),EnvOK E w0 Z0 X G -> Mem w0 Z0 X G Z L st w -> ArgsR w Z L args vs ->
  Calls E.p f vs w fun e w' => ∃ v r st' Z' L',e = .returned v /\ Q r st' /\ Mem w0 Z0 X G Z' L' st' w' /\ VR w' Z' L' r v
theorem FnM.mono {E : Env} {f : Nat} {args : List PV} {st : St} {Q Q' : PV -> St -> Prop} (h : FnM E f args st Q) (hq : ∀ r st',Q r st' -> Q' r st') : FnM E f args st Q' :=
 ⟨h.1,fun w0 Z0 X G Z L w vs h1 h2 h3 => (h.2 w0 Z0 X G Z L w vs h1 h2 h3).mono fun _ _ ⟨v,r,st',Z',L',e1,e2,e3⟩ => ⟨v,r,st',Z',L',e1,hq r st' e2,e3⟩⟩
def FnX (E : Env) (f : Nat) (args : List PV) (st : St) (Q : PV -> St -> Prop) : Prop := funOk E.p f = true /\
 ∀ (w0 : World) (Z0 : Zone) (X : Gh) (G : Nat -> Value) (Z : Zone) (L : Lay) (w : World) (vs : Array Value),EnvOK E w0 Z0 X G -> Mem w0 Z0 X G Z L st w -> ArgsR w Z L args vs ->
  Calls E.p f vs w fun e w' => (∃ v r st' Z' L',e = .returned v /\ Q r st' /\ Mem w0 Z0 X G Z' L' st' w' /\ VR w' Z' L' r v) \/ (∃ ch st' Z' L',e = .panicked ch /\ E.pan ch st' /\ Mem w0 Z0 X G Z' L' st' w')
theorem FnX.mono {E : Env} {f : Nat} {args : List PV} {st : St} {Q Q' : PV -> St -> Prop} (h : FnX E f args st Q) (hq : ∀ r st',Q r st' -> Q' r st') : FnX E f args st Q' :=
 ⟨h.1,fun w0 Z0 X G Z L w vs h1 h2 h3 => (h.2 w0 Z0 X G Z L w vs h1 h2 h3).mono fun _ _ h => h.imp (fun ⟨v,r,st',Z',L',e1,e2,e3⟩ => ⟨v,r,st',Z',L',e1,hq r st' e2,e3⟩) id⟩
structure AO where
 d : Option Nat
 g : Option (Nat × Bool)
 op : AOp
structure DO where
 o : AO
 t : List Nat
 u : List Nat
 str : Bool
structure RF where
 f : Opd
 K : Nat
 n : Nat
 K2 : Nat
 ks : List Nat
 id : Nat
structure XO where
 i : Nat
 deps : List Nat
 o : AO
inductive AC where
 | skip
 | reg (keep : List Nat) (ops : List AO)
 | rgs (segs : List (List Nat × List AO))
 | drw (keep : List Nat) (ops : List DO)
 | dra (keep : List Nat) (ops : List XO)
 | seq (a b : AC)
 | cond (c : Opd) (x y : AC)
 | block (id : Nat) (body : AC)
 | loop (ks : List Nat) (body : AC)
 | frz (ts : List Nat) (c : AC)
 | wk (c : AC)
 | cut (ks : List Nat) (c : AC)
 | scope (c : AC)
 | label
 | rngf (ρ : RF) (ps : List Nat) (ass body : AC)
 | ret
 | exit (id : Nat)
def isHeavy : AOp -> Bool
 | .alc _ | .box _ | .bsl .. | .mks .. | .sto .. | .app .. | .cpy .. | .mkm _ | .mup .. | .rng _ => true
 | _ => false
def isMem : AOp -> Bool
 | .mkm _ | .mup .. | .rng _ | .nxt _ | .clm .. | .clv .. | .niq .. | .xo .. | .clx .. | .pan _ => true
 | _ => false
def niqK (v : PV) (K : Bool -> Prop) : Prop :=
 match v with
 | .nil => K true
 | .view .. => K false
 | .sl _ _ (_ :: _) => K false
 | .sl _ _ [] => ∀ b,K b
 | _ => False
def nxtK (st : St) (d : Option Nat) (v : PV) (K : St -> Prop) : Prop :=
 match v with
 | .itr id it => match lk st.m id with
   | some M => match M.it with
     | some (it', left, _) => (it' = it /\ M.kd.sc = true) /\ (left = [] -> K (st.put d (.tup [.sc (.bool false)]))) /\
       ∀ (i : Nat) (z : Value × PV),left[i]? = some z -> K (({ st with m := up st.m id { M with it := some (it',left.eraseIdx i,some z) } } : St).put d (.tup [.sc (.bool true),.sc z.1,z.2]))
     | none => False
   | none => False
 | _ => False
def clvK (P : Env) (st : St) (d : Option Nat) (v : PV) (args : List PV) (K : St -> Prop) : Prop :=
 match v with
 | .clo f ids => FnM P f (args ++ ids.map fun i => .ptr i 0) st fun r st' => K (st'.put d r)
 | .sc (.func (.func f) _ _) => FnM P f args st fun r st' => K (st'.put d r)
 | .pcl f caps => funOk P.p f = true /\ ∃ post,FnOK P.p f (args.map (PV.rsA st) ++ caps) post /\ ∀ r,post r -> K (st.put d r)
 | .yl id => ∃ K',P.Y id args st K' /\ ∀ st',K' st' -> K (st'.put d (.sc (.bool true)))
 | _ => False
def clrK (st : St) (es : Nat) (zero : List PV) (K : St -> Prop) : PV -> Prop
 | .view id lo n => match lk st.a id with
   | some A => (A.es = es /\ zero.length = es) /\ K { st with a := up st.a id { A with xs := cpyF A.xs lo (List.replicate n zero) } }
   | none => False
 | _ => False
def apmK (st : St) (i : Nat) (es ty by_ : Nat) (zero : List PV) (K : St -> Prop) : PV -> PV -> Prop
 | .nil,.sc (.int .i64 n) => (0 < es /\ zero.length = es) /\ 0 < n /\ n.toNat * by_ <= 140737488355328 /\ n <= 9223372036854775807 /\ K (st.newArr i ⟨es,ty,List.replicate n.toNat zero⟩)
 | _,_ => False
def pfK (st : St) (d : Option Nat) (K : St -> Prop) : Option PV -> Prop
 | some r => K (st.put d r)
 | none => False
def bsxF (i es : Nat) : List PV -> Prop × List PV
 | [] => (True,[])
 | v :: r => ((cellsOk v = true /\ (cellsOf v).length = es /\ (cellsOf v).any (PV.to (fun j => j == i) nul) = false) /\ (bsxF i es r).1,cellsOf v ++ (bsxF i es r).2)
def bsxK (st : St) (i es : Nat) (zero : List PV) (vs : List PV) (K : St -> Prop) : Prop := ((0 < es /\ zero.length = es /\ vs.length * es <= 16777216) /\ (bsxF i es vs).1) /\ K (st.newBx i es (bsxF i es vs).2 vs.length)
def mkxK (st : St) (i by_ : Nat) (zero : PV) (K : St -> Prop) : PV -> Prop
 | .sc (.int _ n) => (0 <= n /\ n.toNat * by_ <= 140737488355328 /\ n <= 9223372036854775807) /\ K (st.newBx i 1 (List.replicate n.toNat zero) n.toNat)
 | _ => False
def mxL (b : Bool) : Int -> List PV -> Option Int
 | n,[] => some n
 | n,.sc (.int .i64 m) :: r => mxL b (bif b then max n m else min n m) r
 | _,_ => none
def mxF (b : Bool) : List PV -> Option PV
 | .sc (.int .i64 n) :: r => (mxL b n r).map fun m => .sc (.int .i64 m)
 | _ => none
def xoK (st : St) (d : Option Nat) (k : XK) (args : List PV) (K : St -> Prop) : Prop :=
 match k,args,d with
 | .pf g,[x],d => pfK st d K (xfF g x)
 | .cap0,[.nil],d => K (st.put d (.int 0))
 | .clr es zero,[x],none => clrK st es zero K x
 | .apm es ty by_ zero,[s,n],some i => apmK st i es ty by_ zero K s n
 | .bsx es zero,vs,some i => bsxK st i es zero vs K
 | .mkx by_ zero,[l],some i => mkxK st i by_ zero K l
 | .mx b,vs,d => pfK st d K (mxF b vs)
 | _,_,_ => False
def panK (P : Env) (st : St) : PV -> Prop
 | .sc (.iface t v) => P.pan [{ v := .iface t v,recovered := false }] st
 | _ => False
def opK (P : Env) (o : AO) (st : St) (K : St -> Prop) : Prop :=
 match o.op with
 | .cal f args => ∃ post,FnOK P.p f (args.map fun x => (x.ev st).rsA st) post /\ ∀ r,post r -> K (st.put o.d r)
 | .clm f args => FnM P f (args.map (·.ev st)) st fun r st' => K (st'.put o.d r)
 | .clv x args => clvK P st o.d (x.ev st) (args.map (·.ev st)) K
 | .nxt x => nxtK st o.d (x.ev st) K
 | .xo k args => xoK st o.d k (args.map (·.ev st)) K
 | .clx f args => FnX P f (args.map (·.ev st)) st fun r st' => K (st'.put o.d r)
 | .pan x => panK P st (x.ev st)
 | .niq neg x => niqK (x.ev st) fun b => K (st.put o.d (.sc (.bool (bif neg then !b else b))))
 | op => if isHeavy op then (hev st o.d op).1 /\ K (hev st o.d op).2 else (aev st op).1 /\ K (st.put o.d (aev st op).2)
def grdK (st : St) (g : Option (Nat × Bool)) (yes no : Prop) : Prop :=
 match g with
 | none => yes
 | some (s, want) => match st.get s with
   | .sc (.bool b) => (b = want -> yes) /\ (b ≠ want -> no)
   | .tup [] => no
   | _ => False
def opsK (P : Env) : List AO -> St -> (St -> Prop) -> Prop
 | [],st,K => K st
 | o :: r,st,K => grdK st o.g (opK P o st fun st' => opsK P r st' K) (opsK P r (st.put o.d (.tup [])) K)
def rdyB (dn : List Nat) (x : XO) : Bool := !dn.contains x.i && x.deps.all fun j => dn.contains j
def allDn (ops : List XO) (dn : List Nat) : Bool := ops.all fun x => dn.contains x.i
def allK (P : Env) (ops : List XO) : Nat -> List Nat -> St -> (St -> Prop) -> Prop
 | 0,dn,st,K => allDn ops dn = true /\ K st
 | n + 1,dn,st,K => (allDn ops dn = true -> K st) /\ ∀ x ∈ ops,rdyB dn x = true -> grdK st x.o.g (opK P x.o st fun st' => allK P ops n (x.i :: dn) st' K) (allK P ops n (x.i :: dn) (st.put x.o.d (.tup [])) K)
def inL (l : List Nat) (i : Nat) : Bool := l.contains i
def srcS : AOp -> Option Nat
 | .app _ _ _ (.t s) _ => some s
 | _ => none
def refU (u : List Nat) (v : PV) : Bool := match u with | [] => false | _ :: _ => v.toV (inL u) (inL u)
def boxU (u : List Nat) (o : Option (List PV)) : Bool := match u,o with | [],_ => false | _ :: _,none => false | _ :: _,some cs => cs.any (PV.to (inL u) (inL u))
def noX (st : St) (t : List Nat) (ss : Option Nat) : Bool := match t with
 | [] => true
 | _ :: _ => st.s.all (fun x => ss == some x.1 || !x.2.toV (inL t) (inL t)) && st.b.all (fun x => !x.2.any (PV.to (inL t) (inL t)))
def St.getO (st : St) (d : Option Nat) : PV := match d with | some i => st.get i | none => .bot
def stoT : List Nat -> PV -> Bool
 | [],_ => true
 | i :: u,.ptr id _ => inL (i :: u) id
 | i :: u,.eptr id _ _ => inL (i :: u) id
 | _ :: _,_ => false
def sideOK (st : St) (t u : List Nat) : AOp -> Prop
 | .bsl _ _ _ _ parts => ∀ p ∈ parts,viewIds (cellsOf (p.2.ev st)) = []
 | .sto _ x v => viewIds (cellsOf (v.ev st)) = [] /\ stoT u (x.ev st) = true
 | .ld _ _ x => refU u (x.ev st) = false
 | .ixs _ x _ => refU u (x.ev st) = false
 | .slc _ x _ _ => refU u (x.ev st) = false
 | .app _ _ _ s _ => match s.ev st with | .view id _ _ => inL t id = true | _ => True
 | _ => True
def preOK (x : DO) (st : St) : Prop := noX st x.t (srcS x.o.op) = true /\ refU x.u (st.getO x.o.d) = false /\ x.t.all (fun i => !boxU x.u (lk st.b i)) = true
def postOK (x : DO) (st' : St) : Prop := refU x.u (st'.getO x.o.d) = false /\ x.t.all (fun i => !boxU x.u (lk st'.b i)) = true
def calD (P : Env) (x : DO) (f : Nat) (args : List PV) (st : St) (K : St -> Prop) : Prop := ∃ post,FnOK P.p f args post /\ (∃ r,post r) /\ ∀ r,post r -> refU x.u r = false /\ K (st.put x.o.d r)
def dopK (P : Env) (x : DO) (st : St) (K : St -> Prop) : Prop :=
 match x.o.op with
 | .cal f args => calD P x f (args.map fun y => (y.ev st).rsA st) st K
 | .clv y args => (match y.ev st with | .sc (.func (.func f) _ _) => funOk P.p f = true /\ calD P x f (args.map fun y => (y.ev st).rsA st) st K | _ => False)
 | op => sideOK st x.t x.u op /\ opK P x.o st (fun st' => postOK x st' /\ K st')
def dopG (P : Env) (x : DO) (st : St) (K : St -> Prop) : Prop :=
 if x.str = true then preOK x st /\ grdK st x.o.g (dopK P x st K) (K (st.put x.o.d (.tup []))) else grdK st x.o.g (opK P x.o st K) (K (st.put x.o.d (.tup [])))
def dsK (P : Env) : List DO -> St -> (St -> Prop) -> Prop
 | [],st,K => K st
 | x :: r,st,K => dopG P x st fun st' => dsK P r st' K
def inK : List Nat -> Nat -> Bool
 | K :: n :: r,i => decide (i < K) || decide (K + n <= i) || r.contains i
 | _,_ => false
def St.keepS (st : St) (ks : List Nat) : St := { st with s := st.s.filter fun x => inK ks x.1 }
def segK (P : Env) : List (List Nat × List AO) -> St -> (St -> Prop) -> Prop
 | [],st,K => K st
 | x :: r,st,K => opsK P x.2 (st.keepS x.1) fun st' => segK P r st' K
def segO : List (List Nat × List AO) -> List AO
 | [] => []
 | x :: r => x.2 ++ segO r
def St.gc (st : St) (ks : List Nat) : St :=
 let s := st.s.filter fun x => inK ks x.1
 let b1 := st.b.filter fun x => s.any (fun y => y.2.toV (fun j => j == x.1) nul) || ([] : List (Nat × List PV)).any (fun y => y.2.any (PV.to (fun j => j == x.1) nul))
 let b2 := st.b.filter fun x => s.any (fun y => y.2.toV (fun j => j == x.1) nul) || b1.any (fun y => y.2.any (PV.to (fun j => j == x.1) nul))
 let b := st.b.filter fun x => s.any (fun y => y.2.toV (fun j => j == x.1) nul) || b2.any (fun y => y.2.any (PV.to (fun j => j == x.1) nul))
 { s := s, b := b, a := st.a.filter fun x => s.any (fun y => y.2.toV nul (fun j => j == x.1)) || b.any (fun y => y.2.any (PV.to nul (fun j => j == x.1))),
   m := st.m.filter fun x => s.any (fun y => y.2.toV (fun j => j == x.1) nul) || b.any (fun y => y.2.any (PV.to (fun j => j == x.1) nul)) }
def Exit.inB (id : Nat) (Q : Exit -> St -> Prop) : Exit -> St -> Prop
 | .exit id',st => if id' = id then Q .normal st else Q (.exit id') st
 | e,st => Q e st
def Exit.thn (next : St -> Prop) (Q : Exit -> St -> Prop) : Exit -> St -> Prop
 | .normal,st => next st
 | e,st => Q e st
def condK (v : PV) (x y : Prop) : Prop :=
 match v with
 | .sc (.bool b) => (b = true -> x) /\ (b = false -> y)
 | _ => False
def frzSl : St -> List Nat -> St
 | st,[] => st
 | st,t :: r => frzSl (st.frzs (cellsOf (st.get t))) r
def copyS (K K2 : Nat) (src : List (Nat × PV)) : List (Nat × PV) -> List (Nat × PV) -> List (Nat × PV)
 | [],s => s
 | (i,_) :: r,s => copyS K K2 src r (up s (K2 + (i - K)) ((lk src i).getD .bot))
def setPs : List Nat -> List PV -> List (Nat × PV) -> List (Nat × PV)
 | p :: ps,v :: vs,s => setPs ps vs (up s p v)
 | _,_,s => s
def St.low (st : St) (k : Nat) : St := { st with s := st.s.filter fun x => decide (x.1 < k) }
def St.noId (st : St) (id : Nat) : St := { st.kill (fun j => j == id) nul with b := rm (st.kill (fun j => j == id) nul).b id }
def rngY (ρ : RF) (ps : List Nat) (B : St -> (St -> Prop) -> Prop) (id : Nat) (args : List PV) (st : St) (K : St -> Prop) : Prop :=
 id = ρ.id /\ args.length = ps.length /\ st.s.all (fun x => decide (x.1 < ρ.K2)) = true /\
 B { st with s := setPs ps args (copyS ρ.K ρ.K2 st.s (st.s.filter fun x => decide (ρ.K <= x.1 /\ x.1 < ρ.K + ρ.n)) st.s) } fun st2 => K ((st2.low ρ.K2).gc [0,0])
def Env.noY (P : Env) : Prop := (∀ id args st K,¬ P.Y id args st K) /\ ∀ ch st,¬ P.pan ch st
def rngK (P : Env) (ρ : RF) (ps : List Nat) (B : St -> (St -> Prop) -> Prop) (st : St) (K : St -> Prop) : Prop :=
 match ρ.f.ev st with
 | .clo f ids => (P.noY /\ ids.contains ρ.id = false) /\ FnM ⟨P.p,ρ.K + ρ.n,rngY ρ ps B,fun _ _ => False⟩ f (.yl ρ.id :: ids.map fun i => .ptr i 0) (st.noId ρ.id) fun _ st' => K ((st'.low (ρ.K + ρ.n)).noId ρ.id)
 | _ => False
def awp (P : Env) : AC -> (Exit -> St -> Prop) -> St -> Prop
 | .skip,Q,st => Q .normal st
 | .reg keep ops,Q,st => opsK P ops (st.keepS keep) (Q .normal)
 | .rgs segs,Q,st => segK P segs st (Q .normal)
 | .drw keep ops,Q,st => dsK P ops (st.keepS keep) (Q .normal)
 | .dra keep ops,Q,st => allK P ops ops.length [] (st.keepS keep) (Q .normal)
 | .seq a b,Q,st => awp P a (Exit.thn (awp P b Q) Q) st
 | .cond c x y,Q,st => condK (c.ev st) (awp P x Q st) (awp P y Q st)
 | .block id body,Q,st => awp P body (Exit.inB id Q) st
 | .loop ks body,Q,st => ∃ (I : Nat -> St -> Prop) (n0 : Nat),I n0 (st.gc ks) /\ ∀ n st',I n st' -> awp P body (Exit.thn (fun st'' => ∃ n',n' < n /\ I n' (st''.gc ks)) Q) st'
 | .frz ts c,Q,st => awp P c Q (frzSl st ts)
 | .wk c,Q,st => ∃ st0,Wk st st0 /\ awp P c Q st0
 | .cut ks c,Q,st => awp P c Q (st.keepS ks)
 | .scope c,Q,st => awp P c Q st
 | .label,Q,st => Q .normal st
 | .rngf ρ ps ass body, Q, st => st.s.all (fun x => decide (x.1 < ρ.K + ρ.n)) = true /\
   rngK P ρ ps (fun st' K => awp P ass (Exit.thn (awp P body fun e st'' => e = .normal /\ K st'') fun _ _ => False) st') (st.keepS ρ.ks) (Q .normal)
 | .ret,Q,st => Q .ret st
 | .exit id,Q,st => Q (.exit id) st
def calOk (P : Program) (κ : Sh) (f : Nat) (args : List Opd) (c : Call) : Bool :=
 (match c.callee with | .value (.func g) => f == g | _ => false) && funOk P f &&
 (args.length == c.args.size) && (args.zip c.args.toList).all fun x => opdOk κ x.1 x.2
def clvOk (P : Program) (κ : Sh) (x : Opd) (args : List Opd) (c : Call) : Bool :=
 (match c.callee with | .value y => opdOk κ x y | _ => false) && (args.length == c.args.size) && (args.zip c.args.toList).all fun x => opdOk κ x.1 x.2
def dstOk (κ : Sh) : Option Nat -> Option Nat -> Bool
 | none,none => true
 | some i,some j => i == κ.K + j && decide (j < κ.n)
 | _,_ => false
def one2 : Callee -> Builtin -> Bool
 | .builtin .cap,.cap => true
 | .builtin .clear,.clear => true
 | .builtin .append,.append => true
 | .builtin .max,.max => true
 | .builtin .min,.min => true
 | _,_ => false
def capOk (P : Program) (κ : Sh) (x : Opd) : List Operand -> List TypeId -> Bool
 | [x'],[t] => opdOk κ x x' && (match P.underlying t with | some (.slice _) => true | _ => false)
 | _,_ => false
def clrOk (P : Program) (κ : Sh) (es : Nat) (zero : List PV) (x : Opd) : List Operand -> List TypeId -> Bool
 | [x'],[t] => opdOk κ x x' && (match P.underlying t with | some (.slice e) => szIs P e es && zeroIs P e zero | _ => false)
 | _,_ => false
def apmOk (P : Program) (κ : Sh) (es ty by_ : Nat) (zero : List PV) (s n : Opd) : List Operand -> List TypeId -> Bool
 | [s', n'], [t, t'] => opdOk κ s s' && opdOk κ n n' && (match P.underlying t' with | some (.int _) => true | _ => false) &&
   (match P.underlying t with | some (.slice e) => e == ty && szIs P e es && byIs P e by_ && zeroIs P e zero | _ => false)
 | _,_ => false
def mxOk (κ : Sh) : List Opd -> List Operand -> Bool
 | [],[] => true
 | x :: r,y :: s => opdOk κ x y && mxOk κ r s
 | _,_ => false
def xoC (P : Program) (κ : Sh) (d : Option Nat) (k : XK) (args : List Opd) (c : Call) : Bool :=
 match k,args with
 | .cap0,[x] => one2 c.callee .cap && capOk P κ x c.args.toList c.argTypes.toList
 | .clr es zero,[x] => one2 c.callee .clear && d.isNone && clrOk P κ es zero x c.args.toList c.argTypes.toList
 | .apm es ty by_ zero,[s,n] => one2 c.callee .append && d.isSome && apmOk P κ es ty by_ zero s n c.args.toList c.argTypes.toList
 | .mx b,args => one2 c.callee (bif b then .max else .min) && mxOk κ args c.args.toList
 | _,_ => false
def xfOk (P : Program) (κ : Sh) (x : Opd) : XF -> Op -> Bool
 | .ieq ng,.binOp op' t x' (.const .nilIface) _ => op' == (bif ng then .neq else .eql) && opdOk κ x x' && (match P.underlying t with | some (.interface _) => true | _ => false)
 | .mki t,.makeInterface t' x' => t == t' && opdOk κ x x' && (match P.underlying t with | some (.interface _) => false | some _ => true | none => false)
 | .tas t,.typeAssert x' _ t' true => t == t' && opdOk κ x x' && (match P.underlying t with | some (.interface _) => false | some _ => true | none => false)
 | _,_ => false
def idxO : Nat -> List Opd -> List (Nat × Opd)
 | _,[] => []
 | j,x :: r => (j,x) :: idxO (j + 1) r
def pfOk (P : Program) (κ : Sh) : XK -> List Opd -> Op -> Bool
 | .pf g,[x],op => xfOk P κ x g op
 | .bsx es zero,xs,.buildSlice t m ps => (match P.underlying t with | some (.slice e) => szIs P e es && zeroIs P e zero | _ => false) && m == xs.length && partsOk2 κ (idxO 0 xs) ps.toList
 | .mkx by_ zero,[l],.makeSlice t l' c' => (match P.underlying t with | some (.slice e) => szIs P e 1 && zeroIs P e [zero] && byIs P e by_ | _ => false) && opdOk κ l l' && opdOk κ l c'
 | _,_,_ => false
def xoOk (P : Program) (κ : Sh) (d : Option Nat) (k : XK) (args : List Opd) : Op -> Bool
 | .call c => xoC P κ d k args c
 | op => pfOk P κ k args op
def okAny (P : Program) (κ : Sh) (ao : AOp) (d d' : Option Nat) (op : Op) : Bool :=
 dstOk κ d d' &&
 match ao with
 | .cal f args => (match op with | .call c => calOk P κ f args c | _ => false)
 | .clm f args => (match op with | .call c => calOk P κ f args c | _ => false)
 | .clv x args => (match op with | .call c => clvOk P κ x args c | _ => false)
 | .niq neg x => (match op with | .binOp op' t x' (.const (.slice none 0 0)) _ => (op' == (bif neg then .neq else .eql)) && (match P.underlying t with | some (.slice _) => true | _ => false) && opdOk κ x x' | _ => false)
 | .nxt x => okH P κ (.nxt x) op
 | .xo k args => xoOk P κ d k args op
 | .clx f args => (match op with | .call c => calOk P κ f args c | _ => false)
 | .pan x => (match op with | .panic y => opdOk κ x y | _ => false)
 | .bad => (match op with | .defer _ => false | _ => true)
 | .cpy es x y => okH P κ (.cpy es x y) op
 | .sto sz x v => d.isNone && okH P κ (.sto sz x v) op
 | .mup kd x k v => d.isNone && okH P κ (.mup kd x k v) op
 | ao => if isHeavy ao then d.isSome && okH P κ ao op else okQ P κ ao op
def grdOk (κ : Sh) (ops : Array Oper) : Option (Nat × Bool) -> Option (Nat × Bool) -> Bool
 | none,none => true
 | some (s,w),some (j,w') => w == w' && (match ops[j]? with | some o => dstOk κ (some s) o.dst | none => false)
 | _,_ => false
def okOps (P : Program) (κ : Sh) (ops : Array Oper) : List AO -> List Oper -> Bool
 | [],[] => true
 | ao :: r,o :: s => grdOk κ ops ao.g o.guard && okAny P κ ao.op ao.d o.dst o.op && okOps P κ ops r s
 | _,_ => false
def optL : Option Opd -> List Opd
 | some x => [x]
 | none => []
def opds : AOp -> List Opd
 | .mv x | .ld _ _ x | .not x | .neg _ x | .cnv _ _ x | .len x | .fa _ x | .fl _ _ _ x | .ext x _ | .nck x | .box x => [x]
 | .pick c x y => [c,x,y]
 | .bld _ parts => parts.map fun p => p.2.2
 | .ari _ _ _ x y | .dvd _ _ _ x y | .bit _ _ x y | .shf _ _ x y | .cmp _ _ x y | .eqb _ x y | .eqa _ _ x y | .mn _ x y | .ixs _ x y | .ixa _ _ x y | .ixv _ _ _ x y | .mks _ _ _ _ x y | .sto _ x y | .app _ _ _ x y | .cpy _ x y => [x,y]
 | .slc _ x lo hi => x :: (optL lo ++ optL hi)
 | .bsl _ _ _ _ parts => parts.map fun p => p.2
 | .cal _ args => args
 | .lenA _ _ | .alc _ | .mkm _ | .bad => []
 | .mkf _ args | .clm _ args | .xo _ args | .clx _ args => args
 | .pan x => [x]
 | .clv x args => x :: args
 | .mlk _ _ _ x k => [x,k]
 | .mup _ x k v => [x,k,v]
 | .ent x | .mln x | .rng x | .nxt x | .niq _ x => [x]
def opdS : Opd -> List Nat
 | .t n => [n]
 | .c _ => []
def opdP : Opd -> Bool
 | .t _ => true
 | .c p => !p.toV (fun _ => true) (fun _ => true)
def rdS (o : AO) : List Nat := (match o.g with | some (s,_) => [s] | none => []) ++ (opds o.op).flatMap opdS
def isCal : AOp -> Bool | .cal .. | .clv .. => true | _ => false
def isSto : AOp -> Bool | .sto .. | .cpy .. => true | _ => false
def isSt1 : AOp -> Bool | .sto .. => true | _ => false
def isCop : AOp -> Bool | .cpy .. => true | _ => false
def isNew : AOp -> Bool | .alc _ | .box _ | .bsl .. | .mks .. | .app .. => true | _ => false
def isCpy : AOp -> Bool
 | .mkf .. | .mlk .. | .ent _ | .mln _ | .bad => true
 | .clv .. => false
 | op => isMem op
def memFree : AOp -> Bool
 | .ld .. | .ixs .. | .slc .. | .alc _ | .box _ | .bsl .. | .mks .. | .sto .. | .app .. | .cpy .. | .cal .. => false
 | .mkf .. | .mlk .. | .ent _ | .mln _ | .mkm _ | .mup .. | .rng _ | .nxt _ | .clm .. | .clv .. | .niq .. | .xo .. | .clx .. | .pan _ | .bad => false
 | _ => true
def apart1 (x y : DO) : Bool :=
 (match x.o.d with | some d => !(rdS y.o).contains d && y.o.d != some d | none => true) && (match srcS x.o.op with | some s => !(rdS y.o).contains s && y.o.d != some s | none => true) && y.t.all fun i => x.u.contains i && !x.t.contains i
def regular (x : DO) : Bool := x.str && !isSto x.o.op && !isCpy x.o.op && (opds x.o.op).all opdP && (if isNew x.o.op then (match x.o.d with | some d => x.t.contains d | none => false) else true)
def isRd : AOp -> Bool | .ld .. | .ixs .. | .slc .. => true | _ => false
def stoRd (x y : DO) : Bool := !x.u.isEmpty && x.u.all (inL y.u)
def stoFree (x y : DO) : Bool := x.str && y.str && isSt1 x.o.op && x.o.d.isNone && (memFree y.o.op || (isRd y.o.op && stoRd x y)) && y.t.isEmpty && (match y.o.d with | some d => !(rdS x.o).contains d | none => true)
def cpyFree (x y : DO) : Bool := x.str && y.str && isCop x.o.op && memFree y.o.op && y.t.isEmpty && (match y.o.d with | some d => !(rdS x.o).contains d && x.o.d != some d | none => true) && (match x.o.d with | some d => !(rdS y.o).contains d | none => true)
def pairOK (x y : DO) : Bool := (regular x && regular y && apart1 x y && apart1 y x && !(isCal x.o.op && isCal y.o.op)) || stoFree x y || stoFree y x || cpyFree x y || cpyFree y x
def maskOf (ms : List Nat) (es : List Edge) : Nat := es.foldl (fun s e => if Region.binds .any e then s ||| (1 <<< e.on) ||| ms.getD e.on 0 else s) 0
def edgesOk (i : Nat) (es : List Edge) : Bool := es.all fun e => !Region.binds .any e || e.on < i
def pairsOk (m : Nat) (y : DO) : Nat -> List DO -> Bool
 | _,[] => true
 | j,x :: r => (Nat.testBit m j || pairOK x y) && pairsOk m y (j + 1) r
def ordOk : List DO -> List Nat -> List DO -> List Oper -> Bool
 | _,_,[],[] => true
 | done,ms,x :: r,o :: s => (!x.str || isSto x.o.op || regular x) && edgesOk done.length o.after.toList && pairsOk (maskOf ms o.after.toList) x 0 done && ordOk (done ++ [x]) (ms ++ [maskOf ms o.after.toList]) r s
 | _,_,_,_ => false
def draOk : Nat -> List XO -> List Oper -> Bool
 | _,[],[] => true
 | k,x :: r,o :: s => x.i == k && (x.deps.all fun j => o.after.toList.any fun e => e.on == j && Region.binds .any e) && edgesOk k o.after.toList && draOk (k + 1) r s
 | _,_,_ => false
def zipOk (κ : Sh) : List Nat -> List Nat -> Bool
 | [],[] => true
 | i :: r,j :: s => i == κ.K + j && decide (j < κ.n) && zipOk κ r s
 | _,_ => false
def noRng : AC -> Bool
 | .rngf .. => false
 | .seq a b => noRng a && noRng b
 | .cond _ a b => noRng a && noRng b
 | .block _ a | .loop _ a | .frz _ a | .wk a | .cut _ a | .scope a => noRng a
 | _ => true
def chk (P : Program) : Sh -> AC -> Code -> Bool
 | _,.skip,.skip => true
 | κ,.reg _ ops,.region _ os draw => !draw && okOps P κ os ops os.toList
 | κ,.rgs segs,.region _ os draw => !draw && okOps P κ os (segO segs) os.toList
 | κ,.drw _ ops,.region _ os draw => draw && (P.follows .mixedOrders || !Region.departs os) && okOps P κ os (ops.map DO.o) os.toList && ordOk [] [] ops os.toList
 | κ,.dra _ ops,.region _ os draw => draw && (P.follows .mixedOrders || !Region.departs os) && okOps P κ os (ops.map XO.o) os.toList && draOk 0 ops os.toList
 | κ,.seq a b,.seq c d => chk P κ a c && chk P κ b d
 | κ,.cond c x y,.cond c' x' y' => opdOk κ c c' && chk P κ x x' && chk P κ y y'
 | κ,.block i b,.block j c => i == j && chk P κ b c
 | κ,.loop _ b,.loop c => chk P κ b c
 | κ,.frz _ a,c => chk P κ a c
 | κ,.wk a,c => chk P κ a c
 | κ,.cut _ a,c => chk P κ a c
 | κ,.scope a,.scope c => chk P κ a c
 | _,.label,.label _ => true
 | κ,.rngf ρ ps ass body,.rangeFunc f ps' ass' body' => ρ.K == κ.K && ρ.n == κ.n && noRng ass && noRng body && opdOk κ ρ.f f && zipOk ⟨ρ.K2,κ.n⟩ ps ps'.toList && decide (κ.K + κ.n <= ρ.K2) && chk P ⟨ρ.K2,κ.n⟩ ass ass' && chk P ⟨ρ.K2,κ.n⟩ body body'
 | _,.ret,.ret => true
 | _,.exit i,.exit j => i == j
 | _,_,_ => false
end
end Go.Vc
