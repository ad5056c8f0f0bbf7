/- VcM VcN VcO: lemmas -/
import Derived.Test.YtledbjkolidhkaaPart05
set_option linter.unusedSimpArgs false
set_option linter.unusedVariables false
namespace Go.Vc
open Go Go.RowKit
section
variable {w0 : World} {Z0 : Zone} {N : Fr} {Z : Zone} {L : Lay} {st : St} {a : Act} {w : World} {P : Program}
theorem TR.perm {c : PV} {v : Value} (h : TR w Z c v) (hp : Perm c) : TR w (fun p b => p = true /\ Z true b) c v := by
 induction h with
 | bot v => exact .bot v
 | sc v h => exact .sc v h
 | nil => exact .nil
 | sl0 p es a cap h => exact .sl0 p es a cap h
 | sl p es xs b o cap g h0 h1 h2 h3 h4 h5 h6 _ ih =>
   cases hp with
   | sl _ _ _ e1 e2 =>
     subst e1
     exact .sl true es xs b o cap g h0 ⟨rfl,h1⟩ h2 h3 h4 h5 h6 (fun i j x c hi hj => ih i j x c hi hj (e2 x (List.mem_of_getElem? hi) c (List.mem_of_getElem? hj)))
 | pcl f caps vs h1 _ ih => cases hp
 | iptr p cs b o off g h1 h2 _ ih =>
   cases hp with
   | iptr _ _ _ e1 e2 =>
     subst e1
     exact .iptr true cs b o off g ⟨rfl,h1⟩ h2 (fun j c hj => ih j c hj (e2 c (List.mem_of_getElem? hj)))
theorem CR.perm {c : PV} {v : Value} (h : CR w Z L c v) (hp : Perm c) : TR w (fun p b => p = true /\ Z true b) c v := by
 cases c with
 | view => cases hp
 | ptr => cases hp
 | eptr => cases hp
 | clo => cases hp
 | yl => cases hp
 | mp => cases hp
 | itr => cases hp
 | cld => cases hp
 | bv => cases hp
 | _ => exact TR.perm h hp
theorem AR.perm {c : PV} {v : Value} (h : AR w Z L c v) (hp : Perm c) : TA w (fun p b => p = true /\ Z true b) c v := by
 cases c with
 | agg cs =>
   obtain ⟨vs,h1,h2,h3⟩ := h
   cases hp with
   | agg _ e => exact ⟨vs,h1,h2,fun j c hj => ⟨(h3 j c hj).1.perm (e c (List.mem_of_getElem? hj)),(h3 j c hj).2⟩⟩
 | _ =>
   have h1 := CR.perm (AR.toCR (by simp) h) hp
   simp only [TA]; exact h1
theorem VR.perm {c : PV} {v : Value} (h : VR w Z L c v) (hp : Perm c) : TV w (fun p b => p = true /\ Z true b) c v := by
 cases c with
 | tup cs =>
   obtain ⟨vs,h1,h2,h3⟩ := h
   cases hp with
   | tup _ e => exact ⟨vs,h1,h2,fun j c hj => (h3 j c hj).perm (e c (List.mem_of_getElem? hj))⟩
 | _ =>
   have h1 := AR.perm (VR.toAR (by simp) h) hp
   simp only [TV]; exact h1
theorem Inv.frzVal (h : Inv w0 Z0 N Z L st a w) (c : PV) : ∃ Z',Inv w0 Z0 N Z' L (frzVal st c) a w := by
 cases c <;> exact h.frzs _
theorem Inv.rvFrz (h : Inv w0 Z0 N Z L st a w) (r : RV) : ∃ Z',Inv w0 Z0 N Z' L (r.frz st) a w := by
 cases r with
 | tmp t => exact h.frzVal _
 | cell t agg sz =>
   simp only [RV.frz]
   split
   ·split
    ·exact h.frzs _
    ·exact ⟨Z,h⟩
   ·exact ⟨Z,h⟩
theorem Inv.frzAll (h : Inv w0 Z0 N Z L st a w) (rs : List RV) : ∃ Z',Inv w0 Z0 N Z' L (frzAll st rs) a w := by
 induction rs generalizing st Z with
 | nil => exact ⟨Z,h⟩
 | cons r rs ih =>
   obtain ⟨Z1,h1⟩ := h.rvFrz r
   exact ih h1
def resOne (tmps : Array Value) : ResultVar -> Sem Value
 | .tmp t => pure (tmps.getD t undef)
 | .cell a t => do loadVar t (<- asAddr (tmps.getD a undef))
theorem rv_run (h : Inv w0 Z0 N Z L st a w) {r : RV} {x : ResultVar} (hm : rvOk P N.sh r x = true) (hv : (r.val st).1) : ∃ v,(resOne a.tmps x).run P w = .ok v w /\ VR w Z L (r.val st).2 v := by
 cases r with
 | tmp t =>
   cases x with
   | cell => cases hm
   | tmp u =>
     simp only [rvOk,Bool.and_eq_true,beq_iff_eq,decide_eq_true_eq] at hm
     obtain ⟨rfl,hlt⟩ := hm
     have := h.get (N.K + u)
     rw [val_tmp hlt] at this
     exact ⟨_,rfl,this⟩
 | cell t agg sz =>
   cases x with
   | tmp => cases hm
   | cell u ty =>
     simp only [rvOk,Bool.and_eq_true,Bool.or_eq_true,beq_iff_eq,decide_eq_true_eq] at hm
     obtain ⟨⟨⟨⟨rfl,hlt⟩,hs⟩,ha⟩,h1⟩ := hm
     have h1' : agg = false -> sz = 1 := fun e => by rcases h1 with h1 | h1; exact absurd h1 (by simp [e]); exact h1
     simp only [RV.val] at hv ⊢
     split at hv
     ·rename_i id off e
      have hg := h.get (N.K + u)
      rw [e,val_tmp hlt] at hg
      split at hv
      ·rename_i cs hcs
       obtain ⟨g,hl⟩ := h.box_lies hcs
       obtain ⟨v,h2,h3⟩ := run_loadVar (P := P) hs ha h1' hl hv
       rw [Nat.zero_add] at h2
       exact ⟨v,by simp [resOne,hg.ptr,asAddr,h2],VR.ar h3⟩
      ·exact hv.elim
     ·exact hv.elim
theorem rvs_run (h : Inv w0 Z0 N Z L st a w) : ∀ (rs : List RV) (xs : List ResultVar), rvsOk P N.sh rs xs = true -> (∀ r ∈ rs, (r.val st).1) ->
  ∃ vs : List Value,(xs.mapM (resOne a.tmps)).run P w = .ok vs w /\ vs.length = rs.length /\ ∀ j r,rs[j]? = some r -> VR w Z L (r.val st).2 (vs.getD j undef)
 | [],[],_,_ => ⟨[],by simp,rfl,by simp⟩
 | [],_ :: _,h,_ => by simp [rvsOk] at h
 | _ :: _,[],h,_ => by simp [rvsOk] at h
 | r :: rs, x :: xs, hm, hv => by
   simp only [rvsOk,Bool.and_eq_true] at hm
   obtain ⟨v,h1,h2⟩ := rv_run h hm.1 (hv r (by simp))
   obtain ⟨vs,h3,h4,h5⟩ := rvs_run h rs xs hm.2 (fun r hr => hv r (by simp [hr]))
   refine ⟨v :: vs,by simp [List.mapM_cons,h1,h3],by simp [h4],fun j r' hj => ?_⟩
   cases j with
   | zero => simp at hj; subst hj; exact h2
   | succ j => simp at hj; simpa using h5 j r' hj
theorem results_eq (fn : Func) (tmps : Array Value) : results fn tmps = (do let vs <- fn.results.mapM (resOne tmps); pure (if h : vs.size = 1 then vs[0] else .tuple vs)) := by
 unfold results
 congr 1
theorem resV_run (h : Inv w0 Z0 N Z L st a w) {fn : Func} {rvs : List RV} (hm : rvsOk P N.sh rvs fn.results.toList = true) (hv : (resV st rvs).1) (hnt : ∀ cs ds, (resV st rvs).2 = .tup cs -> .tup ds ∉ cs) :
  ∃ Z' v,Inv w0 Z0 N Z' L (frzAll st rvs) a w /\ (results fn a.tmps).run P w = .ok v w /\ VR w Z' L (resV st rvs).2 v := by
 obtain ⟨Z',h'⟩ := h.frzAll rvs
 have hv' : ∀ r ∈ rvs,(r.val (frzAll st rvs)).1 := by
  unfold resV at hv
  split at hv
  ·intro r hr; simp at hr; subst hr; exact hv
  ·exact hv
 obtain ⟨vs,h1,h2,h3⟩ := rvs_run h' rvs fn.results.toList hm hv'
 have hrun : (results fn a.tmps).run P w = .ok (if h : vs.toArray.size = 1 then vs.toArray[0] else .tuple vs.toArray) w := by
  rw [results_eq]
  simp [Array.mapM_eq_mapM_toList,h1]
 refine ⟨Z',_,h',hrun,?_⟩
 unfold resV at hnt ⊢
 split
 ·rename_i r
  have hl : vs.length = 1 := by simpa using h2
  have := h3 0 r rfl
  have hv0 : vs.getD 0 undef = vs[0] := by simp [List.getD_eq_getElem?_getD,hl]
  rw [hv0] at this
  simp only [frzAll] at this
  simpa [hl] using this
 ·rename_i hne
  have hl : ¬ vs.toArray.size = 1 := by
   simp only [List.size_toArray,h2]
   intro e
   obtain ⟨r,hr⟩ := List.length_eq_one_iff.1 e
   exact hne r hr
  rw [dif_neg hl]
  refine ⟨vs.toArray,rfl,by simp [h2],fun j c hj => ?_⟩
  have hj0 := hj
  rw [List.getElem?_map] at hj
  obtain ⟨r,h4,rfl⟩ := Option.map_eq_some_iff.1 hj
  have h5 := h3 j r h4
  have h6 : vs.toArray.getD j undef = vs.getD j undef := by simp [Array.getD_eq_getD_getElem?,List.getD_eq_getElem?_getD]
  rw [h6]
  refine VR.toAR (fun cs e => ?_) h5
  split at hnt
  ·exact hne _ rfl
  ·refine hnt _ cs rfl ?_
   rw [<- e]
   exact List.mem_of_getElem? hj0
theorem lk_slots0 (args : List PV) (i : Nat) : lk (slots0 args) i = args[i]? := by
 have : ∀ (l : List PV) (k i : Nat),lk (slots0.go k l) i = if k <= i then l[i - k]? else none := by
  intro l
  induction l with
  | nil => intro k i; simp [slots0.go,lk]
  | cons c l ih =>
    intro k i
    simp only [slots0.go,lk]
    by_cases e : k = i
    ·subst e; simp
    ·rw [if_neg e,ih]
     by_cases h : k <= i
     ·rw [if_pos h,if_pos (by omega),show i - k = (i - (k + 1)) + 1 from by omega,List.getElem?_cons_succ]
     ·rw [if_neg h,if_neg (by omega)]
 simpa [slots0] using this args 0 i
def shutW (w : World) : List Nat -> World
 | [] => w
 | D :: l => shutW (w.putObj D (.deferred none)) l
theorem leaves_marks {F : Fence} {n : Nat} {fn : Func} {tmps : Array Value} {R : Ending -> World -> Prop} : ∀ (l : List Nat) (w : World), l.Nodup -> (∀ D ∈ l, w.heap[D]? = some (.deferred (some []))) ->
  (∃ v,(results fn tmps).run P (shutW w l) = .ok v (shutW w l) /\ R (.returned v) (shutW w l)) -> LeavesInM F n P fn tmps R (l.map mark) .returning w
 | [],_,_,_,h => h
 | D :: l, w, hn, hd, h => by
   rw [List.nodup_cons] at hn
   refine ⟨by simp,.inl ⟨D,_,rfl,run_takeDeferred (hd D (by simp)),leaves_marks l _ hn.2 (fun D' hD' => ?_) h⟩⟩
   have hne : D' ≠ D := fun e => hn.1 (by rw [<- e]; exact hD')
   rw [World.putObj_heap_other hne]
   exact hd D' (List.mem_cons_of_mem _ hD')
theorem Inv.shut (hdm : N.dm = none) : ∀ (l : List Nat) {w : World},Inv w0 Z0 N Z L st a w -> marksOK N.X l -> (∀ D ∈ l,RecAt w0 Z w (D,.deferred (some []))) -> Inv w0 Z0 N Z L st a (shutW w l)
 | [],_,h,_,_ => h
 | D :: l, w, h, hm, hd => by
   have hD := hd D (by simp)
   have h1 := h.turn hD (o' := .deferred none) rfl N.X.x (fun z hz => .inr ⟨h.oth z hz,hm.2 D (by simp) z hz⟩) hdm
   have hn := List.nodup_cons.1 hm.1
   exact Inv.shut hdm l h1 ⟨hn.2,fun D' hD' => hm.2 D' (List.mem_cons_of_mem _ hD')⟩ fun D' hD' => (hd D' (List.mem_cons_of_mem _ hD')).keep (World.putObj_heap_other fun e => hn.1 (by simp only at e; rw [<- e]; exact hD')) (fun _ hp => hp)
theorem Inv.leave (h : Inv w0 Z0 N Z L st a w) {ex : Bool} (hdm : N.dm = some (ex, [])) {F : Fence} {n : Nat} {fn : Func} {R : Ending -> World -> Prop} (hR : ∀ w', Inv w0 Z0 { N with dm := none } Z L st a w' -> ∃ v, (results fn a.tmps).run P w' = .ok v w' /\ R (.returned v) w') :
  LeavesInM F n P fn a.tmps R a.defers .returning w := by
 obtain ⟨l,h1,h2,h3⟩ := h.defers _ hdm
 rw [h1.1,List.append_nil]
 have h0 : Inv w0 Z0 { N with dm := none } Z L st a w := ⟨h.zt,h.z0,h.zn,h.zb,h.below,h.ownb,h.owna,h.injb,h.inja,h.injx,h.boxes,h.arrs,h.ownm,h.injm,h.maps,h.oth,h.yb,h.size,fun _ e => (by cases e),h.slots⟩
 exact leaves_marks l w h2.1 (fun D hD => (h3 D hD).1) (hR _ (Inv.shut rfl l h0 h2 h3))
def L00 : Lay := ⟨fun _ => 0,fun _ => 0,fun _ => 0,fun _ => 0,fun _ => 0,fun _ => 0⟩
theorem FnOK.of_awp {f : Nat} {fn : Func} {ac : AC} {rvs : List RV} {args : List PV} {post : PV -> Prop} (hf : P.funcs[f]? = some fn) (hok : fnOk P ac rvs fn = true) (hn : args.length <= fn.ntmps)
  (h : awp (Env.of P) ac (retK rvs post) ⟨slots0 args,[],[],[]⟩) : FnOK P f args post := by
 intro w Z zt zb vs hsz hrel
 simp only [fnOk,Bool.and_eq_true] at hok
 obtain ⟨hb,hr⟩ := hok
 split at hb
 ·rename_i c hc
  have hsize : (vs ++ Array.replicate (fn.ntmps - vs.size) undef).size = fn.ntmps := by simp; omega
  have hinit : Inv w Z ⟨fn.ntmps,0,fun _ => undef,⟨[],fun _ => 0⟩,some (false,[])⟩ Z L00 ⟨slots0 args,[],[],[]⟩ { tmps := vs ++ Array.replicate (fn.ntmps - vs.size) undef,defers := [] } w := by
   refine ⟨zt,fun _ _ h => h,fun _ _ h => .inl h,zb,Below.refl _ _,?_,?_,?_,?_,?_,?_,?_,?_,?_,?_,fun x hx => (by cases hx),fun _ => rfl,hsize,fun dd e => ⟨[],⟨by cases e; rfl,fun _ => rfl⟩,⟨.nil,fun D hD => by cases hD⟩,fun D hD => by cases hD⟩,?_⟩
   ·intro id cs hl; simp [lk] at hl
   ·intro id cs hl; simp [lk] at hl
   ·intro i j x y hl; simp [lk] at hl
   ·intro i j x y hl; simp [lk] at hl
   ·intro i j x y hl; simp [lk] at hl
   ·intro id cs hl; simp [lk] at hl
   ·intro id cs hl; simp [lk] at hl
   ·intro id cs hl; simp [lk] at hl
   ·intro i j x y hl; simp [lk] at hl
   ·intro id cs hl; simp [lk] at hl
   ·intro i v hl
    simp only [lk_slots0] at hl
    have hi : i < vs.size := by rw [hsz]; exact (List.getElem?_eq_some_iff.1 hl).1
    have := hrel i v hl
    have e : (vs ++ Array.replicate (fn.ntmps - vs.size) undef).getD i undef = vs.getD i undef := by
     simp only [Array.getD_eq_getD_getElem?,Array.getElem?_append_left hi]
    unfold Fr.val
    rw [if_pos ⟨Nat.zero_le _,by simp only; omega⟩]
    simp only [Nat.sub_zero] at e ⊢
    rw [e]
    exact this.vr _
  refine callsIn_wide (n := 0) |>.1 (callsIn_of_wp_marks hf hc trivial ?_)
  refine wpIn_mono (awp_sound (P := Env.of P) (w0 := w) (Z0 := Z) ac (N := ⟨fn.ntmps,0,fun _ => undef,⟨[],fun _ => 0⟩,some (false,[])⟩) (ro := none) (n := 0) (EnvOK.of P _ _ _ _) (Nat.le_refl _) c (retK rvs post) _ _ w (.inr ⟨rfl,fun dd e => by cases e; rfl⟩) (fun l st hh => by simp [retK,isEnd] at hh) (fun ch st hh => hh.elim) hb h ⟨_,_,hinit⟩) ?_
  rintro e a' w' ⟨st',⟨he,h1,hfl,h2,h3⟩,Z',L',hI⟩
  have hnt' : ∀ cs ds,(resV st' rvs).2 = .tup cs -> .tup ds ∉ cs := fun cs ds e hm => by rw [e] at hfl; have := List.all_eq_true.1 hfl _ hm; simp [isTup] at this
  have hlv : LeavesInM Fence.wide 0 P fn a'.tmps (fun e w' => ∃ v r,e = .returned v /\ post r /\ TV w' (fun p b => p = true /\ (Z true b \/ (w.heap.size <= b /\ b < w'.heap.size))) r v /\ Below w.heap.size w w') a'.defers .returning w' := by
   refine hI.leave rfl fun w2 hI3 => ?_
   obtain ⟨Z2,v,hI2,hrun,hvr⟩ := resV_run hI3 hr h1 hnt'
   have htv : TV w2 (fun p b => p = true /\ (Z true b \/ (w.heap.size <= b /\ b < w2.heap.size))) (resV st' rvs).2 v := by
    refine (VR.perm hvr h2).zone ?_
    rintro p b ⟨rfl,hb'⟩
    exact ⟨rfl,(hI2.zn true b hb').imp (fun e => e) (fun e => ⟨e,hI2.zb true b hb'⟩)⟩
   exact ⟨v,hrun,v,_,rfl,h3,htv,hI3.below⟩
  cases e <;> simp [isEnd] at he <;> exact hlv
 ·cases hb
def argS : Nat -> List PV -> List (Nat × PV) -> List (Nat × PV)
 | _,[],s => s
 | K,c :: r,s => argS (K + 1) r (up s K c)
theorem lk_argS : ∀ (args : List PV) (K : Nat) (s : List (Nat × PV)) (i : Nat),lk (argS K args s) i = if K <= i /\ i < K + args.length then args[i - K]? else lk s i
 | [],K,s,i => by simp only [argS]; rw [if_neg (by simp only [List.length_nil]; omega)]
 | c :: r, K, s, i => by
   simp only [argS]
   rw [lk_argS r (K + 1) _ i,lk_up]
   by_cases e : K = i
   ·subst e
    rw [if_neg (by omega),if_pos rfl,if_pos ⟨Nat.le_refl _,by simp⟩]
    simp
   ·rw [if_neg e]
    by_cases h : K <= i /\ i < K + (c :: r).length
    ·have h' := h
     simp only [List.length_cons] at h'
     rw [if_pos h,if_pos ⟨by omega,by omega⟩,show i - K = (i - (K + 1)) + 1 from by omega,List.getElem?_cons_succ]
    ·rw [if_neg h,if_neg (by simp at h ⊢; omega)]
def fnOkK (P : Program) (K : Nat) (ac : AC) (rvs : List RV) (fn : Func) : Bool :=
 (match fn.body with | some c => chk P ⟨K, fn.ntmps⟩ ac c | none => false) && rvsOk P ⟨K, fn.ntmps⟩ rvs fn.results.toList && fn.name != "runtime.NumGoroutine"
def resM (st : St) : List RV -> Prop × PV
 | [r] => r.val st
 | rs => (∀ r ∈ rs,(r.val st).1,.tup (rs.map fun r => (r.val st).2))
def retM (K : Nat) (rvs : List RV) (Q : PV -> St -> Prop) : Exit -> St -> Prop := fun e st => isEnd e = true /\ (resM st rvs).1 /\ flatB (resM st rvs).2 = true /\ Q (resM st rvs).2 (st.low K)
theorem resM_run (h : Inv w0 Z0 N Z L st a w) {fn : Func} {rvs : List RV} (hm : rvsOk P N.sh rvs fn.results.toList = true) (hv : (resM st rvs).1) (hnt : ∀ cs ds, (resM st rvs).2 = .tup cs -> .tup ds ∉ cs) :
  ∃ v,(results fn a.tmps).run P w = .ok v w /\ VR w Z L (resM st rvs).2 v := by
 have hv' : ∀ r ∈ rvs,(r.val st).1 := by
  unfold resM at hv
  split at hv
  ·intro r hr; simp at hr; subst hr; exact hv
  ·exact hv
 obtain ⟨vs,h1,h2,h3⟩ := rvs_run h rvs fn.results.toList hm hv'
 have hrun : (results fn a.tmps).run P w = .ok (if h : vs.toArray.size = 1 then vs.toArray[0] else .tuple vs.toArray) w := by
  rw [results_eq]
  simp [Array.mapM_eq_mapM_toList,h1]
 refine ⟨_,hrun,?_⟩
 unfold resM at hnt ⊢
 split
 ·rename_i r
  have hl : vs.length = 1 := by simpa using h2
  have := h3 0 r rfl
  have hv0 : vs.getD 0 undef = vs[0] := by simp [List.getD_eq_getElem?_getD,hl]
  rw [hv0] at this
  simpa [hl] using this
 ·rename_i hne
  have hl : ¬ vs.toArray.size = 1 := by
   simp only [List.size_toArray,h2]
   intro e
   obtain ⟨r,hr⟩ := List.length_eq_one_iff.1 e
   exact hne r hr
  rw [dif_neg hl]
  refine ⟨vs.toArray,rfl,by simp [h2],fun j c hj => ?_⟩
  have hj0 := hj
  rw [List.getElem?_map] at hj
  obtain ⟨r,h4,rfl⟩ := Option.map_eq_some_iff.1 hj
  have h5 := h3 j r h4
  have h6 : vs.toArray.getD j undef = vs.getD j undef := by simp [Array.getD_eq_getD_getElem?,List.getD_eq_getElem?_getD]
  rw [h6]
  refine VR.toAR (fun cs e => ?_) h5
  split at hnt
  ·exact hne _ rfl
  ·refine hnt _ cs rfl ?_
   rw [<- e]
   exact List.mem_of_getElem? hj0
theorem FnM.of_awp {E : Env} {f : Nat} {fn : Func} {ac : AC} {rvs : List RV} {args : List PV} {Q : PV -> St -> Prop} (K : Nat) (hf : E.p.funcs[f]? = some fn) (hok : fnOkK E.p K ac rvs fn = true) (hn : args.length <= fn.ntmps)
  (hlow : st.s.all (fun x => decide (x.1 < K)) = true) (hkk : E.kk <= K) (h : awp E ac (retM K rvs Q) { st with s := argS K args st.s }) (hpn : ∀ ch st,¬ E.pan ch st := by exact fun _ _ h => h) : FnM E f args st Q := by
 simp only [fnOkK,Bool.and_eq_true] at hok
 obtain ⟨⟨hb,hr⟩,hname⟩ := hok
 split at hb
 ·rename_i c hc
  refine ⟨by simp [funOk,hf,hc]; simpa using hname,fun w0 Z0 X G Z L w vs hE hm ha => ?_⟩
  have hsize : (vs ++ Array.replicate (fn.ntmps - vs.size) undef).size = fn.ntmps := by have := ha.1; simp; omega
  have hinit : Inv w0 Z0 ⟨fn.ntmps,K,G,X,some (false,[])⟩ Z L { st with s := argS K args st.s } { tmps := vs ++ Array.replicate (fn.ntmps - vs.size) undef,defers := [] } w := by
   refine ⟨hm.zt,hm.z0,hm.zn,hm.zb,hm.below,hm.ownb,hm.owna,hm.injb,hm.inja,hm.injx,hm.boxes,hm.arrs,hm.ownm,hm.injm,hm.maps,hm.oth,hm.yb,hsize,fun dd e => ⟨[],⟨by cases e; rfl,fun _ => rfl⟩,⟨.nil,fun D hD => by cases hD⟩,fun D hD => by cases hD⟩,fun i v hl => ?_⟩
   rw [lk_argS] at hl
   unfold Fr.val
   split at hl
   ·rename_i hin
    rw [if_pos ⟨hin.1,by simp only; omega⟩]
    have := ha.2 _ v hl
    have hlt : i - K < vs.size := by rw [ha.1]; exact (List.getElem?_eq_some_iff.1 hl).1
    have e : (vs ++ Array.replicate (fn.ntmps - vs.size) undef).getD (i - K) undef = vs.getD (i - K) undef := by
     simp only [Array.getD_eq_getD_getElem?,Array.getElem?_append_left hlt]
    simp only at e ⊢
    rw [e]; exact this
   ·have hi : i < K := by
     have := List.all_eq_true.1 hlow _ (lk_mem hl)
     simpa using this
    rw [if_neg (by simp only; omega)]
    have := hm.slots i v hl
    have e : (⟨0,0,G,X,none⟩ : Fr).val ⟨#[],[]⟩ i = G i := by simp [Fr.val]
    rwa [e] at this
  refine callsIn_wide (n := 0) |>.1 (callsIn_of_wp_marks hf hc trivial ?_)
  refine wpIn_mono (awp_sound (P := E) (w0 := w0) (Z0 := Z0) ac (N := ⟨fn.ntmps,K,G,X,some (false,[])⟩) (ro := none) (n := 0) hE hkk c (retM K rvs Q) _ _ w (.inr ⟨rfl,fun dd e => by cases e; rfl⟩) (fun l st hh => by simp [retM,isEnd] at hh) (fun ch st hh => (hpn ch st hh).elim) hb h ⟨_,_,hinit⟩) ?_
  rintro e a' w' ⟨st',⟨he,h1,hfl,h3⟩,Z',L',hI⟩
  have hnt' : ∀ cs ds,(resM st' rvs).2 = .tup cs -> .tup ds ∉ cs := fun cs ds e hm => by rw [e] at hfl; have := List.all_eq_true.1 hfl _ hm; simp [isTup] at this
  have hlv : LeavesInM Fence.wide 0 E.p fn a'.tmps (fun e w' => ∃ v r st' Z' L',e = .returned v /\ Q r st' /\ Mem w0 Z0 X G Z' L' st' w' /\ VR w' Z' L' r v) a'.defers .returning w' := by
   refine hI.leave rfl fun w2 hI3 => ?_
   obtain ⟨v,hrun,hvr⟩ := resM_run hI3 hr h1 hnt'
   have hT := hI3.low K
   refine ⟨v,hrun,v,_,st'.low K,Z',L',rfl,h3,⟨hT.zt,hT.z0,hT.zn,hT.zb,hT.below,hT.ownb,hT.owna,hT.injb,hT.inja,hT.injx,hT.boxes,hT.arrs,hT.ownm,hT.injm,hT.maps,hT.oth,hT.yb,rfl,fun _ e => (by cases e),fun i v hi => ?_⟩,hvr⟩
   have h8 := hT.slots i v hi
   have h9 := (lk_low hi).2
   unfold Fr.val at h8 ⊢
   rw [if_neg (by simp only; omega)] at h8
   rw [if_neg (by simp)]
   exact h8
  cases e <;> simp [isEnd] at he <;> exact hlv
 ·cases hb
theorem TV.perm {c : PV} {v : Value} (h : TV w Z c v) (hp : Perm c) : TV w (fun p b => p = true /\ Z true b) c v := VR.perm (h.vr L00) hp
theorem FnOK.res {f : Nat} {args : List PV} {post : PV -> Prop} (h : FnOK P f args (fun r => ∃ r',Sub r r' /\ Perm r' /\ post r')) : FnOK P f args post := by
 intro w Z h1 h2 vs h3 h4
 refine (h w Z h1 h2 vs h3 h4).mono ?_
 rintro e w' ⟨v,r,rfl,⟨r',hs,hp,hr⟩,htv,hb⟩
 refine ⟨v,r',rfl,hr,?_,hb⟩
 have h5 : TV w' (fun _ b => Z true b \/ (w.heap.size <= b /\ b < w'.heap.size)) r v := htv.zone (fun p b h => h.2)
 exact (TV.perm (hs.tv (fun _ h => h) h5) hp).zone (fun p b h => h)
theorem FnEq.of_awp {f : Nat} {fn : Func} {ac : AC} {rvs : List RV} {args : List PV} {r : PV} (hf : P.funcs[f]? = some fn) (hok : fnOk P ac rvs fn = true) (hn : args.length <= fn.ntmps) (hp : Perm r)
  (h : awp (Env.of P) ac (retK rvs (fun x => Sub x r)) ⟨slots0 args,[],[],[]⟩) : FnEq P f args r :=
 FnOK.res (FnOK.mono (FnOK.of_awp hf hok hn h) fun _ hx => ⟨r,hx,hp,rfl⟩)
end
end Go.Vc
namespace Go.Vc
def aO (d : Nat) (o : AOp) : AO := ⟨some d,none,o⟩
def aN (o : AOp) : AO := ⟨none,none,o⟩
def eF (d : Nat) (o : AOp) : DO := ⟨⟨some d,none,o⟩,[],[],false⟩
def eT (d : Nat) (o : AOp) : DO := ⟨⟨some d,none,o⟩,[],[],true⟩
def eU (d : Nat) (o : AOp) (t u : List Nat) : DO := ⟨⟨some d,none,o⟩,t,u,true⟩
def kI (n : Int) : Opd := .c (.sc (.int .i64 n))
def zI : PV := .sc (.int .i64 0)
@[push_cast] theorem aO_eq (d : Nat) (o : AOp) : aO d o = ⟨some d,none,o⟩ := rfl
@[push_cast] theorem aN_eq (o : AOp) : aN o = ⟨none,none,o⟩ := rfl
@[push_cast] theorem eF_eq (d : Nat) (o : AOp) : eF d o = ⟨⟨some d,none,o⟩,[],[],false⟩ := rfl
@[push_cast] theorem eT_eq (d : Nat) (o : AOp) : eT d o = ⟨⟨some d,none,o⟩,[],[],true⟩ := rfl
@[push_cast] theorem eU_eq (d : Nat) (o : AOp) (t u : List Nat) : eU d o t u = ⟨⟨some d,none,o⟩,t,u,true⟩ := rfl
@[push_cast] theorem kI_eq (n : Int) : kI n = .c (.sc (.int .i64 n)) := rfl
@[push_cast] theorem zI_eq : zI = .sc (.int .i64 0) := rfl
end Go.Vc
namespace Go.Vc
open Go Go.RowKit
def memN : Nat -> List Nat -> Bool
 | _,[] => false
 | i,j :: l => if j = i then true else memN i l
theorem memN_eq (i : Nat) (l : List Nat) : l.contains i = memN i l := by
 induction l with
 | nil => rfl
 | cons j l ih =>
   rw [List.contains_cons,ih,memN]
   by_cases h : j = i
   ·subst h; simp
   ·have : (i == j) = false := by simpa using Ne.symm h
    rw [if_neg h,this]; rfl
@[push_cast] theorem memN_nil (i : Nat) : memN i [] = false := rfl
@[push_cast] theorem memN_cons (i j : Nat) (l : List Nat) : memN i (j :: l) = if j = i then true else memN i l := rfl
def getL : List (Nat × PV) -> Nat -> PV
 | [],_ => .bot
 | (k,v) :: r,i => if k = i then v else getL r i
theorem getL_eq (s : List (Nat × PV)) (i : Nat) : (lk s i).getD .bot = getL s i := by
 induction s with
 | nil => rfl
 | cons x r ih =>
   obtain ⟨k,v⟩ := x
   simp only [lk,getL]
   split
   ·rfl
   ·exact ih
@[push_cast] theorem getL_nil (i : Nat) : getL [] i = .bot := rfl
@[push_cast] theorem getL_cons (k i : Nat) (v : PV) (r : List (Nat × PV)) : getL ((k,v) :: r) i = if k = i then v else getL r i := rfl
@[push_cast] theorem get_mk (s : List (Nat × PV)) (b : List (Nat × List PV)) (a : List (Nat × Arr)) (m : List (Nat × Mp)) (i : Nat) : St.get ⟨s,b,a,m⟩ i = getL s i := getL_eq s i
@[push_cast] theorem ev_t (st : St) (n : Nat) : Opd.ev st (.t n) = st.get n := rfl
@[push_cast] theorem ev_c (st : St) (p : PV) : Opd.ev st (.c p) = p := rfl
@[push_cast] theorem put_some (s : List (Nat × PV)) (b : List (Nat × List PV)) (a : List (Nat × Arr)) (m : List (Nat × Mp)) (i : Nat) (v : PV) : St.put ⟨s,b,a,m⟩ (some i) v = ⟨up s i v,b,a,m⟩ := rfl
@[push_cast] theorem put_none (st : St) (v : PV) : St.put st none v = st := rfl
@[push_cast] theorem up_nil {α : Type} (i : Nat) (v : α) : up [] i v = [(i,v)] := rfl
@[push_cast] theorem up_cons {α : Type} (k i : Nat) (u v : α) (r : List (Nat × α)) : up ((k,u) :: r) i v = if k = i then (k,v) :: r else if i < k then (i,v) :: (k,u) :: r else (k,u) :: up r i v := rfl
@[push_cast] theorem rm_nil {α : Type} (i : Nat) : rm ([] : List (Nat × α)) i = [] := rfl
@[push_cast] theorem rm_cons {α : Type} (k i : Nat) (u : α) (r : List (Nat × α)) : rm ((k,u) :: r) i = if k = i then rm r i else (k,u) :: rm r i := rfl
@[push_cast] theorem lk_nil {α : Type} (i : Nat) : lk ([] : List (Nat × α)) i = none := rfl
@[push_cast] theorem lk_cons {α : Type} (k i : Nat) (u : α) (r : List (Nat × α)) : lk ((k,u) :: r) i = if k = i then some u else lk r i := rfl
def keepL (ks : List Nat) : List (Nat × PV) -> List (Nat × PV)
 | [] => []
 | (k,v) :: r => if inK ks k = true then (k,v) :: keepL ks r else keepL ks r
@[push_cast] theorem inK_eq (K n i : Nat) (r : List Nat) : inK (K :: n :: r) i = if i < K then true else if K + n <= i then true else memN i r := by
 simp only [inK,memN_eq]
 by_cases h : i < K <;> by_cases h2 : K + n <= i <;> simp [h,h2]
theorem keepL_eq (ks : List Nat) (s : List (Nat × PV)) : s.filter (fun x => inK ks x.1) = keepL ks s := by
 induction s with
 | nil => rfl
 | cons x r ih =>
   obtain ⟨k,v⟩ := x
   simp only [List.filter_cons,keepL] at ih ⊢
   rw [ih]
@[push_cast] theorem keepL_nil (ks : List Nat) : keepL ks [] = [] := rfl
@[push_cast] theorem keepL_cons (ks : List Nat) (k : Nat) (v : PV) (r : List (Nat × PV)) : keepL ks ((k,v) :: r) = if inK ks k = true then (k,v) :: keepL ks r else keepL ks r := rfl
@[push_cast] theorem keepS_mk (s : List (Nat × PV)) (b : List (Nat × List PV)) (a : List (Nat × Arr)) (m : List (Nat × Mp)) (ks : List Nat) : St.keepS ⟨s,b,a,m⟩ ks = ⟨keepL ks s,b,a,m⟩ := by
 simp only [St.keepS,keepL_eq]
section
variable (pb pa : Nat -> Bool)
@[push_cast] theorem to_view (i lo n : Nat) : PV.to pb pa (.view i lo n) = pa i := rfl
@[push_cast] theorem to_eptr (i lo n : Nat) : PV.to pb pa (.eptr i lo n) = pa i := rfl
@[push_cast] theorem to_ptr (i n : Nat) : PV.to pb pa (.ptr i n) = pb i := rfl
@[push_cast] theorem to_sc (v : Value) : PV.to pb pa (.sc v) = false := rfl
@[push_cast] theorem to_nil : PV.to pb pa .nil = false := rfl
@[push_cast] theorem to_bot : PV.to pb pa .bot = false := rfl
@[push_cast] theorem to_sl (p : Bool) (es : Nat) (xs : List (List PV)) : PV.to pb pa (.sl p es xs) = false := rfl
def anyN (pb : Nat -> Bool) : List Nat -> Bool
 | [] => false
 | i :: r => pb i || anyN pb r
theorem anyN_eq (pb : Nat -> Bool) (l : List Nat) : l.any pb = anyN pb l := by induction l <;> simp_all [anyN]
@[push_cast] theorem anyN_nil : anyN pb [] = false := rfl
@[push_cast] theorem anyN_cons (i : Nat) (r : List Nat) : anyN pb (i :: r) = (pb i || anyN pb r) := rfl
@[push_cast] theorem to_clo (f : Nat) (ids : List Nat) : PV.to pb pa (.clo f ids) = anyN pb ids := anyN_eq pb ids
@[push_cast] theorem to_cld (ids : List Nat) : PV.to pb pa (.cld ids) = anyN pb ids := anyN_eq pb ids
@[push_cast] theorem to_yl (i : Nat) : PV.to pb pa (.yl i) = pb i := rfl
@[push_cast] theorem to_mp (i : Nat) : PV.to pb pa (.mp i) = pb i := rfl
@[push_cast] theorem to_bv (i e n : Nat) : PV.to pb pa (.bv i e n) = pb i := rfl
@[push_cast] theorem to_itr (i j : Nat) : PV.to pb pa (.itr i j) = (pb i || pb j) := rfl
@[push_cast] theorem to_iptr (p : Bool) (cs : List PV) (o : Nat) : PV.to pb pa (.iptr p cs o) = false := rfl
def anyT : List PV -> Bool
 | [] => false
 | c :: r => c.to pb pa || anyT r
def anyA : List PV -> Bool
 | [] => false
 | c :: r => c.toA pb pa || anyA r
theorem anyT_eq (cs : List PV) : cs.any (PV.to pb pa) = anyT pb pa cs := by induction cs <;> simp_all [anyT]
theorem anyA_eq (cs : List PV) : cs.any (PV.toA pb pa) = anyA pb pa cs := by induction cs <;> simp_all [anyA]
@[push_cast] theorem anyT_nil : anyT pb pa [] = false := rfl
@[push_cast] theorem anyT_cons (c : PV) (r : List PV) : anyT pb pa (c :: r) = (c.to pb pa || anyT pb pa r) := rfl
@[push_cast] theorem anyA_nil : anyA pb pa [] = false := rfl
@[push_cast] theorem anyA_cons (c : PV) (r : List PV) : anyA pb pa (c :: r) = (c.toA pb pa || anyA pb pa r) := rfl
@[push_cast] theorem toA_agg (cs : List PV) : PV.toA pb pa (.agg cs) = anyT pb pa cs := anyT_eq pb pa cs
@[push_cast] theorem toA_view (i lo n : Nat) : PV.toA pb pa (.view i lo n) = pa i := rfl
@[push_cast] theorem toA_eptr (i lo n : Nat) : PV.toA pb pa (.eptr i lo n) = pa i := rfl
@[push_cast] theorem toA_ptr (i n : Nat) : PV.toA pb pa (.ptr i n) = pb i := rfl
@[push_cast] theorem toA_sc (v : Value) : PV.toA pb pa (.sc v) = false := rfl
@[push_cast] theorem toA_nil : PV.toA pb pa .nil = false := rfl
@[push_cast] theorem toA_bot : PV.toA pb pa .bot = false := rfl
@[push_cast] theorem toA_clo (f : Nat) (ids : List Nat) : PV.toA pb pa (.clo f ids) = anyN pb ids := anyN_eq pb ids
@[push_cast] theorem toA_cld (ids : List Nat) : PV.toA pb pa (.cld ids) = anyN pb ids := anyN_eq pb ids
@[push_cast] theorem toA_yl (i : Nat) : PV.toA pb pa (.yl i) = pb i := rfl
@[push_cast] theorem toA_mp (i : Nat) : PV.toA pb pa (.mp i) = pb i := rfl
@[push_cast] theorem toA_bv (i e n : Nat) : PV.toA pb pa (.bv i e n) = pb i := rfl
@[push_cast] theorem toA_itr (i j : Nat) : PV.toA pb pa (.itr i j) = (pb i || pb j) := rfl
@[push_cast] theorem toA_iptr (p : Bool) (cs : List PV) (o : Nat) : PV.toA pb pa (.iptr p cs o) = false := rfl
@[push_cast] theorem toA_sl (p : Bool) (es : Nat) (xs : List (List PV)) : PV.toA pb pa (.sl p es xs) = false := rfl
@[push_cast] theorem toV_view (i lo n : Nat) : PV.toV pb pa (.view i lo n) = pa i := rfl
@[push_cast] theorem toV_eptr (i lo n : Nat) : PV.toV pb pa (.eptr i lo n) = pa i := rfl
@[push_cast] theorem toV_ptr (i n : Nat) : PV.toV pb pa (.ptr i n) = pb i := rfl
@[push_cast] theorem toV_sc (v : Value) : PV.toV pb pa (.sc v) = false := rfl
@[push_cast] theorem toV_nil : PV.toV pb pa .nil = false := rfl
@[push_cast] theorem toV_bot : PV.toV pb pa .bot = false := rfl
@[push_cast] theorem toV_clo (f : Nat) (ids : List Nat) : PV.toV pb pa (.clo f ids) = anyN pb ids := anyN_eq pb ids
@[push_cast] theorem toV_cld (ids : List Nat) : PV.toV pb pa (.cld ids) = anyN pb ids := anyN_eq pb ids
@[push_cast] theorem toV_yl (i : Nat) : PV.toV pb pa (.yl i) = pb i := rfl
@[push_cast] theorem toV_mp (i : Nat) : PV.toV pb pa (.mp i) = pb i := rfl
@[push_cast] theorem toV_bv (i e n : Nat) : PV.toV pb pa (.bv i e n) = pb i := rfl
@[push_cast] theorem toV_itr (i j : Nat) : PV.toV pb pa (.itr i j) = (pb i || pb j) := rfl
@[push_cast] theorem toV_sl (p : Bool) (es : Nat) (xs : List (List PV)) : PV.toV pb pa (.sl p es xs) = false := rfl
@[push_cast] theorem toV_iptr (p : Bool) (cs : List PV) (o : Nat) : PV.toV pb pa (.iptr p cs o) = false := rfl
@[push_cast] theorem toV_agg (cs : List PV) : PV.toV pb pa (.agg cs) = anyT pb pa cs := anyT_eq pb pa cs
@[push_cast] theorem toV_tup (cs : List PV) : PV.toV pb pa (.tup cs) = anyA pb pa cs := anyA_eq pb pa cs
def refS : List (Nat × PV) -> Bool
 | [] => false
 | (_,v) :: r => v.toV pb pa || refS r
def refB : List (Nat × List PV) -> Bool
 | [] => false
 | (_,v) :: r => anyT pb pa v || refB r
theorem refS_eq (s : List (Nat × PV)) : s.any (fun y => y.2.toV pb pa) = refS pb pa s := by induction s <;> simp_all [refS]
theorem refB_eq (s : List (Nat × List PV)) : s.any (fun y => y.2.any (PV.to pb pa)) = refB pb pa s := by induction s <;> simp_all [refB,anyT_eq]
@[push_cast] theorem refS_nil : refS pb pa [] = false := rfl
@[push_cast] theorem refS_cons (k : Nat) (v : PV) (r : List (Nat × PV)) : refS pb pa ((k,v) :: r) = (v.toV pb pa || refS pb pa r) := rfl
@[push_cast] theorem refB_nil : refB pb pa [] = false := rfl
@[push_cast] theorem refB_cons (k : Nat) (v : List PV) (r : List (Nat × List PV)) : refB pb pa ((k,v) :: r) = (anyT pb pa v || refB pb pa r) := rfl
end
def isId (i : Nat) : Nat -> Bool := fun j => j == i
@[push_cast] theorem isId_app (i j : Nat) : isId i j = (j == i) := rfl
@[push_cast] theorem nul_app (j : Nat) : nul j = false := rfl
def gcB (s : List (Nat × PV)) (b0 : List (Nat × List PV)) : List (Nat × List PV) -> List (Nat × List PV)
 | [] => []
 | (k,v) :: r => if (refS (isId k) nul s || refB (isId k) nul b0) = true then (k,v) :: gcB s b0 r else gcB s b0 r
def gcA (s : List (Nat × PV)) (b : List (Nat × List PV)) : List (Nat × Arr) -> List (Nat × Arr)
 | [] => []
 | (k,v) :: r => if (refS nul (isId k) s || refB nul (isId k) b) = true then (k,v) :: gcA s b r else gcA s b r
@[push_cast] theorem gcB_nil (s : List (Nat × PV)) (b0 : List (Nat × List PV)) : gcB s b0 [] = [] := rfl
@[push_cast] theorem gcB_cons (s : List (Nat × PV)) (b0 : List (Nat × List PV)) (k : Nat) (v : List PV) (r : List (Nat × List PV)) : gcB s b0 ((k,v) :: r) = if (refS (isId k) nul s || refB (isId k) nul b0) = true then (k,v) :: gcB s b0 r else gcB s b0 r := rfl
@[push_cast] theorem gcA_nil (s : List (Nat × PV)) (b : List (Nat × List PV)) : gcA s b [] = [] := rfl
@[push_cast] theorem gcA_cons (s : List (Nat × PV)) (b : List (Nat × List PV)) (k : Nat) (v : Arr) (r : List (Nat × Arr)) : gcA s b ((k,v) :: r) = if (refS nul (isId k) s || refB nul (isId k) b) = true then (k,v) :: gcA s b r else gcA s b r := rfl
theorem gcB_eq (s : List (Nat × PV)) (b0 b : List (Nat × List PV)) : b.filter (fun x => s.any (fun y => y.2.toV (fun j => j == x.1) nul) || b0.any (fun y => y.2.any (PV.to (fun j => j == x.1) nul))) = gcB s b0 b := by
 induction b with
 | nil => rfl
 | cons x r ih =>
   obtain ⟨k,v⟩ := x
   simp only [refS_eq,refB_eq] at ih ⊢
   simp only [List.filter_cons,gcB,ih]
   rfl
theorem gcA_eq (s : List (Nat × PV)) (b0 : List (Nat × List PV)) (b : List (Nat × Arr)) : b.filter (fun x => s.any (fun y => y.2.toV nul (fun j => j == x.1)) || b0.any (fun y => y.2.any (PV.to nul (fun j => j == x.1)))) = gcA s b0 b := by
 induction b with
 | nil => rfl
 | cons x r ih =>
   obtain ⟨k,v⟩ := x
   simp only [refS_eq,refB_eq] at ih ⊢
   simp only [List.filter_cons,gcA,ih]
   rfl
def gcM (s : List (Nat × PV)) (b : List (Nat × List PV)) : List (Nat × Mp) -> List (Nat × Mp)
 | [] => []
 | (k,v) :: r => if (refS (isId k) nul s || refB (isId k) nul b) = true then (k,v) :: gcM s b r else gcM s b r
@[push_cast] theorem gcM_nil (s : List (Nat × PV)) (b : List (Nat × List PV)) : gcM s b [] = [] := rfl
@[push_cast] theorem gcM_cons (s : List (Nat × PV)) (b : List (Nat × List PV)) (k : Nat) (v : Mp) (r : List (Nat × Mp)) : gcM s b ((k,v) :: r) = if (refS (isId k) nul s || refB (isId k) nul b) = true then (k,v) :: gcM s b r else gcM s b r := rfl
theorem gcM_eq (s : List (Nat × PV)) (b0 : List (Nat × List PV)) (b : List (Nat × Mp)) : b.filter (fun x => s.any (fun y => y.2.toV (fun j => j == x.1) nul) || b0.any (fun y => y.2.any (PV.to (fun j => j == x.1) nul))) = gcM s b0 b := by
 induction b with
 | nil => rfl
 | cons x r ih =>
   obtain ⟨k,v⟩ := x
   simp only [refS_eq,refB_eq] at ih ⊢
   simp only [List.filter_cons,gcM,ih]
   rfl
@[push_cast] theorem gc_mk (s : List (Nat × PV)) (b : List (Nat × List PV)) (a : List (Nat × Arr)) (m : List (Nat × Mp)) (ks : List Nat) : St.gc ⟨s,b,a,m⟩ ks = ⟨keepL ks s,gcB (keepL ks s) (gcB (keepL ks s) (gcB (keepL ks s) [] b) b) b,gcA (keepL ks s) (gcB (keepL ks s) (gcB (keepL ks s) (gcB (keepL ks s) [] b) b) b) a,gcM (keepL ks s) (gcB (keepL ks s) (gcB (keepL ks s) (gcB (keepL ks s) [] b) b) b) m⟩ := by
 simp only [St.gc,keepL_eq,gcB_eq,gcA_eq,gcM_eq]
def killL (pb pa : Nat -> Bool) : List PV -> List PV
 | [] => []
 | c :: r => (bif c.to pb pa then c.killed pb else c) :: killL pb pa r
def killS (pb pa : Nat -> Bool) : List (Nat × PV) -> List (Nat × PV)
 | [] => []
 | (k,v) :: r => (k,bif v.toV pb pa then v.killV pb pa else v) :: killS pb pa r
def killB (pb pa : Nat -> Bool) : List (Nat × List PV) -> List (Nat × List PV)
 | [] => []
 | (k,v) :: r => (k,bif anyT pb pa v then killL pb pa v else v) :: killB pb pa r
section
variable (pb pa : Nat -> Bool)
@[push_cast] theorem killL_nil : killL pb pa [] = [] := rfl
@[push_cast] theorem killL_cons (c : PV) (r : List PV) : killL pb pa (c :: r) = (bif c.to pb pa then c.killed pb else c) :: killL pb pa r := rfl
@[push_cast] theorem killS_nil : killS pb pa [] = [] := rfl
@[push_cast] theorem killS_cons (k : Nat) (v : PV) (r : List (Nat × PV)) : killS pb pa ((k,v) :: r) = (k,bif v.toV pb pa then v.killV pb pa else v) :: killS pb pa r := rfl
@[push_cast] theorem killB_nil : killB pb pa [] = [] := rfl
@[push_cast] theorem killB_cons (k : Nat) (v : List PV) (r : List (Nat × List PV)) : killB pb pa ((k,v) :: r) = (k,bif anyT pb pa v then killL pb pa v else v) :: killB pb pa r := rfl
theorem killL_eq (cs : List PV) : cs.map (PV.kill pb pa) = killL pb pa cs := by induction cs <;> simp_all [killL,PV.kill]
theorem kill_same {c : PV} (h : c.to pb pa = false) : c.kill pb pa = c := by simp [PV.kill,h]
theorem killL_same {cs : List PV} (h : anyT pb pa cs = false) : killL pb pa cs = cs := by
 induction cs with
 | nil => rfl
 | cons c r ih => simp only [anyT,Bool.or_eq_false_iff] at h; simp [killL,h.1,ih h.2]
theorem killA_same {c : PV} (h : c.toA pb pa = false) : c.killA pb pa = c := by
 cases c with
 | agg cs => simp only [toA_agg] at h; simp only [PV.killA,killL_eq,killL_same pb pa h]
 | _ => simp only [PV.killA]; exact kill_same pb pa (by simpa only [PV.toA] using h)
theorem killV_same {c : PV} (h : c.toV pb pa = false) : c.killV pb pa = c := by
 cases c with
 | tup cs =>
   simp only [toV_tup] at h
   simp only [PV.killV]
   congr 1
   induction cs with
   | nil => rfl
   | cons c r ih => simp only [anyA,Bool.or_eq_false_iff] at h; simp [killA_same pb pa h.1,ih h.2]
 | _ => simp only [PV.killV]; exact killA_same pb pa (by simpa only [PV.toV] using h)
@[push_cast] theorem killV_view (i lo n : Nat) : PV.killV pb pa (.view i lo n) = bif pa i then .bot else .view i lo n := rfl
@[push_cast] theorem killV_eptr (i lo n : Nat) : PV.killV pb pa (.eptr i lo n) = bif pa i then .bot else .eptr i lo n := rfl
@[push_cast] theorem killV_ptr (i n : Nat) : PV.killV pb pa (.ptr i n) = bif pb i then .bot else .ptr i n := rfl
def filN (pb : Nat -> Bool) : List Nat -> List Nat
 | [] => []
 | i :: r => if pb i = true then filN pb r else i :: filN pb r
theorem filN_eq (l : List Nat) : (l.filter fun i => !pb i) = filN pb l := by
 induction l with
 | nil => rfl
 | cons i r ih => simp only [List.filter_cons,filN,ih]; cases pb i <;> rfl
@[push_cast] theorem filN_nil : filN pb [] = [] := rfl
@[push_cast] theorem filN_cons (i : Nat) (r : List Nat) : filN pb (i :: r) = if pb i = true then filN pb r else i :: filN pb r := rfl
@[push_cast] theorem killed_view (i lo n : Nat) : PV.killed pb (.view i lo n) = .bot := rfl
@[push_cast] theorem killed_eptr (i lo n : Nat) : PV.killed pb (.eptr i lo n) = .bot := rfl
@[push_cast] theorem killed_ptr (i n : Nat) : PV.killed pb (.ptr i n) = .bot := rfl
@[push_cast] theorem killed_yl (i : Nat) : PV.killed pb (.yl i) = .bot := rfl
@[push_cast] theorem killed_mp (i : Nat) : PV.killed pb (.mp i) = .bot := rfl
@[push_cast] theorem killed_bv (i e n : Nat) : PV.killed pb (.bv i e n) = .bot := rfl
@[push_cast] theorem killed_clo (f : Nat) (ids : List Nat) : PV.killed pb (.clo f ids) = .cld (filN pb ids) := by simp only [PV.killed,filN_eq]
@[push_cast] theorem killed_cld (ids : List Nat) : PV.killed pb (.cld ids) = .cld (filN pb ids) := by simp only [PV.killed,filN_eq]
@[push_cast] theorem killed_itr (i j : Nat) : PV.killed pb (.itr i j) = .cld (filN pb [i,j]) := by simp only [PV.killed,filN_eq]
@[push_cast] theorem killV_clo (f : Nat) (ids : List Nat) : PV.killV pb pa (.clo f ids) = bif anyN pb ids then .cld (filN pb ids) else .clo f ids := by simp only [PV.killV,PV.killA,PV.kill,to_clo,killed_clo]
@[push_cast] theorem killV_cld (ids : List Nat) : PV.killV pb pa (.cld ids) = bif anyN pb ids then .cld (filN pb ids) else .cld ids := by simp only [PV.killV,PV.killA,PV.kill,to_cld,killed_cld]
@[push_cast] theorem killV_itr (i j : Nat) : PV.killV pb pa (.itr i j) = bif (pb i || pb j) then .cld (filN pb [i,j]) else .itr i j := by simp only [PV.killV,PV.killA,PV.kill,to_itr,killed_itr]
@[push_cast] theorem killV_yl (i : Nat) : PV.killV pb pa (.yl i) = bif pb i then .bot else .yl i := rfl
@[push_cast] theorem killV_mp (i : Nat) : PV.killV pb pa (.mp i) = bif pb i then .bot else .mp i := rfl
@[push_cast] theorem killV_bv (i e n : Nat) : PV.killV pb pa (.bv i e n) = bif pb i then .bot else .bv i e n := rfl
@[push_cast] theorem killV_agg (cs : List PV) : PV.killV pb pa (.agg cs) = .agg (killL pb pa cs) := by simp only [PV.killV,PV.killA,killL_eq]
theorem killS_eq (s : List (Nat × PV)) : (s.map fun x => (x.1,x.2.killV pb pa)) = killS pb pa s := by
 induction s with
 | nil => rfl
 | cons x r ih =>
   obtain ⟨k,v⟩ := x
   simp only [List.map_cons,killS,ih]
   congr 2
   cases h : v.toV pb pa
   ·simp [killV_same pb pa h]
   ·rfl
theorem killB_eq (s : List (Nat × List PV)) : (s.map fun x => (x.1,x.2.map (PV.kill pb pa))) = killB pb pa s := by
 induction s with
 | nil => rfl
 | cons x r ih =>
   obtain ⟨k,v⟩ := x
   simp only [killL_eq] at ih
   simp only [List.map_cons,killB,killL_eq,ih]
   congr 2
   cases h : anyT pb pa v
   ·simp [killL_same pb pa h]
   ·rfl
end
def mpO (pb : Nat -> Bool) : Option Mp -> Bool
 | some ⟨_,_,some (i,_,_)⟩ => pb i
 | _ => false
@[push_cast] theorem mpO_none (pb : Nat -> Bool) : mpO pb none = false := rfl
@[push_cast] theorem mpO_no (pb : Nat -> Bool) (kd : KD) (es : List (Value × PV)) : mpO pb (some ⟨kd,es,none⟩) = false := rfl
@[push_cast] theorem mpO_it (pb : Nat -> Bool) (kd : KD) (es : List (Value × PV)) (i : Nat) (l : List (Value × PV)) (c : Option (Value × PV)) : mpO pb (some ⟨kd,es,some (i,l,c)⟩) = pb i := rfl
theorem mpTo_eq (m : List (Nat × Mp)) (pb : Nat -> Bool) (i : Nat) : mpTo m pb i = mpO pb (lk m i) := by
 unfold mpTo
 cases lk m i with
 | none => rfl
 | some M => obtain ⟨kd,es,it⟩ := M; cases it <;> rfl
def killM (pb : Nat -> Bool) (m0 : List (Nat × Mp)) : List (Nat × Mp) -> List (Nat × Mp)
 | [] => []
 | (k,v) :: r => if (pb k || mpO pb (lk m0 k)) = true then killM pb m0 r else (k,v) :: killM pb m0 r
@[push_cast] theorem killM_n (pb : Nat -> Bool) (m0 : List (Nat × Mp)) : killM pb m0 [] = [] := rfl
@[push_cast] theorem killM_cons (pb : Nat -> Bool) (m0 : List (Nat × Mp)) (k : Nat) (v : Mp) (r : List (Nat × Mp)) : killM pb m0 ((k,v) :: r) = if (pb k || mpO pb (lk m0 k)) = true then killM pb m0 r else (k,v) :: killM pb m0 r := rfl
theorem killM_eq (pb : Nat -> Bool) (m0 m : List (Nat × Mp)) : (m.filter fun x => !pb x.1 && !mpTo m0 pb x.1) = killM pb m0 m := by
 induction m with
 | nil => rfl
 | cons x r ih =>
   obtain ⟨k,v⟩ := x
   rw [List.filter_cons,killM,ih,mpTo_eq]
   cases pb k <;> cases mpO pb (lk m0 k) <;> rfl
theorem killM_nul (m : List (Nat × Mp)) : (m.filter fun x => !nul x.1 && !mpTo m nul x.1) = m := List.filter_eq_self.2 fun x _ => by simp [mpTo_nul,nul]
@[push_cast] theorem newMap_mk (s : List (Nat × PV)) (b : List (Nat × List PV)) (a : List (Nat × Arr)) (m : List (Nat × Mp)) (i : Nat) (M : Mp) :
  St.newMap ⟨s,b,a,m⟩ i M = ⟨up (killS (isId i) nul s) i (.mp i),rm (killB (isId i) nul b) i,a,up (killM (isId i) m m) i M⟩ := by
 simp only [St.newMap,St.kill,killS_eq,killB_eq]; rw [show (fun x : Nat × Mp => !(fun j => j == i) x.1 && !mpTo m (fun j => j == i) x.1) = fun x => !isId i x.1 && !mpTo m (isId i) x.1 from rfl,killM_eq]; rfl
@[push_cast] theorem newBox_mk (s : List (Nat × PV)) (b : List (Nat × List PV)) (a : List (Nat × Arr)) (m : List (Nat × Mp)) (i : Nat) (cs : List PV) :
  St.newBox ⟨s,b,a,m⟩ i cs = ⟨up (killS (isId i) nul s) i (.ptr i 0),up (killB (isId i) nul b) i cs,a,killM (isId i) m m⟩ := by
 simp only [St.newBox,St.kill,killS_eq,killB_eq]; rw [show (fun x : Nat × Mp => !(fun j => j == i) x.1 && !mpTo m (fun j => j == i) x.1) = fun x => !isId i x.1 && !mpTo m (isId i) x.1 from rfl,killM_eq]; rfl
@[push_cast] theorem newBx_mk (s : List (Nat × PV)) (b : List (Nat × List PV)) (a : List (Nat × Arr)) (m : List (Nat × Mp)) (i es : Nat) (cs : List PV) (n : Nat) :
  St.newBx ⟨s,b,a,m⟩ i es cs n = ⟨up (killS (isId i) nul s) i (.bv i es n),up (killB (isId i) nul b) i cs,a,killM (isId i) m m⟩ := by
 simp only [St.newBx,St.kill,killS_eq,killB_eq]; rw [show (fun x : Nat × Mp => !(fun j => j == i) x.1 && !mpTo m (fun j => j == i) x.1) = fun x => !isId i x.1 && !mpTo m (isId i) x.1 from rfl,killM_eq]; rfl
@[push_cast] theorem newArr_mk (s : List (Nat × PV)) (b : List (Nat × List PV)) (a : List (Nat × Arr)) (m : List (Nat × Mp)) (i : Nat) (A : Arr) :
  St.newArr ⟨s,b,a,m⟩ i A = ⟨up (killS nul (isId i) s) i (.view i 0 A.xs.length),killB nul (isId i) b,up a i A,m⟩ := by
 simp only [St.newArr,St.kill,killS_eq,killB_eq,killM_nul]; rfl
@[push_cast] theorem viewIds_nil : viewIds [] = [] := rfl
@[push_cast] theorem viewIds_view (i lo n : Nat) (r : List PV) : viewIds (.view i lo n :: r) = i :: viewIds r := rfl
@[push_cast] theorem viewIds_eptr (i lo n : Nat) (r : List PV) : viewIds (.eptr i lo n :: r) = i :: viewIds r := rfl
@[push_cast] theorem viewIds_ptr (i n : Nat) (r : List PV) : viewIds (.ptr i n :: r) = viewIds r := rfl
@[push_cast] theorem viewIds_sc (v : Value) (r : List PV) : viewIds (.sc v :: r) = viewIds r := rfl
@[push_cast] theorem viewIds_nil' (r : List PV) : viewIds (.nil :: r) = viewIds r := rfl
@[push_cast] theorem viewIds_bot (r : List PV) : viewIds (.bot :: r) = viewIds r := rfl
@[push_cast] theorem viewIds_sl (p : Bool) (es : Nat) (xs : List (List PV)) (r : List PV) : viewIds (.sl p es xs :: r) = viewIds r := rfl
@[push_cast] theorem viewIds_iptr (p : Bool) (cs : List PV) (o : Nat) (r : List PV) : viewIds (.iptr p cs o :: r) = viewIds r := rfl
@[push_cast] theorem viewIds_clo (f : Nat) (ids : List Nat) (r : List PV) : viewIds (.clo f ids :: r) = viewIds r := rfl
@[push_cast] theorem viewIds_mp (i : Nat) (r : List PV) : viewIds (.mp i :: r) = viewIds r := rfl
@[push_cast] theorem viewIds_bv (i e n : Nat) (r : List PV) : viewIds (.bv i e n :: r) = viewIds r := rfl
@[push_cast] theorem viewIds_agg (cs r : List PV) : viewIds (.agg cs :: r) = viewIds r := rfl
@[push_cast] theorem viewIds_tup (cs r : List PV) : viewIds (.tup cs :: r) = viewIds r := rfl
def frzIds (st : St) : List Nat -> St
 | [] => st
 | i :: r => frzIds (st.frz i) r
@[push_cast] theorem frzs_eq (st : St) (cs : List PV) : st.frzs cs = frzIds st (viewIds cs) := by
 unfold St.frzs
 generalize viewIds cs = l
 induction l generalizing st with
 | nil => rfl
 | cons i l ih => exact ih _
@[push_cast] theorem frzIds_nil (st : St) : frzIds st [] = st := rfl
@[push_cast] theorem frzIds_cons (st : St) (i : Nat) (r : List Nat) : frzIds st (i :: r) = frzIds (st.frz i) r := rfl
def fzL (id : Nat) (A : Arr) : List PV -> List PV
 | [] => []
 | c :: r => c.fz id A :: fzL id A r
def fzS (id : Nat) (A : Arr) : List (Nat × PV) -> List (Nat × PV)
 | [] => []
 | (k,v) :: r => (k,bif v.toV nul (isId id) then v.fzV id A else v) :: fzS id A r
def fzB (id : Nat) (A : Arr) : List (Nat × List PV) -> List (Nat × List PV)
 | [] => []
 | (k,v) :: r => (k,bif anyT nul (isId id) v then fzL id A v else v) :: fzB id A r
section
variable (id : Nat) (A : Arr)
@[push_cast] theorem fzL_nil : fzL id A [] = [] := rfl
@[push_cast] theorem fzL_cons (c : PV) (r : List PV) : fzL id A (c :: r) = c.fz id A :: fzL id A r := rfl
@[push_cast] theorem fzS_nil : fzS id A [] = [] := rfl
@[push_cast] theorem fzS_cons (k : Nat) (v : PV) (r : List (Nat × PV)) : fzS id A ((k,v) :: r) = (k,bif v.toV nul (isId id) then v.fzV id A else v) :: fzS id A r := rfl
@[push_cast] theorem fzB_nil : fzB id A [] = [] := rfl
@[push_cast] theorem fzB_cons (k : Nat) (v : List PV) (r : List (Nat × List PV)) : fzB id A ((k,v) :: r) = (k,bif anyT nul (isId id) v then fzL id A v else v) :: fzB id A r := rfl
@[push_cast] theorem fz_view (i lo n : Nat) : PV.fz id A (.view i lo n) = if i = id then .sl true A.es ((A.xs.drop lo).take n) else .view i lo n := rfl
@[push_cast] theorem fz_eptr (i j o : Nat) : PV.fz id A (.eptr i j o) = if i = id then .iptr true (A.xs.getD j []) o else .eptr i j o := rfl
@[push_cast] theorem fz_ptr (i n : Nat) : PV.fz id A (.ptr i n) = .ptr i n := rfl
@[push_cast] theorem fz_sc (v : Value) : PV.fz id A (.sc v) = .sc v := rfl
@[push_cast] theorem fz_nil : PV.fz id A .nil = .nil := rfl
@[push_cast] theorem fz_bot : PV.fz id A .bot = .bot := rfl
@[push_cast] theorem fz_sl (p : Bool) (es : Nat) (xs : List (List PV)) : PV.fz id A (.sl p es xs) = .sl p es xs := rfl
@[push_cast] theorem fz_iptr (p : Bool) (cs : List PV) (o : Nat) : PV.fz id A (.iptr p cs o) = .iptr p cs o := rfl
@[push_cast] theorem fzV_view (i lo n : Nat) : PV.fzV id A (.view i lo n) = if i = id then .sl true A.es ((A.xs.drop lo).take n) else .view i lo n := rfl
@[push_cast] theorem fzV_eptr (i j o : Nat) : PV.fzV id A (.eptr i j o) = if i = id then .iptr true (A.xs.getD j []) o else .eptr i j o := rfl
theorem fzL_eq (cs : List PV) : cs.map (PV.fz id A) = fzL id A cs := by induction cs <;> simp_all [fzL]
@[push_cast] theorem fzV_agg (cs : List PV) : PV.fzV id A (.agg cs) = .agg (fzL id A cs) := by simp only [PV.fzV,PV.fzA,fzL_eq]
theorem fz_same {c : PV} (h : c.to nul (isId id) = false) : c.fz id A = c := by
 cases c <;> first | rfl | simp_all [PV.fz,PV.to,isId]
theorem fzL_same {cs : List PV} (h : anyT nul (isId id) cs = false) : fzL id A cs = cs := by
 induction cs with
 | nil => rfl
 | cons c r ih => simp only [anyT,Bool.or_eq_false_iff] at h; simp [fzL,fz_same id A h.1,ih h.2]
theorem fzA_same {c : PV} (h : c.toA nul (isId id) = false) : c.fzA id A = c := by
 cases c with
 | agg cs => simp only [toA_agg] at h; simp only [PV.fzA,fzL_eq,fzL_same id A h]
 | _ => simp only [PV.fzA]; exact fz_same id A (by simpa only [PV.toA] using h)
theorem fzV_same {c : PV} (h : c.toV nul (isId id) = false) : c.fzV id A = c := by
 cases c with
 | tup cs =>
   simp only [toV_tup] at h
   simp only [PV.fzV]
   congr 1
   induction cs with
   | nil => rfl
   | cons c r ih => simp only [anyA,Bool.or_eq_false_iff] at h; simp [fzA_same id A h.1,ih h.2]
 | _ => simp only [PV.fzV]; exact fzA_same id A (by simpa only [PV.toV] using h)
theorem fzS_eq (s : List (Nat × PV)) : (s.map fun x => (x.1,x.2.fzV id A)) = fzS id A s := by
 induction s with
 | nil => rfl
 | cons x r ih =>
   obtain ⟨k,v⟩ := x
   simp only [List.map_cons,fzS,ih]
   congr 2
   cases h : v.toV nul (isId id)
   ·simp [fzV_same id A h]
   ·rfl
theorem fzB_eq (s : List (Nat × List PV)) : (s.map fun x => (x.1,x.2.map (PV.fz id A))) = fzB id A s := by
 induction s with
 | nil => rfl
 | cons x r ih =>
   obtain ⟨k,v⟩ := x
   simp only [fzL_eq] at ih
   simp only [List.map_cons,fzB,fzL_eq,ih]
   congr 2
   cases h : anyT nul (isId id) v
   ·simp [fzL_same id A h]
   ·rfl
end
def frzO (s : List (Nat × PV)) (b : List (Nat × List PV)) (a : List (Nat × Arr)) (m : List (Nat × Mp)) (i : Nat) : Option Arr -> St
 | some A => ⟨fzS i A s,fzB i A b,rm a i,m⟩
 | none => ⟨s,b,a,m⟩
@[push_cast] theorem frzO_some (s : List (Nat × PV)) (b : List (Nat × List PV)) (a : List (Nat × Arr)) (m : List (Nat × Mp)) (i : Nat) (A : Arr) : frzO s b a m i (some A) = ⟨fzS i A s,fzB i A b,rm a i,m⟩ := rfl
@[push_cast] theorem frzO_none (s : List (Nat × PV)) (b : List (Nat × List PV)) (a : List (Nat × Arr)) (m : List (Nat × Mp)) (i : Nat) : frzO s b a m i none = ⟨s,b,a,m⟩ := rfl
@[push_cast] theorem frz_mk (s : List (Nat × PV)) (b : List (Nat × List PV)) (a : List (Nat × Arr)) (m : List (Nat × Mp)) (i : Nat) : St.frz ⟨s,b,a,m⟩ i = frzO s b a m i (lk a i) := by
 unfold St.frz
 cases h : lk a i with
 | none => rfl
 | some A => simp only [fzS_eq,fzB_eq]; rfl
end Go.Vc
namespace Go.Vc
open Go Go.RowKit
attribute [push_cast] true_and and_true and_self Bool.false_or Bool.or_false Bool.true_or Bool.or_true cond_true cond_false Bool.false_eq_true Option.getD_some Option.getD_none List.length_cons List.length_nil List.append_nil List.nil_append List.cons_append
def rows {α : Type} (f : α -> List PV) (l : List α) : List (List PV) := l.map f
def intC (x : Int) : List PV := [.sc (.int .i64 x)]
def byteC (x : Int) : List PV := [.sc (.int .u8 x)]
def u64C (x : Int) : List PV := [.sc (.int .u64 x)]
def boolC (x : Bool) : List PV := [.sc (.bool x)]
abbrev ints (l : List Int) : List (List PV) := rows intC l
abbrev bytes8 (l : List Int) : List (List PV) := rows byteC l
@[push_cast] theorem intC_eq (x : Int) : intC x = [.sc (.int .i64 x)] := _root_.id rfl
@[push_cast] theorem byteC_eq (x : Int) : byteC x = [.sc (.int .u8 x)] := _root_.id rfl
@[push_cast] theorem u64C_eq (x : Int) : u64C x = [.sc (.int .u64 x)] := _root_.id rfl
@[push_cast] theorem boolC_eq (x : Bool) : boolC x = [.sc (.bool x)] := _root_.id rfl
section
variable {α : Type} (f : α -> List PV) (l m : List α)
@[push_cast] theorem rows_length : (rows f l).length = l.length := by simp [rows]
@[push_cast] theorem rows_append : rows f l ++ rows f m = rows f (l ++ m) := by simp [rows]
@[push_cast] theorem rows_take (n : Nat) : (rows f l).take n = rows f (l.take n) := by simp [rows]
@[push_cast] theorem rows_drop (n : Nat) : (rows f l).drop n = rows f (l.drop n) := by simp [rows]
theorem rows_getD [Inhabited α] {i : Nat} (h : i < l.length) : (rows f l).getD i [] = f (l.getD i default) := by
 simp [rows,List.getD_eq_getElem?_getD,h]
@[push_cast] theorem rows_set_spl [Inhabited α] (i off : Nat) (cs : List PV) : (rows f l).set i (spl ((rows f l).getD i []) off cs) = (rows f l).set i (spl (f (l.getD i default)) off cs) := by
 by_cases h : i < l.length
 ·rw [rows_getD f l h]
 ·rw [List.set_eq_of_length_le (by simp [rows]; omega),List.set_eq_of_length_le (by simp [rows]; omega)]
end
@[push_cast] theorem ints_snoc (l : List Int) (x : Int) : rows intC l ++ [[.sc (.int .i64 x)]] = rows intC (l ++ [x]) := by simp [rows,intC]
@[push_cast] theorem bytes_snoc (l : List Int) (x : Int) : rows byteC l ++ [[.sc (.int .u8 x)]] = rows byteC (l ++ [x]) := by simp [rows,byteC]
@[push_cast] theorem u64s_snoc (l : List Int) (x : Int) : rows u64C l ++ [[.sc (.int .u64 x)]] = rows u64C (l ++ [x]) := by simp [rows,u64C]
@[push_cast] theorem bools_snoc (l : List Bool) (x : Bool) : rows boolC l ++ [[.sc (.bool x)]] = rows boolC (l ++ [x]) := by simp [rows,boolC]
@[push_cast] theorem ints_set (l : List Int) (i : Nat) (x : Int) : (rows intC l).set i [.sc (.int .i64 x)] = rows intC (l.set i x) := by simp [rows,intC,List.map_set]
@[push_cast] theorem bools_set (l : List Bool) (i : Nat) (x : Bool) : (rows boolC l).set i [.sc (.bool x)] = rows boolC (l.set i x) := by simp [rows,boolC,List.map_set]
@[push_cast] theorem u64s_set (l : List Int) (i : Nat) (x : Int) : (rows u64C l).set i [.sc (.int .u64 x)] = rows u64C (l.set i x) := by simp [rows,u64C,List.map_set]
@[push_cast] theorem ints_rep (n : Nat) (x : Int) : List.replicate n [.sc (.int .i64 x)] = rows intC (List.replicate n x) := by simp [rows,intC]
@[push_cast] theorem bools_rep (n : Nat) (x : Bool) : List.replicate n [.sc (.bool x)] = rows boolC (List.replicate n x) := by simp [rows,boolC]
@[push_cast] theorem u64s_rep (n : Nat) (x : Int) : List.replicate n [.sc (.int .u64 x)] = rows u64C (List.replicate n x) := by simp [rows,u64C]
@[simp] theorem perm_ints (l : List Int) (P : Prop) : (∀ x ∈ rows intC l,∀ c ∈ x,Perm c) ↔ True := by simp [rows,intC]
@[simp] theorem perm_rows {α : Type} (f : α -> List PV) (l : List α) : (∀ x ∈ rows f l,∀ c ∈ x,Perm c) ↔ ∀ x ∈ l,∀ c ∈ f x,Perm c := by simp [rows]
def nthL : List PV -> Nat -> PV
 | [],_ => .bot
 | c :: r,i => if i = 0 then c else nthL r (i - 1)
def dropL : Nat -> List PV -> List PV
 | _,[] => []
 | n,c :: r => if n = 0 then c :: r else dropL (n - 1) r
def takeL : Nat -> List PV -> List PV
 | _,[] => []
 | n,c :: r => if n = 0 then [] else c :: takeL (n - 1) r
theorem nthL_eq (cs : List PV) (i : Nat) : cs.getD i .bot = nthL cs i := by
 induction cs generalizing i with
 | nil => simp [nthL]
 | cons c r ih => cases i <;> simp [nthL,<- ih]
theorem dropL_eq (n : Nat) (cs : List PV) : cs.drop n = dropL n cs := by
 induction cs generalizing n with
 | nil => simp [dropL]
 | cons c r ih => cases n <;> simp [dropL,<- ih]
theorem takeL_eq (n : Nat) (cs : List PV) : cs.take n = takeL n cs := by
 induction cs generalizing n with
 | nil => simp [takeL]
 | cons c r ih => cases n <;> simp [takeL,<- ih]
@[push_cast] theorem nthL_nil (i : Nat) : nthL [] i = .bot := _root_.id rfl
@[push_cast] theorem nthL_cons (c : PV) (r : List PV) (i : Nat) : nthL (c :: r) i = if i = 0 then c else nthL r (i - 1) := _root_.id rfl
@[push_cast] theorem dropL_nil (n : Nat) : dropL n [] = [] := _root_.id rfl
@[push_cast] theorem dropL_cons (n : Nat) (c : PV) (r : List PV) : dropL n (c :: r) = if n = 0 then c :: r else dropL (n - 1) r := _root_.id rfl
@[push_cast] theorem takeL_nil (n : Nat) : takeL n [] = [] := _root_.id rfl
@[push_cast] theorem takeL_cons (n : Nat) (c : PV) (r : List PV) : takeL n (c :: r) = if n = 0 then [] else c :: takeL (n - 1) r := _root_.id rfl
@[push_cast] theorem ldc_one (sz off : Nat) (cs : List PV) : ldc false sz off cs = nthL cs off := nthL_eq cs off
@[push_cast] theorem ldc_agg (sz off : Nat) (cs : List PV) : ldc true sz off cs = .agg (takeL sz (dropL off cs)) := by simp only [ldc,cond_true,takeL_eq,dropL_eq]
@[push_cast] theorem spl_nil (cs : List PV) (i : Nat) : spl cs i [] = cs := by simp [spl]
@[push_cast] theorem spl_cons (x : PV) (xs : List PV) (i : Nat) (c : PV) (new : List PV) : spl (x :: xs) i (c :: new) = if i = 0 then c :: spl xs 0 new else x :: spl xs (i - 1) (c :: new) := by
 cases i with
 | zero => simp [spl]
 | succ i =>
   simp [spl]
   rw [show i + 1 + (new.length + 1) = (i + (new.length + 1)) + 1 from by omega,List.drop_succ_cons]
theorem setR_cons (x : List PV) (xs : List (List PV)) (i : Nat) (v : List PV) : (x :: xs).set i v = if i = 0 then v :: xs else x :: xs.set (i - 1) v := by cases i <;> simp
theorem takeR_cons (n : Nat) (c : List PV) (r : List (List PV)) : (c :: r).take n = if n = 0 then [] else c :: r.take (n - 1) := by cases n <;> simp
theorem dropR_cons (n : Nat) (c : List PV) (r : List (List PV)) : (c :: r).drop n = if n = 0 then c :: r else r.drop (n - 1) := by cases n <;> simp
attribute [push_cast] setR_cons takeR_cons dropR_cons List.take_nil List.drop_nil
@[push_cast] theorem rep0 (z : List PV) : List.replicate 0 z = [] := _root_.id rfl
@[push_cast] theorem rep1 (z : List PV) : List.replicate 1 z = [z] := _root_.id rfl
@[push_cast] theorem rep2 (z : List PV) : List.replicate 2 z = [z,z] := _root_.id rfl
@[push_cast] theorem rep3 (z : List PV) : List.replicate 3 z = [z,z,z] := _root_.id rfl
@[push_cast] theorem rep4 (z : List PV) : List.replicate 4 z = [z,z,z,z] := _root_.id rfl
@[push_cast] theorem rep5 (z : List PV) : List.replicate 5 z = [z,z,z,z,z] := _root_.id rfl
@[push_cast] theorem rep6 (z : List PV) : List.replicate 6 z = [z,z,z,z,z,z] := _root_.id rfl
@[push_cast] theorem cellsOf_agg (cs : List PV) : cellsOf (.agg cs) = cs := _root_.id rfl
@[push_cast] theorem cellsOf_sc (v : Value) : cellsOf (.sc v) = [.sc v] := _root_.id rfl
@[push_cast] theorem cellsOf_nil : cellsOf .nil = [.nil] := _root_.id rfl
@[push_cast] theorem cellsOf_sl (p : Bool) (es : Nat) (xs : List (List PV)) : cellsOf (.sl p es xs) = [.sl p es xs] := _root_.id rfl
@[push_cast] theorem cellsOf_view (i lo n : Nat) : cellsOf (.view i lo n) = [.view i lo n] := _root_.id rfl
@[push_cast] theorem cellsOf_ptr (i n : Nat) : cellsOf (.ptr i n) = [.ptr i n] := _root_.id rfl
@[push_cast] theorem cellsOk_agg (cs : List PV) : cellsOk (.agg cs) = true := _root_.id rfl
@[push_cast] theorem cellsOk_sc (v : Value) : cellsOk (.sc v) = true := _root_.id rfl
@[push_cast] theorem cellsOk_nil : cellsOk .nil = true := _root_.id rfl
@[push_cast] theorem cellsOk_sl (p : Bool) (es : Nat) (xs : List (List PV)) : cellsOk (.sl p es xs) = true := _root_.id rfl
@[push_cast] theorem cellsOk_view (i lo n : Nat) : cellsOk (.view i lo n) = true := _root_.id rfl
@[push_cast] theorem cellsOk_ptr (i n : Nat) : cellsOk (.ptr i n) = true := _root_.id rfl
def pureL : List PV -> Bool
 | [] => true
 | c :: r => pureC c && pureL r
theorem pureL_eq (cs : List PV) : cs.all pureC = pureL cs := by induction cs <;> simp_all [pureL]
@[push_cast] theorem pureL_nil : pureL [] = true := _root_.id rfl
@[push_cast] theorem pureL_cons (c : PV) (r : List PV) : pureL (c :: r) = (pureC c && pureL r) := _root_.id rfl
@[push_cast] theorem pureC_sc (v : Value) : pureC (.sc v) = true := _root_.id rfl
@[push_cast] theorem pureC_nil : pureC .nil = true := _root_.id rfl
@[push_cast] theorem pureC_sl (p : Bool) (es : Nat) (xs : List (List PV)) : pureC (.sl p es xs) = true := _root_.id rfl
@[push_cast] theorem pureC_iptr (p : Bool) (cs : List PV) (o : Nat) : pureC (.iptr p cs o) = true := _root_.id rfl
attribute [push_cast] Bool.true_and Bool.and_true Bool.false_and Bool.and_false
@[push_cast] theorem ikLo_i64 : ikLo .i64 = -9223372036854775808 := _root_.id rfl
@[push_cast] theorem ikLo_u8 : ikLo .u8 = 0 := _root_.id rfl
@[push_cast] theorem ikLo_u64 : ikLo .u64 = 0 := _root_.id rfl
@[push_cast] theorem ikLo_i32 : ikLo .i32 = -2147483648 := _root_.id rfl
@[push_cast] theorem ikHi_i64 : ikHi .i64 = 9223372036854775807 := _root_.id rfl
@[push_cast] theorem ikHi_u8 : ikHi .u8 = 255 := _root_.id rfl
@[push_cast] theorem ikHi_u64 : ikHi .u64 = 18446744073709551615 := _root_.id rfl
@[push_cast] theorem ikHi_i32 : ikHi .i32 = 2147483647 := _root_.id rfl
@[push_cast] theorem ariF_add (a b : Int) : ariF .add a b = a + b := _root_.id rfl
@[push_cast] theorem ariF_sub (a b : Int) : ariF .sub a b = a - b := _root_.id rfl
@[push_cast] theorem ariF_mul (a b : Int) : ariF .mul a b = a * b := _root_.id rfl
@[push_cast] theorem dvdN_quo (a b : Int) : dvdN .quo a b = a / b := _root_.id rfl
@[push_cast] theorem dvdN_rem (a b : Int) : dvdN .rem a b = a % b := _root_.id rfl
@[push_cast] theorem dvdW_quo (k : IntKind) (a b : Int) : dvdW .quo k a b = k.wrap (a.tdiv b) := _root_.id rfl
@[push_cast] theorem dvdW_rem (k : IntKind) (a b : Int) : dvdW .rem k a b = a.tmod b := _root_.id rfl
@[push_cast] theorem cmpF_eql (a b : Int) : cmpF .eql a b = decide (a = b) := by
 show (a == b) = _
 by_cases h : a = b <;> simp [h]
@[push_cast] theorem cmpF_neq (a b : Int) : cmpF .neq a b = decide (a ≠ b) := by
 show (a != b) = _
 by_cases h : a = b <;> simp [h]
@[push_cast] theorem cmpF_lss (a b : Int) : cmpF .lss a b = decide (a < b) := _root_.id rfl
@[push_cast] theorem cmpF_leq (a b : Int) : cmpF .leq a b = decide (a <= b) := _root_.id rfl
@[push_cast] theorem cmpF_gtr (a b : Int) : cmpF .gtr a b = decide (b < a) := _root_.id rfl
@[push_cast] theorem cmpF_geq (a b : Int) : cmpF .geq a b = decide (b <= a) := _root_.id rfl
@[push_cast] theorem vc2_mk (k l : IntKind) (a b : Int) (f : IntKind -> Int -> IntKind -> Int -> Prop × PV) : vc2 (.sc (.int k a)) (.sc (.int l b)) f = f k a l b := _root_.id rfl
@[push_cast] theorem vc1_mk (k : IntKind) (a : Int) (f : IntKind -> Int -> Prop × PV) : vc1 (.sc (.int k a)) f = f k a := _root_.id rfl
section
variable (P : Env)
def qS (d : Option Nat) (x : Prop × PV) (r : List AO) (st : St) (K : St -> Prop) : Prop := x.1 /\ opsK P r (st.put d x.2) K
@[push_cast] theorem qS_mk (d : Option Nat) (p : Prop) (v : PV) (r : List AO) (st : St) (K : St -> Prop) : qS P d (p,v) r st K = (p /\ opsK P r (st.put d v) K) := _root_.id rfl
@[congr] theorem qS_congr {d : Option Nat} {x x' : Prop × PV} {r : List AO} {st st' : St} {K : St -> Prop} (h1 : x = x') (h2 : st = st') : qS P d x r st K = qS P d x' r st' K := by rw [h1,h2]
@[congr] theorem opsK_congr {l : List AO} {st st' : St} {K : St -> Prop} (h : st = st') : opsK P l st K = opsK P l st' K := by rw [h]
@[congr] theorem awp_congr {c : AC} {st st' : St} {Q : Exit -> St -> Prop} (h : st = st') : awp P c Q st = awp P c Q st' := by rw [h]
@[congr] theorem condK_congr {v v' : PV} {x y : Prop} (h : v = v') : condK v x y = condK v' x y := by rw [h]
def ariG (op : BinOp) (nw : Bool) (k : IntKind) (k1 : IntKind) (a : Int) (k2 : IntKind) (b : Int) : Prop × PV :=
 bif nw then ((k1 = k /\ k2 = k) /\ ikLo k <= ariF op a b /\ ariF op a b <= ikHi k,.sc (.int k (ariF op a b))) else (k1 = k /\ k2 = k,.sc (.int k (k.wrap (ariF op a b))))
@[push_cast] theorem ariG_t (op : BinOp) (k k1 k2 : IntKind) (a b : Int) : ariG op true k k1 a k2 b = ((k1 = k /\ k2 = k) /\ ikLo k <= ariF op a b /\ ariF op a b <= ikHi k,.sc (.int k (ariF op a b))) := _root_.id rfl
@[push_cast] theorem ariG_f (op : BinOp) (k k1 k2 : IntKind) (a b : Int) : ariG op false k k1 a k2 b = (k1 = k /\ k2 = k,.sc (.int k (k.wrap (ariF op a b)))) := _root_.id rfl
def dvdG (op : BinOp) (nn : Bool) (k : IntKind) (k1 : IntKind) (a : Int) (k2 : IntKind) (b : Int) : Prop × PV :=
 bif nn then ((k1 = k /\ k2 = k) /\ 0 <= a /\ a <= ikHi k /\ 0 < b,.sc (.int k (dvdN op a b))) else ((k1 = k /\ k2 = k) /\ b ≠ 0,.sc (.int k (dvdW op k a b)))
@[push_cast] theorem dvdG_t (op : BinOp) (k k1 k2 : IntKind) (a b : Int) : dvdG op true k k1 a k2 b = ((k1 = k /\ k2 = k) /\ 0 <= a /\ a <= ikHi k /\ 0 < b,.sc (.int k (dvdN op a b))) := _root_.id rfl
@[push_cast] theorem dvdG_f (op : BinOp) (k k1 k2 : IntKind) (a b : Int) : dvdG op false k k1 a k2 b = ((k1 = k /\ k2 = k) /\ b ≠ 0,.sc (.int k (dvdW op k a b))) := _root_.id rfl
def bitG (op : BinOp) (k : IntKind) (k1 : IntKind) (a : Int) (k2 : IntKind) (b : Int) : Prop × PV := (k1 = k /\ k2 = k,.sc (.int k (bitF op k a b)))
@[push_cast] theorem bitG_eq (op : BinOp) (k k1 k2 : IntKind) (a b : Int) : bitG op k k1 a k2 b = (k1 = k /\ k2 = k,.sc (.int k (bitF op k a b))) := _root_.id rfl
def shfG (op : BinOp) (k : IntKind) (k1 : IntKind) (a : Int) (_ : IntKind) (b : Int) : Prop × PV := (k1 = k /\ 0 <= b,.sc (.int k (shfF op k a b)))
@[push_cast] theorem shfG_eq (op : BinOp) (k k1 k2 : IntKind) (a b : Int) : shfG op k k1 a k2 b = (k1 = k /\ 0 <= b,.sc (.int k (shfF op k a b))) := _root_.id rfl
def cmpG (op : BinOp) (k : IntKind) (k1 : IntKind) (a : Int) (k2 : IntKind) (b : Int) : Prop × PV := (k1 = k /\ k2 = k,.sc (.bool (cmpF op a b)))
@[push_cast] theorem cmpG_eq (op : BinOp) (k k1 k2 : IntKind) (a b : Int) : cmpG op k k1 a k2 b = (k1 = k /\ k2 = k,.sc (.bool (cmpF op a b))) := _root_.id rfl
def mnG (mx : Bool) (k1 : IntKind) (a : Int) (k2 : IntKind) (b : Int) : Prop × PV := (k1 = k2,.sc (.int k1 (bif mx then max a b else min a b)))
@[push_cast] theorem mnG_eq (mx : Bool) (k1 k2 : IntKind) (a b : Int) : mnG mx k1 a k2 b = (k1 = k2,.sc (.int k1 (bif mx then max a b else min a b))) := _root_.id rfl
def negG (k k1 : IntKind) (a : Int) : Prop × PV := (k1 = k,.sc (.int k (k.wrap (0 - a))))
@[push_cast] theorem negG_eq (k k1 : IntKind) (a : Int) : negG k k1 a = (k1 = k,.sc (.int k (k.wrap (0 - a)))) := _root_.id rfl
def cnvG (nw : Bool) (k : IntKind) (_ : IntKind) (a : Int) : Prop × PV := bif nw then (ikLo k <= a /\ a <= ikHi k,.sc (.int k a)) else (True,.sc (.int k (k.wrap a)))
@[push_cast] theorem cnvG_t (k k1 : IntKind) (a : Int) : cnvG true k k1 a = (ikLo k <= a /\ a <= ikHi k,.sc (.int k a)) := _root_.id rfl
@[push_cast] theorem cnvG_f (k k1 : IntKind) (a : Int) : cnvG false k k1 a = (True,.sc (.int k (k.wrap a))) := _root_.id rfl
def eqbV (ng : Bool) : PV -> PV -> Prop × PV
 | .sc (.bool a),.sc (.bool b) => (True,.sc (.bool (bif ng then a != b else a == b)))
 | _,_ => (False,.bot)
@[push_cast] theorem eqbV_mk (ng a b : Bool) : eqbV ng (.sc (.bool a)) (.sc (.bool b)) = (True,.sc (.bool (bif ng then a != b else a == b))) := _root_.id rfl
def eqaV (ng : Bool) (n : Nat) : PV -> PV -> Prop × PV
 | .agg cs,.agg ds => match eqCells cs ds with | some r => (cs.length = n /\ ds.length = n,.sc (.bool (bif ng then !r else r))) | none => (False,.bot)
 | _,_ => (False,.bot)
def eqaO (ng : Bool) (n : Nat) (cs ds : List PV) : Option Bool -> Prop × PV
 | some r => (cs.length = n /\ ds.length = n,.sc (.bool (bif ng then !r else r)))
 | none => (False,.bot)
@[push_cast] theorem eqaO_some (ng : Bool) (n : Nat) (cs ds : List PV) (r : Bool) : eqaO ng n cs ds (some r) = (cs.length = n /\ ds.length = n,.sc (.bool (bif ng then !r else r))) := _root_.id rfl
@[push_cast] theorem eqaV_mk (ng : Bool) (n : Nat) (cs ds : List PV) : eqaV ng n (.agg cs) (.agg ds) = eqaO ng n cs ds (eqCells cs ds) := by
 show (match eqCells cs ds with | some r => _ | none => _) = _
 cases eqCells cs ds <;> rfl
@[push_cast] theorem eqCells_nil : eqCells [] [] = some true := _root_.id rfl
@[push_cast] theorem eqCells_cons (k l : IntKind) (a b : Int) (r s : List PV) : eqCells (.sc (.int k a) :: r) (.sc (.int l b) :: s) = if k = l then (eqCells r s).map (decide (a = b) && ·) else none := by
 have : (a == b) = decide (a = b) := by by_cases h : a = b <;> simp [h]
 simp only [eqCells,this]
attribute [push_cast] Option.map_some Option.map_none
def notV : PV -> Prop × PV
 | .sc (.bool b) => (True,.sc (.bool (!b)))
 | _ => (False,.bot)
@[push_cast] theorem notV_mk (b : Bool) : notV (.sc (.bool b)) = (True,.sc (.bool (!b))) := _root_.id rfl
def lenV : PV -> Prop × PV
 | .view _ _ n => (True,.int n)
 | .sl _ _ xs => (True,.int xs.length)
 | .nil => (True,.int 0)
 | .bv _ _ n => (True,.int n)
 | _ => (False,.bot)
@[push_cast] theorem lenV_bv (i e n : Nat) : lenV (.bv i e n) = (True,.sc (.int .i64 n)) := _root_.id rfl
@[push_cast] theorem lenV_view (i lo n : Nat) : lenV (.view i lo n) = (True,.sc (.int .i64 n)) := _root_.id rfl
@[push_cast] theorem lenV_sl (p : Bool) (es : Nat) (xs : List (List PV)) : lenV (.sl p es xs) = (True,.sc (.int .i64 xs.length)) := _root_.id rfl
@[push_cast] theorem lenV_nil : lenV .nil = (True,.sc (.int .i64 0)) := _root_.id rfl
def faV (off : Nat) : PV -> Prop × PV
 | .ptr id o => (True,.ptr id (o + off))
 | .eptr id i o => (True,.eptr id i (o + off))
 | .iptr p cs o => (True,.iptr p cs (o + off))
 | _ => (False,.bot)
@[push_cast] theorem faV_ptr (off id o : Nat) : faV off (.ptr id o) = (True,.ptr id (o + off)) := _root_.id rfl
@[push_cast] theorem faV_eptr (off id i o : Nat) : faV off (.eptr id i o) = (True,.eptr id i (o + off)) := _root_.id rfl
@[push_cast] theorem faV_iptr (off : Nat) (p : Bool) (cs : List PV) (o : Nat) : faV off (.iptr p cs o) = (True,.iptr p cs (o + off)) := _root_.id rfl
def flV (agg : Bool) (off sz : Nat) : PV -> Prop × PV
 | .agg cs => (off + sz <= cs.length,ldc agg sz off cs)
 | _ => (False,.bot)
@[push_cast] theorem flV_agg (agg : Bool) (off sz : Nat) (cs : List PV) : flV agg off sz (.agg cs) = (off + sz <= cs.length,ldc agg sz off cs) := _root_.id rfl
def ixsA (es id lo n : Nat) (j : Int) : Option Arr -> Prop × PV
 | some A => (A.es = es /\ 0 <= j /\ j < n,.eptr id (lo + j.toNat) 0)
 | none => (False,.bot)
def ixsV (st : St) (es : Nat) : PV -> PV -> Prop × PV
 | .view id lo n,.sc (.int _ j) => ixsA es id lo n j (lk st.a id)
 | .sl p es' xs,.sc (.int _ j) => (es' = es /\ 0 <= j /\ j < xs.length,.iptr p (xs.getD j.toNat []) 0)
 | .bv id es' n,.sc (.int _ j) => (es' = es /\ 0 <= j /\ j < n,.ptr id (j.toNat * es))
 | _,_ => (False,.bot)
@[push_cast] theorem ixsV_bv (st : St) (es id es' n : Nat) (k : IntKind) (j : Int) : ixsV st es (.bv id es' n) (.sc (.int k j)) = (es' = es /\ 0 <= j /\ j < n,.ptr id (j.toNat * es)) := _root_.id rfl
@[push_cast] theorem ixsA_some (es id lo n : Nat) (j : Int) (e t : Nat) (xs : List (List PV)) : ixsA es id lo n j (some ⟨e,t,xs⟩) = (e = es /\ 0 <= j /\ j < n,.eptr id (lo + j.toNat) 0) := _root_.id rfl
@[push_cast] theorem ixsV_view (s : List (Nat × PV)) (b : List (Nat × List PV)) (a : List (Nat × Arr)) (m : List (Nat × Mp)) (es id lo n : Nat) (k : IntKind) (j : Int) : ixsV ⟨s,b,a,m⟩ es (.view id lo n) (.sc (.int k j)) = ixsA es id lo n j (lk a id) := _root_.id rfl
@[push_cast] theorem ixsV_sl (st : St) (es : Nat) (p : Bool) (es' : Nat) (xs : List (List PV)) (k : IntKind) (j : Int) : ixsV st es (.sl p es' xs) (.sc (.int k j)) = (es' = es /\ 0 <= j /\ j < xs.length,.iptr p (xs.getD j.toNat []) 0) := _root_.id rfl
def ixaV (n es : Nat) : PV -> PV -> Prop × PV
 | .ptr id o,.sc (.int _ j) => (0 <= j /\ j < n,.ptr id (o + j.toNat * es))
 | .eptr id k o,.sc (.int _ j) => (0 <= j /\ j < n,.eptr id k (o + j.toNat * es))
 | .iptr p cs o,.sc (.int _ j) => (0 <= j /\ j < n,.iptr p cs (o + j.toNat * es))
 | _,_ => (False,.bot)
@[push_cast] theorem ixaV_ptr (n es id o : Nat) (k : IntKind) (j : Int) : ixaV n es (.ptr id o) (.sc (.int k j)) = (0 <= j /\ j < n,.ptr id (o + j.toNat * es)) := _root_.id rfl
@[push_cast] theorem ixaV_eptr (n es id i o : Nat) (k : IntKind) (j : Int) : ixaV n es (.eptr id i o) (.sc (.int k j)) = (0 <= j /\ j < n,.eptr id i (o + j.toNat * es)) := _root_.id rfl
@[push_cast] theorem ixaV_iptr (n es : Nat) (p : Bool) (cs : List PV) (o : Nat) (k : IntKind) (j : Int) : ixaV n es (.iptr p cs o) (.sc (.int k j)) = (0 <= j /\ j < n,.iptr p cs (o + j.toNat * es)) := _root_.id rfl
def ixvV (agg : Bool) (n es : Nat) : PV -> PV -> Prop × PV
 | .agg cs,.sc (.int _ j) => (0 <= j /\ j < n /\ j.toNat * es + es <= cs.length,ldc agg es (j.toNat * es) cs)
 | _,_ => (False,.bot)
@[push_cast] theorem ixvV_agg (agg : Bool) (n es : Nat) (cs : List PV) (k : IntKind) (j : Int) : ixvV agg n es (.agg cs) (.sc (.int k j)) = (0 <= j /\ j < n /\ j.toNat * es + es <= cs.length,ldc agg es (j.toNat * es) cs) := _root_.id rfl
def extV (i : Nat) : PV -> Prop × PV
 | .tup cs => (i < cs.length,cs.getD i .bot)
 | _ => (False,.bot)
@[push_cast] theorem extV_tup (i : Nat) (cs : List PV) : extV i (.tup cs) = (i < cs.length,nthL cs i) := by simp only [extV,nthL_eq]
def nckV : PV -> Prop × PV
 | .ptr id o => (True,.ptr id o)
 | .eptr id i o => (True,.eptr id i o)
 | .iptr p cs o => (True,.iptr p cs o)
 | _ => (False,.bot)
@[push_cast] theorem nckV_ptr (id o : Nat) : nckV (.ptr id o) = (True,.ptr id o) := _root_.id rfl
@[push_cast] theorem nckV_eptr (id i o : Nat) : nckV (.eptr id i o) = (True,.eptr id i o) := _root_.id rfl
@[push_cast] theorem nckV_iptr (p : Bool) (cs : List PV) (o : Nat) : nckV (.iptr p cs o) = (True,.iptr p cs o) := _root_.id rfl
def pickV (c x y : PV) : Prop × PV := match c with | .sc (.bool true) => (True,x) | .sc (.bool false) => (True,y) | _ => (False,.bot)
@[push_cast] theorem pickV_t (x y : PV) : pickV (.sc (.bool true)) x y = (True,x) := _root_.id rfl
@[push_cast] theorem pickV_f (x y : PV) : pickV (.sc (.bool false)) x y = (True,y) := _root_.id rfl
def andQ {α : Type} (p : Prop) (q : Prop × α) : Prop × α := (p /\ q.1,q.2)
@[push_cast] theorem andQ_mk {α : Type} (p a : Prop) (b : α) : andQ p (a,b) = (p /\ a,b) := _root_.id rfl
@[push_cast] theorem bldF_nil (st : St) (cs : List PV) : bldF st [] cs = (True,cs) := _root_.id rfl
@[push_cast] theorem bldF_cons (st : St) (off sz : Nat) (x : Opd) (r : List (Nat × Nat × Opd)) (cs : List PV) :
  bldF st ((off,sz,x) :: r) cs = andQ (cellsOk (x.ev st) = true /\ (cellsOf (x.ev st)).length = sz /\ off + sz <= cs.length) (bldF st r (spl cs off (cellsOf (x.ev st)))) := by
 simp only [bldF,andQ,and_assoc]
def aggQ (q : Prop × List PV) : Prop × PV := (q.1,.agg q.2)
@[push_cast] theorem aggQ_mk (p : Prop) (cs : List PV) : aggQ (p,cs) = (p,.agg cs) := _root_.id rfl
def rowV (agg : Bool) (sz off : Nat) (cs : List PV) : Prop × PV := (off + sz <= cs.length,ldc agg sz off cs)
def rowE (agg : Bool) (sz i off : Nat) (A : Arr) : Prop × PV := (i < A.xs.length /\ off + sz <= A.es,ldc agg sz off (A.xs.getD i []))
def ldB (agg : Bool) (sz off : Nat) : Option (List PV) -> Prop × PV
 | some cs => rowV agg sz off cs
 | none => (False,.bot)
def ldE (agg : Bool) (sz i off : Nat) : Option Arr -> Prop × PV
 | some A => rowE agg sz i off A
 | none => (False,.bot)
def ldV (st : St) (agg : Bool) (sz : Nat) : PV -> Prop × PV
 | .ptr id off => ldB agg sz off (lk st.b id)
 | .eptr id i off => ldE agg sz i off (lk st.a id)
 | .iptr _ cs off => rowV agg sz off cs
 | _ => (False,.bot)
@[push_cast] theorem ldB_some (agg : Bool) (sz off : Nat) (cs : List PV) : ldB agg sz off (some cs) = rowV agg sz off cs := _root_.id rfl
@[push_cast] theorem ldE_some (agg : Bool) (sz i off : Nat) (A : Arr) : ldE agg sz i off (some A) = rowE agg sz i off A := _root_.id rfl
@[push_cast] theorem ldV_ptr (s : List (Nat × PV)) (b : List (Nat × List PV)) (a : List (Nat × Arr)) (m : List (Nat × Mp)) (agg : Bool) (sz id off : Nat) : ldV ⟨s,b,a,m⟩ agg sz (.ptr id off) = ldB agg sz off (lk b id) := _root_.id rfl
@[push_cast] theorem ldV_eptr (s : List (Nat × PV)) (b : List (Nat × List PV)) (a : List (Nat × Arr)) (m : List (Nat × Mp)) (agg : Bool) (sz id i off : Nat) : ldV ⟨s,b,a,m⟩ agg sz (.eptr id i off) = ldE agg sz i off (lk a id) := _root_.id rfl
@[push_cast] theorem ldV_iptr (st : St) (agg : Bool) (sz : Nat) (p : Bool) (cs : List PV) (off : Nat) : ldV st agg sz (.iptr p cs off) = rowV agg sz off cs := _root_.id rfl
@[push_cast] theorem rowV_cons (agg : Bool) (sz off : Nat) (c : PV) (cs : List PV) : rowV agg sz off (c :: cs) = (off + sz <= (c :: cs).length,ldc agg sz off (c :: cs)) := _root_.id rfl
@[push_cast] theorem rowE_cons (agg : Bool) (sz i off es ty : Nat) (x : List PV) (xs : List (List PV)) : rowE agg sz i off ⟨es,ty,x :: xs⟩ = (i < (x :: xs).length /\ off + sz <= es,ldc agg sz off ((x :: xs).getD i [])) := _root_.id rfl
@[push_cast] theorem qS_row {α : Type} [Inhabited α] (d : Option Nat) (agg : Bool) (sz off i : Nat) (f : α -> List PV) (l : List α) (r : List AO) (st : St) (K : St -> Prop) (hs : 0 < sz) :
  qS P d (rowV agg sz off ((rows f l).getD i [])) r st K = (i < l.length /\ qS P d (rowV agg sz off (f (l.getD i default))) r st K) := by
 by_cases h : i < l.length
 ·rw [rows_getD f l h]; simp [h]
 ·have : (rows f l).getD i [] = [] := by simp [rows,List.getD_eq_getElem?_getD,List.getElem?_eq_none (show l.length <= i by omega)]
  rw [this]
  simp only [qS,rowV,List.length_nil,h,false_and,eq_iff_iff,iff_false,not_and]
  intro h2; omega
@[push_cast] theorem qS_rowE {α : Type} [Inhabited α] (d : Option Nat) (agg : Bool) (sz off i es ty : Nat) (f : α -> List PV) (l : List α) (r : List AO) (st : St) (K : St -> Prop) :
  qS P d (rowE agg sz i off ⟨es,ty,rows f l⟩) r st K = ((i < l.length /\ off + sz <= es) /\ opsK P r (st.put d (ldc agg sz off (f (l.getD i default)))) K) := by
 by_cases h : i < l.length
 ·simp only [qS,rowE,rows_getD f l h,rows_length]
 ·simp [qS,rowE,h,rows_length]
def slcQ (es : Nat) (v : PV) (A : Option Arr) (q : Option (Int × Int)) : Prop × PV :=
 match v,A,q with
 | .view id l n,some A,some (p,q) => (A.es = es /\ 0 <= p /\ p <= q /\ q <= n,.view id (l + p.toNat) (q.toNat - p.toNat))
 | .sl pm es' xs,_,some (p,q) => (es' = es /\ 0 <= p /\ p <= q /\ q <= xs.length,.sl pm es ((xs.take q.toNat).drop p.toNat))
 | .nil,_,some (p,q) => (p = 0 /\ q = 0,.nil)
 | _,_,_ => (False,.bot)
def slcA (st : St) : PV -> Option Arr
 | .view id _ _ => lk st.a id
 | _ => none
def slcN : PV -> Nat
 | .view _ _ n => n
 | .sl _ _ xs => xs.length
 | _ => 0
@[push_cast] theorem slcA_view (s : List (Nat × PV)) (b : List (Nat × List PV)) (a : List (Nat × Arr)) (m : List (Nat × Mp)) (id l n : Nat) : slcA ⟨s,b,a,m⟩ (.view id l n) = lk a id := _root_.id rfl
@[push_cast] theorem slcA_sl (st : St) (p : Bool) (es : Nat) (xs : List (List PV)) : slcA st (.sl p es xs) = none := _root_.id rfl
@[push_cast] theorem slcA_nil (st : St) : slcA st .nil = none := _root_.id rfl
@[push_cast] theorem slcN_view (id l n : Nat) : slcN (.view id l n) = n := _root_.id rfl
@[push_cast] theorem slcN_sl (p : Bool) (es : Nat) (xs : List (List PV)) : slcN (.sl p es xs) = xs.length := _root_.id rfl
@[push_cast] theorem slcN_nil : slcN .nil = 0 := _root_.id rfl
@[push_cast] theorem slcQ_view (es id l n e t : Nat) (xs : List (List PV)) (p q : Int) : slcQ es (.view id l n) (some ⟨e,t,xs⟩) (some (p,q)) = (e = es /\ 0 <= p /\ p <= q /\ q <= n,.view id (l + p.toNat) (q.toNat - p.toNat)) := _root_.id rfl
@[push_cast] theorem slcQ_sl (es : Nat) (pm : Bool) (es' : Nat) (xs : List (List PV)) (p q : Int) : slcQ es (.sl pm es' xs) none (some (p,q)) = (es' = es /\ 0 <= p /\ p <= q /\ q <= xs.length,.sl pm es ((xs.take q.toNat).drop p.toNat)) := _root_.id rfl
@[push_cast] theorem slcQ_nil (es : Nat) (p q : Int) : slcQ es .nil none (some (p,q)) = (p = 0 /\ q = 0,.nil) := _root_.id rfl
def slcI (v : PV) : Option Int := match v with | .sc (.int _ a) => some a | _ => none
def slcP (a b : Option Int) : Option (Int × Int) := match a,b with | some a,some b => some (a,b) | _,_ => none
@[push_cast] theorem slcI_mk (k : IntKind) (a : Int) : slcI (.sc (.int k a)) = some a := _root_.id rfl
@[push_cast] theorem slcP_mk (a b : Int) : slcP (some a) (some b) = some (a,b) := _root_.id rfl
@[push_cast] theorem slcB_nn (st : St) (n : Nat) : slcB st n none none = some (0,(n : Int)) := _root_.id rfl
@[push_cast] theorem slcB_sn (st : St) (n : Nat) (x : Opd) : slcB st n (some x) none = slcP (slcI (x.ev st)) (some (n : Int)) := by
 simp only [slcB,slcI]; split <;> simp_all [slcP]
@[push_cast] theorem slcB_ns (st : St) (n : Nat) (x : Opd) : slcB st n none (some x) = slcP (some 0) (slcI (x.ev st)) := by
 simp only [slcB,slcI]; split <;> simp_all [slcP]
@[push_cast] theorem slcB_ss (st : St) (n : Nat) (x y : Opd) : slcB st n (some x) (some y) = slcP (slcI (x.ev st)) (slcI (y.ev st)) := by
 simp only [slcB,slcI]
 generalize x.ev st = u
 generalize y.ev st = v
 cases u with
 | sc u => cases v with
   | sc v => cases u <;> cases v <;> rfl
   | _ => cases u <;> rfl
 | _ => cases v <;> rfl
variable (d : Option Nat) (r : List AO) (st : St) (K : St -> Prop)
@[push_cast] theorem o_nil : opsK P [] st K = K st := _root_.id rfl
@[push_cast] theorem o_mv (x : Opd) : opsK P (⟨d,none,.mv x⟩ :: r) st K = opsK P r (st.put d (x.ev st)) K := by
 simp only [opsK,grdK,opK,aev,isHeavy,Bool.false_eq_true,if_false,true_and]
@[push_cast] theorem o_ari (op : BinOp) (nw : Bool) (k : IntKind) (x y : Opd) : opsK P (⟨d,none,.ari op nw k x y⟩ :: r) st K = qS P d (vc2 (x.ev st) (y.ev st) (ariG op nw k)) r st K := _root_.id rfl
@[push_cast] theorem o_dvd (op : BinOp) (nw : Bool) (k : IntKind) (x y : Opd) : opsK P (⟨d,none,.dvd op nw k x y⟩ :: r) st K = qS P d (vc2 (x.ev st) (y.ev st) (dvdG op nw k)) r st K := _root_.id rfl
@[push_cast] theorem o_bit (op : BinOp) (k : IntKind) (x y : Opd) : opsK P (⟨d,none,.bit op k x y⟩ :: r) st K = qS P d (vc2 (x.ev st) (y.ev st) (bitG op k)) r st K := _root_.id rfl
@[push_cast] theorem o_shf (op : BinOp) (k : IntKind) (x y : Opd) : opsK P (⟨d,none,.shf op k x y⟩ :: r) st K = qS P d (vc2 (x.ev st) (y.ev st) (shfG op k)) r st K := _root_.id rfl
@[push_cast] theorem o_cmp (op : BinOp) (k : IntKind) (x y : Opd) : opsK P (⟨d,none,.cmp op k x y⟩ :: r) st K = qS P d (vc2 (x.ev st) (y.ev st) (cmpG op k)) r st K := _root_.id rfl
@[push_cast] theorem o_mn (mx : Bool) (x y : Opd) : opsK P (⟨d,none,.mn mx x y⟩ :: r) st K = qS P d (vc2 (x.ev st) (y.ev st) (mnG mx)) r st K := _root_.id rfl
@[push_cast] theorem o_neg (k : IntKind) (x : Opd) : opsK P (⟨d,none,.neg k x⟩ :: r) st K = qS P d (vc1 (x.ev st) (negG k)) r st K := _root_.id rfl
@[push_cast] theorem o_cnv (nw : Bool) (k : IntKind) (x : Opd) : opsK P (⟨d,none,.cnv nw k x⟩ :: r) st K = qS P d (vc1 (x.ev st) (cnvG nw k)) r st K := _root_.id rfl
@[push_cast] theorem o_eqb (ng : Bool) (x y : Opd) : opsK P (⟨d,none,.eqb ng x y⟩ :: r) st K = qS P d (eqbV ng (x.ev st) (y.ev st)) r st K := _root_.id rfl
@[push_cast] theorem o_eqa (ng : Bool) (n : Nat) (x y : Opd) : opsK P (⟨d,none,.eqa ng n x y⟩ :: r) st K = qS P d (eqaV ng n (x.ev st) (y.ev st)) r st K := _root_.id rfl
@[push_cast] theorem o_not (x : Opd) : opsK P (⟨d,none,.not x⟩ :: r) st K = qS P d (notV (x.ev st)) r st K := _root_.id rfl
@[push_cast] theorem o_len (x : Opd) : opsK P (⟨d,none,.len x⟩ :: r) st K = qS P d (lenV (x.ev st)) r st K := _root_.id rfl
@[push_cast] theorem o_lenA (n : Nat) (x : Opd) : opsK P (⟨d,none,.lenA n x⟩ :: r) st K = opsK P r (st.put d (.sc (.int .i64 n))) K := by
 simp only [opsK,grdK,opK,aev,isHeavy,Bool.false_eq_true,if_false,true_and]
@[push_cast] theorem o_fa (off : Nat) (x : Opd) : opsK P (⟨d,none,.fa off x⟩ :: r) st K = qS P d (faV off (x.ev st)) r st K := _root_.id rfl
@[push_cast] theorem o_fl (agg : Bool) (off sz : Nat) (x : Opd) : opsK P (⟨d,none,.fl agg off sz x⟩ :: r) st K = qS P d (flV agg off sz (x.ev st)) r st K := _root_.id rfl
@[push_cast] theorem o_ixs (es : Nat) (x i : Opd) : opsK P (⟨d,none,.ixs es x i⟩ :: r) st K = qS P d (ixsV st es (x.ev st) (i.ev st)) r st K := _root_.id rfl
@[push_cast] theorem o_ixa (n es : Nat) (x i : Opd) : opsK P (⟨d,none,.ixa n es x i⟩ :: r) st K = qS P d (ixaV n es (x.ev st) (i.ev st)) r st K := _root_.id rfl
@[push_cast] theorem o_ixv (agg : Bool) (n es : Nat) (x i : Opd) : opsK P (⟨d,none,.ixv agg n es x i⟩ :: r) st K = qS P d (ixvV agg n es (x.ev st) (i.ev st)) r st K := _root_.id rfl
@[push_cast] theorem o_ext (x : Opd) (i : Nat) : opsK P (⟨d,none,.ext x i⟩ :: r) st K = qS P d (extV i (x.ev st)) r st K := _root_.id rfl
@[push_cast] theorem o_nck (x : Opd) : opsK P (⟨d,none,.nck x⟩ :: r) st K = qS P d (nckV (x.ev st)) r st K := _root_.id rfl
@[push_cast] theorem o_pick (c x y : Opd) : opsK P (⟨d,none,.pick c x y⟩ :: r) st K = qS P d (pickV (c.ev st) (x.ev st) (y.ev st)) r st K := _root_.id rfl
@[push_cast] theorem o_bld (zero : List PV) (parts : List (Nat × Nat × Opd)) : opsK P (⟨d,none,.bld zero parts⟩ :: r) st K = qS P d (aggQ (bldF st parts zero)) r st K := _root_.id rfl
@[push_cast] theorem o_ld (agg : Bool) (sz : Nat) (x : Opd) : opsK P (⟨d,none,.ld agg sz x⟩ :: r) st K = qS P d (ldV st agg sz (x.ev st)) r st K := _root_.id rfl
@[push_cast] theorem o_slc (es : Nat) (x : Opd) (lo hi : Option Opd) : opsK P (⟨d,none,.slc es x lo hi⟩ :: r) st K = qS P d (slcQ es (x.ev st) (slcA st (x.ev st)) (slcB st (slcN (x.ev st)) lo hi)) r st K := by
 have : aev st (.slc es x lo hi) = slcQ es (x.ev st) (slcA st (x.ev st)) (slcB st (slcN (x.ev st)) lo hi) := by
  simp only [aev]
  cases hx : x.ev st with
  | view id l n =>
    simp only [slcA,slcN]
    cases lk st.a id <;> cases slcB st n lo hi <;> rfl
  | sl pm es' xs => simp only [slcA,slcN]; cases slcB st xs.length lo hi <;> rfl
  | nil => simp only [slcA,slcN]; cases slcB st 0 lo hi <;> rfl
  | _ => rfl
 simp only [opsK,grdK,opK,isHeavy,Bool.false_eq_true,if_false,this,qS]
end
end Go.Vc
