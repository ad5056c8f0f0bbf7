/- VcZt GXa GX GXb GXc TxtX GY GYa TxtU GE: lemmas -/
import Derived.Test.YtdmkfgkmnpohlaaGreatPart10
import Derived.Test.YtdmkfgkmnpohlaaGreatPart14
import Derived.Test.YtdmkfgkmnpohlaaGreatPart13
import Derived.Test.YtdmkfgkmnpohlaaGreatPart06
import Derived.Test.YtdmkfgkmnpohlaaGreatChecked
import Derived.Test.YtdmkfgkmnpohlaaGreatPart09
set_option linter.unusedSimpArgs false
set_option linter.unusedVariables false
open Nat (reduceEqDiff reduceAdd reduceSub reduceMul reduceLT reduceLeDiff)
open Int (reduceToNat reduceNeg)
namespace Go.Vc
open Go Go.RowKit
def slD (V : Nat -> PV) (dn : List Nat) : List XO -> List (Nat × PV) -> List (Nat × PV)
 | [],s => s
 | x :: r,s => slD V dn r (if dn.contains x.i = true then (match x.o.d with | some d => up s d (V x.i) | none => s) else s)
def putD (V : Nat -> PV) (x : XO) (s : List (Nat × PV)) : List (Nat × PV) := match x.o.d with | some d => up s d (V x.i) | none => s
theorem qFf (V : Nat -> PV) (dn : List Nat) (x : XO) (r : List XO) (s : List (Nat × PV)) : slD V dn (x :: r) s = slD V dn r (if dn.contains x.i = true then putD V x s else s) := rfl
def qFg : List XO -> Bool
 | [] => true
 | x :: r => r.all (fun y => x.i != y.i && (match x.o.d,y.o.d with | some d,some e => d != e | _,_ => true)) && qFg r
theorem qFh (V : Nat -> PV) {x y : XO} (h : ∀ d e,x.o.d = some d -> y.o.d = some e -> d ≠ e) (s : List (Nat × PV)) : putD V x (putD V y s) = putD V y (putD V x s) := by
 unfold putD
 cases hx : x.o.d with
 | none => cases y.o.d <;> rfl
 | some d =>
   cases hy : y.o.d with
   | none => rfl
   | some e => exact qa3 s _ _ (fun q => h d e hx hy q.symm)
theorem qFi {V : Nat -> PV} {dn : List Nat} {x : XO} : ∀ {r : List XO} (_ : ∀ y ∈ r,∀ d e,x.o.d = some d -> y.o.d = some e -> d ≠ e) (s : List (Nat × PV)),slD V dn r (putD V x s) = putD V x (slD V dn r s)
 | [],_,_ => rfl
 | y :: r, h, s => by
   rw [qFf,qFf]
   split
   ·rw [<- qFh V (h y (by simp)) s]
    exact qFi (fun z hz => h z (by simp [hz])) _
   ·exact qFi (fun z hz => h z (by simp [hz])) _
theorem qFj {x : XO} {r : List XO} (h : qFg (x :: r) = true) : (∀ y ∈ r,x.i ≠ y.i /\ ∀ d e,x.o.d = some d -> y.o.d = some e -> d ≠ e) /\ qFg r = true := by
 simp only [qFg,Bool.and_eq_true,List.all_eq_true] at h
 refine ⟨fun y hy => ?_,h.2⟩
 obtain ⟨h1,h2⟩ := h.1 y hy
 refine ⟨by simpa using h1,fun d e e1 e2 => ?_⟩
 rw [e1,e2] at h2
 simpa using h2
theorem qFk {V : Nat -> PV} {dn : List Nat} {i : Nat} : ∀ {r : List XO} (_ : ∀ y ∈ r,i ≠ y.i) (s : List (Nat × PV)),slD V (i :: dn) r s = slD V dn r s
 | [],_,_ => rfl
 | y :: r, h, s => by
   have e : (i :: dn).contains y.i = dn.contains y.i := by
    have := h y (by simp)
    simp [this.symm]
   rw [qFf,qFf,e]
   exact qFk (fun z hz => h z (by simp [hz])) _
theorem qFl {V : Nat -> PV} {dn : List Nat} {x : XO} (hnd : dn.contains x.i = false) : ∀ {ops : List XO} (_ : qFg ops = true) (_ : x ∈ ops) (s : List (Nat × PV)),slD V (x.i :: dn) ops s = putD V x (slD V dn ops s)
 | y :: r, h, hx, s => by
   obtain ⟨h1,h2⟩ := qFj h
   rw [qFf,qFf]
   rcases List.mem_cons.1 hx with rfl | hx
   ·rw [if_pos (by simp),hnd,if_neg (by decide),qFk (fun z hz => (h1 z hz).1),qFi fun z hz => (h1 z hz).2]
   ·have hne := (h1 x hx).1
    have e : (x.i :: dn).contains y.i = dn.contains y.i := by simp [hne]
    rw [e]
    exact qFl hnd h2 hx _
theorem qFm {V : Nat -> PV} {dn : List Nat} {j : Nat} : ∀ {r : List XO} (_ : r.all (fun y => y.o.d != some j) = true) (s : List (Nat × PV)),lk (slD V dn r s) j = lk s j
 | [],_,_ => rfl
 | y :: r, h, s => by
   simp only [List.all_cons,Bool.and_eq_true] at h
   rw [qFf,qFm h.2]
   split
   ·unfold putD
    split
    ·rename_i d hd
     rw [qa2,if_neg]
     intro e
     rw [hd,e] at h
     simp at h
    ·rfl
   ·rfl
theorem qFn {V : Nat -> PV} {dn : List Nat} {x : XO} {d : Nat} (hd : x.o.d = some d) (hdn : dn.contains x.i = true) : ∀ {ops : List XO} (_ : qFg ops = true) (_ : x ∈ ops) (s : List (Nat × PV)),lk (slD V dn ops s) d = some (V x.i)
 | y :: r, h, hx, s => by
   obtain ⟨h1,h2⟩ := qFj h
   rw [qFf]
   rcases List.mem_cons.1 hx with rfl | hx
   ·rw [if_pos hdn,qFm]
    ·unfold putD
     rw [hd]
     simp only
     rw [qa2,if_pos rfl]
    ·rw [List.all_eq_true]
     intro z hz
     have := (h1 z hz).2
     cases he : z.o.d with
     | none => rfl
     | some e =>
       have := this d e hd he
       simp [this.symm]
   ·exact qFn hd hdn h2 hx _
def qFo (ops : List XO) (dn : List Nat) : Prop := ∀ x ∈ ops,dn.contains x.i = true -> ∀ j ∈ x.deps,dn.contains j = true
theorem qFp : ∀ {l1 l2 : List Nat},l1.Nodup -> (∀ x ∈ l1,x ∈ l2) -> l1.length <= l2.length
 | [],_,_,_ => Nat.zero_le _
 | x :: l1, l2, h, hs => by
   rw [List.nodup_cons] at h
   have hx := hs x (by simp)
   have h1 := qFp (l1 := l1) (l2 := l2.erase x) h.2 fun y hy => (List.mem_erase_of_ne (fun e => h.1 (by rw [<- e]; exact hy))).2 (hs y (by simp [hy]))
   rw [List.length_erase_of_mem hx] at h1
   have := List.length_pos_of_mem hx
   rw [List.length_cons]
   omega
theorem qFq {ops : List XO} (h : qFg ops = true) {x y : XO} (hx : x ∈ ops) (hy : y ∈ ops) (e : x.i = y.i) : x = y := by
 induction ops with
 | nil => cases hx
 | cons z r ih =>
   obtain ⟨h1,h2⟩ := qFj h
   rcases List.mem_cons.1 hx with e1 | hx2
   ·rcases List.mem_cons.1 hy with e2 | hy2
    ·rw [e1,e2]
    ·exact absurd (by rw [<- e1,e]) (h1 y hy2).1
   ·rcases List.mem_cons.1 hy with e2 | hy2
    ·exact absurd (by rw [<- e2,e]) (h1 x hx2).1
    ·exact ih h2 hx2 hy2
theorem qFr {P : Env} {ops : List XO} {V : Nat -> PV} {s0 : List (Nat × PV)} (mem : List Nat -> List (Nat × List PV) × List (Nat × Arr) × List (Nat × Mp)) (hops : qFg ops = true) (hg : ops.all (fun x => x.o.g.isNone) = true)
  (step : ∀ x ∈ ops,∀ dn,rdyB dn x = true -> qFo ops dn -> ∀ K : St -> Prop,K ⟨putD V x (slD V dn ops s0),(mem (x.i :: dn)).1,(mem (x.i :: dn)).2.1,(mem (x.i :: dn)).2.2⟩ ->
   opK P x.o ⟨slD V dn ops s0,(mem dn).1,(mem dn).2.1,(mem dn).2.2⟩ K) {K : St -> Prop}
  (hK : ∀ dn,(∀ x ∈ ops,dn.contains x.i = true) -> K ⟨slD V dn ops s0,(mem dn).1,(mem dn).2.1,(mem dn).2.2⟩) :
  ∀ (n : Nat) (dn : List Nat),dn.length + n = ops.length -> dn.Nodup -> (∀ j ∈ dn,j ∈ ops.map (·.i)) -> qFo ops dn -> allK P ops n dn ⟨slD V dn ops s0,(mem dn).1,(mem dn).2.1,(mem dn).2.2⟩ K
 | 0, dn, hl, hn, hs, _ => by
   have hall : ∀ x ∈ ops,dn.contains x.i = true := fun x hx => by
    refine Classical.byContradiction fun hc => ?_
    have hm : x.i ∉ dn := by simpa using hc
    have := qFp (l1 := x.i :: dn) (l2 := ops.map (·.i)) (List.nodup_cons.2 ⟨hm,hn⟩) fun j hj => (List.mem_cons.1 hj).elim (fun e => by rw [e]; exact List.mem_map_of_mem hx) (hs j)
    simp at this
    omega
   exact ⟨List.all_eq_true.2 hall,hK dn hall⟩
 | n + 1, dn, hl, hn, hs, hc => by
   refine ⟨fun e => hK dn (List.all_eq_true.1 e),fun x hx hr => ?_⟩
   have h2 : x.o.g = none := by simpa using List.all_eq_true.1 hg x hx
   have hr2 := hr
   simp only [rdyB,Bool.and_eq_true,Bool.not_eq_true',List.all_eq_true] at hr2
   have hm : x.i ∉ dn := by simpa using hr2.1
   simp only [h2,grdK]
   refine step x hx dn hr hc _ ?_
   rw [<- qFl hr2.1 hops hx]
   refine qFr mem hops hg step hK n (x.i :: dn) (by simp; omega) (List.nodup_cons.2 ⟨hm,hn⟩) (fun j hj => (List.mem_cons.1 hj).elim (fun e => by rw [e]; exact List.mem_map_of_mem hx) (hs j)) ?_
   intro y hy hyd j hj
   rw [List.contains_cons,Bool.or_eq_true] at hyd ⊢
   rcases hyd with e | hyd
   ·have e : y.i = x.i := by simpa using e
    have : y = x := qFq hops hy hx e
    subst this
    exact .inr (hr2.2 j hj)
   ·exact .inr (hc y hy hyd j hj)
def dstB : Option Nat -> Nat -> Bool
 | some d,t => d == t
 | none,_ => false
def idxW : List XO -> Nat -> Option Nat
 | [],_ => none
 | x :: r,t => if dstB x.o.d t = true then some x.i else idxW r t
def knW (ops : List XO) (dn : List Nat) (t : Nat) : Prop := match idxW ops t with | none => True | some i => dn.contains i = true
def vlW (ops : List XO) (V : Nat -> PV) (s0 : List (Nat × PV)) (t : Nat) : PV := match idxW ops t with | none => getL s0 t | some i => V i
theorem dstB_iff {o : Option Nat} {t : Nat} : dstB o t = true ↔ o = some t := by cases o <;> simp [dstB]
theorem qFs : ∀ {ops : List XO} {t : Nat},idxW ops t = none -> ops.all (fun y => y.o.d != some t) = true
 | [],_,_ => rfl
 | x :: r, t, h => by
   unfold idxW at h
   split at h
   ·cases h
   ·rename_i hd
    rw [List.all_cons,qFs h,Bool.and_true]
    simp only [bne_iff_ne,ne_eq]
    exact fun e => hd (dstB_iff.2 e)
theorem qFt : ∀ {ops : List XO} {t i : Nat},idxW ops t = some i -> ∃ x ∈ ops,x.o.d = some t /\ x.i = i
 | [],_,_,h => by cases h
 | x :: r, t, i, h => by
   unfold idxW at h
   split at h
   ·rename_i hd
    injection h with h
    exact ⟨x,by simp,dstB_iff.1 hd,h⟩
   ·obtain ⟨y,hy,h2⟩ := qFt h
    exact ⟨y,by simp [hy],h2⟩
theorem qFu {ops : List XO} {V : Nat -> PV} {s0 : List (Nat × PV)} {dn : List Nat} (hops : qFg ops = true) {t : Nat} (h : knW ops dn t) : getL (slD V dn ops s0) t = vlW ops V s0 t := by
 unfold knW at h
 unfold vlW
 cases e : idxW ops t with
 | none => rw [<- qh5,qFm (qFs e),qh5]
 | some i =>
   rw [e] at h
   obtain ⟨x,hx,h1,rfl⟩ := qFt e
   rw [<- qh5,qFn h1 h hops hx]
   rfl
def slA (V : Nat -> PV) : List XO -> List (Nat × PV) -> List (Nat × PV)
 | [],s => s
 | x :: r,s => slA V r (putD V x s)
theorem qFv {V : Nat -> PV} {dn : List Nat} : ∀ {ops : List XO} (_ : ∀ x ∈ ops,dn.contains x.i = true) (s : List (Nat × PV)),slD V dn ops s = slA V ops s
 | [],_,_ => rfl
 | x :: r, h, s => by
   rw [qFf,if_pos (h x (by simp)),slA]
   exact qFv (fun y hy => h y (by simp [hy])) _
theorem qFw {q : PV -> Bool} : ∀ {s : List (Nat × PV)} {i : Nat} {v : PV},s.all (fun y => q y.2) = true -> q v = true -> (up s i v).all (fun y => q y.2) = true
 | [],_,_,_,hv => by simp [up,hv]
 | (k, u) :: r, i, v, h, hv => by
   rw [List.all_cons,Bool.and_eq_true] at h
   unfold up
   split
   ·rw [List.all_cons,hv,h.2]; rfl
   ·split
    ·rw [List.all_cons,hv,List.all_cons,h.1,h.2]; rfl
    ·rw [List.all_cons,h.1,qFw h.2 hv]; rfl
theorem qFx {V : Nat -> PV} {dn : List Nat} {q : PV -> Bool} : ∀ {ops : List XO} {s : List (Nat × PV)},s.all (fun y => q y.2) = true -> (∀ y ∈ ops,dn.contains y.i = true -> q (V y.i) = true) -> (slD V dn ops s).all (fun y => q y.2) = true
 | [],_,h,_ => h
 | x :: r, s, h, hv => by
   rw [qFf]
   refine qFx ?_ fun y hy => hv y (by simp [hy])
   split
   ·rename_i hx
    unfold putD
    split
    ·exact qFw h (hv x (by simp) hx)
    ·exact h
   ·exact h
theorem qFy {pb pa : Nat -> Bool} : ∀ {s : List (Nat × PV)},s.all (fun y => !y.2.toV pb pa) = true -> qiy pb pa s = s
 | [],_ => rfl
 | (k, u) :: r, h => by
   rw [List.all_cons,Bool.and_eq_true,Bool.not_eq_true'] at h
   rw [qiy,qFy h.2,h.1]
   rfl
theorem qFz {P : Env} {o : AO} {st : St} {K : St -> Prop} (hg : o.g = none) (h : opsK P [o] st K) : opK P o st K := by
 obtain ⟨d,g,op⟩ := o
 subst hg
 exact h
theorem qFA {dn : List Nat} {x : XO} (h : rdyB dn x = true) {j : Nat} (hj : j ∈ x.deps) : dn.contains j = true := by
 simp only [rdyB,Bool.and_eq_true,List.all_eq_true] at h
 exact h.2 j hj
theorem qFB {dn : List Nat} {x : XO} (h : rdyB dn x = true) : dn.contains x.i = false := by
 simp only [rdyB,Bool.and_eq_true,Bool.not_eq_true'] at h
 exact h.1
theorem qFC {ops : List XO} {dn : List Nat} {x y : XO} (hc : qFo ops dn) (hr : rdyB dn x = true) (hy : y ∈ ops) (hj : x.i ∈ y.deps) : dn.contains y.i = false := by
 cases h : dn.contains y.i with
 | false => rfl
 | true => exact absurd ((qFB hr).symm.trans (hc y hy h x.i hj)) (by decide)
theorem qFD {P : Env} {i id : Nat} {kd : KD} {zero : PV} {x k : Opd} {s : List (Nat × PV)} {b : List (Nat × List PV)} {a : List (Nat × Arr)} {m : List (Nat × Mp)} {K : St -> Prop} {kv : Value} {es : List (Value × PV)} {l : List Nat} {c : Nat}
  (hx : x.ev ⟨s,b,a,m⟩ = .mp id) (hk : keyV (k.ev ⟨s,b,a,m⟩) = some kv) (hm : lk m id = some ⟨kd,es,some (.stp l c)⟩) (hh : kd.has kv = true) (hn : mget es kv = none) (hz : qbO zero = true)
  (h : K ⟨up s i (.tup [zero,.sc (.int .i64 c)]),b,a,up m id ⟨kd,es ++ [(kv,zero)],some (.stp (l ++ [c]) (c + 1))⟩⟩) : opsK P [⟨some i,none,.men kd zero x k⟩] ⟨s,b,a,m⟩ K := by
 show (hev ⟨s,b,a,m⟩ (some i) (.men kd zero x k)).1 /\ K (hev ⟨s,b,a,m⟩ (some i) (.men kd zero x k)).2
 have e : hev ⟨s,b,a,m⟩ (some i) (.men kd zero x k) = (((kd = kd /\ kd.has kv = true) /\ mget es kv = none) /\ qbO zero = true,⟨up s i (.tup [zero,.sc (.int .i64 c)]),b,a,up m id ⟨kd,es ++ [(kv,zero)],some (.stp (l ++ [c]) (c + 1))⟩⟩) := by
  simp only [hev,hx,hk,hm]
  rfl
 rw [e]
 exact ⟨⟨⟨⟨rfl,hh⟩,hn⟩,hz⟩,h⟩
theorem qFE {P : Env} {id j : Nat} {n : Int} {kd : KD} {x t v : Opd} {s : List (Nat × PV)} {b : List (Nat × List PV)} {a : List (Nat × Arr)} {m : List (Nat × Mp)} {K : St -> Prop} {es : List (Value × PV)} {l : List Nat} {c : Nat}
  (hx : x.ev ⟨s,b,a,m⟩ = .mp id) (ht : t.ev ⟨s,b,a,m⟩ = .sc (.int .i64 n)) (hm : lk m id = some ⟨kd,es,some (.stp l c)⟩) (hj : l.findIdx? (fun (q : Nat) => (q : Int) == n) = some j) (hv : qbO (v.ev ⟨s,b,a,m⟩) = true)
  (h : K ⟨s,b,a,up m id ⟨kd,es.modify j fun y => (y.1,v.ev ⟨s,b,a,m⟩),none⟩⟩) : opsK P [⟨none,none,.est x t v⟩] ⟨s,b,a,m⟩ K := by
 show (hev ⟨s,b,a,m⟩ none (.est x t v)).1 /\ K (hev ⟨s,b,a,m⟩ none (.est x t v)).2
 have e : hev ⟨s,b,a,m⟩ none (.est x t v) = (qbO (v.ev ⟨s,b,a,m⟩) = true,⟨s,b,a,up m id ⟨kd,es.modify j fun y => (y.1,v.ev ⟨s,b,a,m⟩),none⟩⟩) := by
  simp only [hev,hx,ht,hm,hj]
 rw [e]
 exact ⟨hv,h⟩
theorem qFF {s : List (Nat × PV)} {b : List (Nat × List PV)} {a : List (Nat × Arr)} {m : List (Nat × Mp)} {t : Nat} {v : PV} (h : getL s t = v) : (Opd.t t).ev ⟨s,b,a,m⟩ = v := by
 rw [<- h]; exact qh5 s t
theorem qFG {P : Env} {t id : Nat} {c : AC} {Q : Exit -> St -> Prop} {s : List (Nat × PV)} {b : List (Nat × List PV)} {a : List (Nat × Arr)} {m : List (Nat × Mp)} {M : Mp} (h1 : getL s t = .mp id) (h2 : lk m id = some M)
  (h : ∀ l k,l.length = M.es.length -> awp P c Q ⟨s,b,a,up m id ⟨M.kd,M.es,some (.stp l k)⟩⟩) : awp P (.obs t c) Q ⟨s,b,a,m⟩ := by
 show obsK _ _ _
 unfold obsK
 rw [show St.get ⟨s,b,a,m⟩ t = .mp id by rw [<- h1]; exact qh5 s t]
 show (match lk m id with | some M => ∀ l c',l.length = M.es.length -> awp P c Q ⟨s,b,a,up m id ⟨M.kd,M.es,some (.stp l c')⟩⟩ | none => False)
 rw [h2]
 exact h
theorem qFH {P : Env} {ops : List XO} (V : Nat -> PV) {s0 : List (Nat × PV)} (mem : List Nat -> List (Nat × List PV) × List (Nat × Arr) × List (Nat × Mp)) (hops : qFg ops = true) (hg : ops.all (fun x => x.o.g.isNone) = true)
  (step : ∀ x ∈ ops,∀ (dn : List Nat) (S : List (Nat × PV)),rdyB dn x = true -> qFo ops dn -> (∀ t,knW ops dn t -> getL S t = vlW ops V s0 t) ->
   (∀ q : PV -> Bool,s0.all (fun y => q y.2) = true -> (∀ y ∈ ops,dn.contains y.i = true -> q (V y.i) = true) -> S.all (fun y => q y.2) = true) ->
   ∀ K : St -> Prop,K ⟨putD V x S,(mem (x.i :: dn)).1,(mem (x.i :: dn)).2.1,(mem (x.i :: dn)).2.2⟩ -> opsK P [x.o] ⟨S,(mem dn).1,(mem dn).2.1,(mem dn).2.2⟩ K) {K : St -> Prop}
  (hK : ∀ dn,(∀ x ∈ ops,dn.contains x.i = true) -> K ⟨slA V ops s0,(mem dn).1,(mem dn).2.1,(mem dn).2.2⟩) {st : St} (hst : st = ⟨s0,(mem []).1,(mem []).2.1,(mem []).2.2⟩) : allK P ops ops.length [] st K := by
 have h0 : slD V [] ops s0 = s0 := by
  have : ∀ (l : List XO) (s : List (Nat × PV)),slD V [] l s = s := by
   intro l
   induction l with
   | nil => exact fun _ => rfl
   | cons x r ih => exact fun s => by rw [qFf,if_neg (by simp)]; exact ih s
  exact this ops s0
 subst hst
 have key := qFr (P := P) (ops := ops) (V := V) (s0 := s0) mem hops hg (fun x hx dn hr hc K hk => qFz (by simpa using List.all_eq_true.1 hg x hx) (step x hx dn _ hr hc (fun t ht => qFu hops ht) (fun q h1 h2 => qFx h1 h2) K hk)) (K := K) (fun dn h => by rw [qFv h]; exact hK dn h) ops.length [] (by simp) .nil (fun j hj => by cases hj) (fun x _ h => by simp at h)
 rw [h0] at key
 exact key
end Go.Vc
namespace Go.Proofs.YtdmkfgkmnpohlaaGreat
open Go Go.Vc Txt
def keyR : Value := .agg #[.int .i64 1,.int .i64 0]
def v7 (c : Nat) : Nat -> PV
 | 0 => .mp 22
 | 1 => .ptr 12 0
 | 2 => .int 1
 | 3 => .ptr 12 1
 | 4 => .int 0
 | 5 => .agg [.int 1,.int 0]
 | 6 => .int 0
 | 7 => .ptr 12 2
 | 8 => .int 0
 | 9 => .int (shfF .shl .i64 1 0)
 | 10 => .int (Vc.bitF .or .i64 0 (shfF .shl .i64 1 0))
 | 11 => .tup [.int 0,.int c]
 | 12 => .int c
 | _ => .bot
def s7 : List (Nat × PV) := [(2,.sl false 1 (rows qk7 [true])),(5,.ptr 5 0),(7,.ptr 7 0),(8,.ptr 8 0),(9,.mp 21),(10,.mp 22),(12,.ptr 12 0),(24,.sl false 3 (rows qwA [⟨1,0,0⟩])),(25,.int 1),(26,.int 0)]
def b7 (r : Int) : List (Nat × List PV) := [(5,[.sl false 1 (ints [r]),.sl false 1 (rows (memC false) [])]),(7,[.int 0,.int 0]),(8,[.bool false,.nil,.nil,.nil,.nil]),(12,[.int 1,.int 0,.int 0])]
def m21 : Nat × Mp := (21,⟨.st 2,[(keyR,.bool true)],none⟩)
def mm7 (c : Nat) (h13 h11 : Bool) : List (Nat × Mp) := m21 :: [(22,if h13 = true then ⟨.st 2,[(keyR,.int (Vc.bitF .or .i64 0 (shfF .shl .i64 1 0)))],none⟩ else if h11 = true then ⟨.st 2,[(keyR,.int 0)],some (.stp [c] (c + 1))⟩ else ⟨.st 2,[],some (.stp [] c)⟩)]
set_option maxHeartbeats 4000000 in
theorem reg7 (r : Int) (c : Nat) (K : St -> Prop) (hK : K ⟨slA (v7 c) xs71_7 s7,b7 r,[],mm7 c true true⟩) : allK (Env.of Tryz.prog) xs71_7 14 [] ⟨s7,b7 r,[],mm7 c false false⟩ K := by
 refine qFH (ops := xs71_7) (v7 c) (fun dn => (b7 r,[],mm7 c (dn.contains 13) (dn.contains 11))) rfl rfl ?_ ?_ rfl
 ·rw [xs71_7_all]
  refine ⟨?_,?_,?_,?_,?_,?_,?_,?_,?_,?_,?_,?_,?_,?_⟩
  ·intro dn S hr hc L N K hK
   have g10 : getL S 10 = .mp 22 := L 10 trivial
   simp only [g10,push_cast,reduceIte,reduceEqDiff,reduceAdd,reduceSub,reduceMul,Nat.reduceBEq,reduceLT,reduceLeDiff,reduceCtorEq,reduceToNat,reduceNeg]
   exact hK
  ·intro dn S hr hc L N K hK
   have g12 : getL S 12 = .ptr 12 0 := L 12 trivial
   simp only [g12,push_cast,reduceIte,reduceEqDiff,reduceAdd,reduceSub,reduceMul,Nat.reduceBEq,reduceLT,reduceLeDiff,reduceCtorEq,reduceToNat,reduceNeg]
   exact hK
  ·intro dn S hr hc L N K hK
   have g42 : getL S 42 = .ptr 12 0 := L 42 (qFA hr (j := 1) (by decide))
   simp only [g42,b7,push_cast,reduceIte,reduceEqDiff,reduceAdd,reduceSub,reduceMul,Nat.reduceBEq,reduceLT,reduceLeDiff,reduceCtorEq,reduceToNat,reduceNeg]
   exact hK
  ·intro dn S hr hc L N K hK
   have g12 : getL S 12 = .ptr 12 0 := L 12 trivial
   simp only [g12,push_cast,reduceIte,reduceEqDiff,reduceAdd,reduceSub,reduceMul,Nat.reduceBEq,reduceLT,reduceLeDiff,reduceCtorEq,reduceToNat,reduceNeg]
   exact hK
  ·intro dn S hr hc L N K hK
   have g44 : getL S 44 = .ptr 12 1 := L 44 (qFA hr (j := 3) (by decide))
   simp only [g44,b7,push_cast,reduceIte,reduceEqDiff,reduceAdd,reduceSub,reduceMul,Nat.reduceBEq,reduceLT,reduceLeDiff,reduceCtorEq,reduceToNat,reduceNeg]
   exact hK
  ·intro dn S hr hc L N K hK
   have g43 : getL S 43 = .int 1 := L 43 (qFA hr (j := 2) (by decide))
   have g45 : getL S 45 = .int 0 := L 45 (qFA hr (j := 4) (by decide))
   simp only [g43,g45,push_cast,reduceIte,reduceEqDiff,reduceAdd,reduceSub,reduceMul,Nat.reduceBEq,reduceLT,reduceLeDiff,reduceCtorEq,reduceToNat,reduceNeg]
   exact hK
  ·intro dn S hr hc L N K hK
   have g41 : getL S 41 = .mp 22 := L 41 (qFA hr (j := 0) (by decide))
   have g46 : getL S 46 = .agg [.int 1,.int 0] := L 46 (qFA hr (j := 5) (by decide))
   have h13 : dn.contains 13 = false := qFC hc hr (List.mem_of_getElem? (i := 13) rfl) (by decide)
   have hK : K ⟨up S 47 (.int 0),b7 r,[],mm7 c (dn.contains 13) (dn.contains 11)⟩ := hK
   rw [h13] at hK
   show opsK _ _ ⟨S,b7 r,[],mm7 c (dn.contains 13) (dn.contains 11)⟩ K
   rw [h13]
   cases h11 : dn.contains 11 <;> rw [h11] at hK <;> simp only [g41,g46,mm7,m21,push_cast,reduceIte,reduceEqDiff,reduceAdd,reduceSub,reduceMul,Nat.reduceBEq,reduceLT,reduceLeDiff,reduceCtorEq,reduceToNat,reduceNeg] <;> exact hK
  ·intro dn S hr hc L N K hK
   have g12 : getL S 12 = .ptr 12 0 := L 12 trivial
   simp only [g12,push_cast,reduceIte,reduceEqDiff,reduceAdd,reduceSub,reduceMul,Nat.reduceBEq,reduceLT,reduceLeDiff,reduceCtorEq,reduceToNat,reduceNeg]
   exact hK
  ·intro dn S hr hc L N K hK
   have g48 : getL S 48 = .ptr 12 2 := L 48 (qFA hr (j := 7) (by decide))
   simp only [g48,b7,push_cast,reduceIte,reduceEqDiff,reduceAdd,reduceSub,reduceMul,Nat.reduceBEq,reduceLT,reduceLeDiff,reduceCtorEq,reduceToNat,reduceNeg]
   exact hK
  ·intro dn S hr hc L N K hK
   have g49 : getL S 49 = .int 0 := L 49 (qFA hr (j := 8) (by decide))
   simp only [g49,push_cast,reduceIte,reduceEqDiff,reduceAdd,reduceSub,reduceMul,Nat.reduceBEq,reduceLT,reduceLeDiff,reduceCtorEq,reduceToNat,reduceNeg]
   exact ⟨by omega,hK⟩
  ·intro dn S hr hc L N K hK
   have g47 : getL S 47 = .int 0 := L 47 (qFA hr (j := 6) (by decide))
   have g50 : getL S 50 = .int (shfF .shl .i64 1 0) := L 50 (qFA hr (j := 9) (by decide))
   simp only [g47,g50,push_cast,reduceIte,reduceEqDiff,reduceAdd,reduceSub,reduceMul,Nat.reduceBEq,reduceLT,reduceLeDiff,reduceCtorEq,reduceToNat,reduceNeg]
   exact hK
  ·intro dn S hr hc L N K hK
   have g41 : getL S 41 = .mp 22 := L 41 (qFA hr (j := 0) (by decide))
   have g46 : getL S 46 = .agg [.int 1,.int 0] := L 46 (qFA hr (j := 5) (by decide))
   have h13 : dn.contains 13 = false := qFC hc hr (List.mem_of_getElem? (i := 13) rfl) (by decide)
   have h11 : dn.contains 11 = false := qFB hr
   have hK : K ⟨up S 52 (.tup [.int 0,.int c]),b7 r,[],mm7 c (dn.contains 13) true⟩ := hK
   rw [h13] at hK
   show opsK _ _ ⟨S,b7 r,[],mm7 c (dn.contains 13) (dn.contains 11)⟩ K
   rw [h13,h11]
   exact qFD (qFF g41) (kv := keyR) (by rw [qFF g46]; rfl) (id := 22) rfl rfl rfl rfl hK
  ·intro dn S hr hc L N K hK
   have g52 : getL S 52 = .tup [.int 0,.int c] := L 52 (qFA hr (j := 11) (by decide))
   simp only [g52,push_cast,reduceIte,reduceEqDiff,reduceAdd,reduceSub,reduceMul,Nat.reduceBEq,reduceLT,reduceLeDiff,reduceCtorEq,reduceToNat,reduceNeg]
   exact hK
  ·intro dn S hr hc L N K hK
   have g41 : getL S 41 = .mp 22 := L 41 (qFA hr (j := 0) (by decide))
   have g51 : getL S 51 = .int (Vc.bitF .or .i64 0 (shfF .shl .i64 1 0)) := L 51 (qFA hr (j := 10) (by decide))
   have g53 : getL S 53 = .int c := L 53 (qFA hr (j := 12) (by decide))
   have h13 : dn.contains 13 = false := qFB hr
   have h11 : dn.contains 11 = true := qFA hr (j := 11) (by decide)
   have hK : K ⟨S,b7 r,[],mm7 c true (dn.contains 11)⟩ := hK
   show opsK _ _ ⟨S,b7 r,[],mm7 c (dn.contains 13) (dn.contains 11)⟩ K
   rw [h13,h11]
   refine qFE (qFF g41) (qFF g53) (id := 22) (j := 0) rfl (by simp) (by rw [qFF g51]; rfl) ?_
   rw [qFF g51]
   exact hK
 ·intro dn h
  rw [xs71_7_all] at h
  obtain ⟨h0,h1,h2,h3,h4,h5,h6,h7,h8,h9,h10,h11,h12,h13⟩ := h
  show K ⟨_,_,_,mm7 c (dn.contains 13) (dn.contains 11)⟩
  rw [h13,h11]
  exact hK
def v13 (w : Int) : Nat -> PV
 | 0 => .ptr 13 1
 | 1 => .ptr 13 1
 | 2 => .nil
 | 3 => .mp 22
 | 4 => .int 0
 | 5 => .agg [.int 1,.int 0]
 | 6 => .int w
 | 7 => .view 68 0 1
 | 8 => .view 69 0 1
 | 9 => .ptr 13 1
 | 10 => .ptr 13 1
 | _ => .bot
def s13 : List (Nat × PV) := [(5,.ptr 5 0),(7,.ptr 7 0),(8,.ptr 8 0),(9,.mp 21),(10,.mp 22),(13,.ptr 13 0),(14,.int 0),(57,.int 1),(58,.int 0)]
def b13 (r : Int) (h11 : Bool) : List (Nat × List PV) := [(5,[.sl false 1 (ints [r]),.sl false 1 (rows (memC false) [])]),(7,[.int 0,.int 0]),(8,[.bool false,.nil,.nil,.nil,.nil]),(13,[.bool false,if h11 = true then .view 69 0 1 else .nil,.nil,.nil,.nil])]
def a13 (w : Int) (h7 h8 : Bool) : List (Nat × Arr) := (if h7 = true then [(68,⟨1,3,[[.int w]]⟩)] else []) ++ (if h8 = true then [(69,⟨1,3,[[.int w]]⟩)] else [])
def n13 (e1 e2 : List (Value × PV)) : List (Nat × Mp) := [(21,⟨.st 2,e1,none⟩),(22,⟨.st 2,e2,none⟩)]
set_option maxHeartbeats 4000000 in
theorem qFI (r w : Int) (e1 e2 : List (Value × PV)) (he : (mget e2 keyR).getD (.int 0) = .int w) (K : St -> Prop) (hK : K ⟨slA (v13 w) xs71_13 s13,b13 r true,a13 w true true,n13 e1 e2⟩) : allK (Env.of Tryz.prog) xs71_13 12 [] ⟨s13,b13 r false,a13 w false false,n13 e1 e2⟩ K := by
 refine qFH (ops := xs71_13) (v13 w) (fun dn => (b13 r (dn.contains 11),a13 w (dn.contains 7) (dn.contains 8),n13 e1 e2)) rfl rfl ?_ ?_ rfl
 ·rw [xs71_13_all]
  refine ⟨?_,?_,?_,?_,?_,?_,?_,?_,?_,?_,?_,?_⟩
  ·intro dn S hr hc L N K hK
   have g13 : getL S 13 = .ptr 13 0 := L 13 trivial
   simp only [g13,push_cast,reduceIte,reduceEqDiff,reduceAdd,reduceSub,reduceMul,Nat.reduceBEq,reduceLT,reduceLeDiff,reduceCtorEq,reduceToNat,reduceNeg]
   exact hK
  ·intro dn S hr hc L N K hK
   have g61 : getL S 61 = .ptr 13 1 := L 61 (qFA hr (j := 0) (by decide))
   simp only [g61,push_cast,reduceIte,reduceEqDiff,reduceAdd,reduceSub,reduceMul,Nat.reduceBEq,reduceLT,reduceLeDiff,reduceCtorEq,reduceToNat,reduceNeg]
   exact hK
  ·intro dn S hr hc L N K hK
   have g62 : getL S 62 = .ptr 13 1 := L 62 (qFA hr (j := 1) (by decide))
   have h11 : dn.contains 11 = false := qFC hc hr (List.mem_of_getElem? (i := 11) rfl) (by decide)
   show opsK _ _ ⟨S,b13 r (dn.contains 11),a13 w (dn.contains 7) (dn.contains 8),n13 e1 e2⟩ K
   have hK : K ⟨up S 63 .nil,b13 r (dn.contains 11),a13 w (dn.contains 7) (dn.contains 8),n13 e1 e2⟩ := hK
   rw [h11] at hK ⊢
   simp only [g62,b13,push_cast,reduceIte,reduceEqDiff,reduceAdd,reduceSub,reduceMul,Nat.reduceBEq,reduceLT,reduceLeDiff,reduceCtorEq,reduceToNat,reduceNeg]
   exact hK
  ·intro dn S hr hc L N K hK
   have g10 : getL S 10 = .mp 22 := L 10 trivial
   simp only [g10,push_cast,reduceIte,reduceEqDiff,reduceAdd,reduceSub,reduceMul,Nat.reduceBEq,reduceLT,reduceLeDiff,reduceCtorEq,reduceToNat,reduceNeg]
   exact hK
  ·intro dn S hr hc L N K hK
   have g14 : getL S 14 = .int 0 := L 14 trivial
   simp only [g14,push_cast,reduceIte,reduceEqDiff,reduceAdd,reduceSub,reduceMul,Nat.reduceBEq,reduceLT,reduceLeDiff,reduceCtorEq,reduceToNat,reduceNeg]
   exact hK
  ·intro dn S hr hc L N K hK
   have g65 : getL S 65 = .int 0 := L 65 (qFA hr (j := 4) (by decide))
   simp only [g65,push_cast,reduceIte,reduceEqDiff,reduceAdd,reduceSub,reduceMul,Nat.reduceBEq,reduceLT,reduceLeDiff,reduceCtorEq,reduceToNat,reduceNeg]
   exact hK
  ·intro dn S hr hc L N K hK
   have g64 : getL S 64 = .mp 22 := L 64 (qFA hr (j := 3) (by decide))
   have g66 : getL S 66 = .agg [.int 1,.int 0] := L 66 (qFA hr (j := 5) (by decide))
   show opsK _ _ ⟨S,b13 r (dn.contains 11),a13 w (dn.contains 7) (dn.contains 8),n13 e1 e2⟩ K
   have hK : K ⟨up S 67 (.int w),b13 r (dn.contains 11),a13 w (dn.contains 7) (dn.contains 8),n13 e1 e2⟩ := hK
   rw [<- he] at hK
   simp only [g64,g66,n13,push_cast,reduceIte,reduceEqDiff,reduceAdd,reduceSub,reduceMul,Nat.reduceBEq,reduceLT,reduceLeDiff,reduceCtorEq,reduceToNat,reduceNeg]
   exact hK
  ·intro dn S hr hc L N K hK
   have g67 : getL S 67 = .int w := L 67 (qFA hr (j := 6) (by decide))
   have h7 : dn.contains 7 = false := qFB hr
   have h8 : dn.contains 8 = false := qFC hc hr (List.mem_of_getElem? (i := 8) rfl) (by decide)
   show opsK _ _ ⟨S,b13 r (dn.contains 11),a13 w (dn.contains 7) (dn.contains 8),n13 e1 e2⟩ K
   have hK : K ⟨up S 68 (.view 68 0 1),b13 r (dn.contains 11),a13 w true (dn.contains 8),n13 e1 e2⟩ := hK
   rw [h7,h8]
   rw [h8] at hK
   have h11 : dn.contains 11 = false := qFC hc hr (List.mem_of_getElem? (i := 11) rfl) (by decide)
   rw [h11] at hK ⊢
   have hq : qiy nul (isId 68) S = S := qFy (N (fun y => !y.toV nul (isId 68)) rfl (by rw [xs71_13_all]; exact ⟨fun _ => rfl,fun _ => rfl,fun _ => rfl,fun _ => rfl,fun _ => rfl,fun _ => rfl,fun _ => rfl,fun e => absurd (h7.symm.trans e) (by decide),fun e => absurd (h8.symm.trans e) (by decide),fun _ => rfl,fun _ => rfl,fun _ => rfl⟩))
   simp only [g67,a13,hq,b13,push_cast,reduceIte,reduceEqDiff,reduceAdd,reduceSub,reduceMul,Nat.reduceBEq,reduceLT,reduceLeDiff,reduceCtorEq,reduceToNat,reduceNeg]
   exact ⟨by simp,hK⟩
  ·intro dn S hr hc L N K hK
   have g63 : getL S 63 = .nil := L 63 (qFA hr (j := 2) (by decide))
   have g68 : getL S 68 = .view 68 0 1 := L 68 (qFA hr (j := 7) (by decide))
   have h8 : dn.contains 8 = false := qFB hr
   have h7 : dn.contains 7 = true := qFA hr (j := 7) (by decide)
   show opsK _ _ ⟨S,b13 r (dn.contains 11),a13 w (dn.contains 7) (dn.contains 8),n13 e1 e2⟩ K
   have hK : K ⟨up S 69 (.view 69 0 1),b13 r (dn.contains 11),a13 w (dn.contains 7) true,n13 e1 e2⟩ := hK
   rw [h7,h8]
   rw [h7] at hK
   have h11 : dn.contains 11 = false := qFC hc hr (List.mem_of_getElem? (i := 11) rfl) (by decide)
   rw [h11] at hK ⊢
   have hq : qiy nul (isId 69) S = S := qFy (N (fun y => !y.toV nul (isId 69)) rfl (by rw [xs71_13_all]; exact ⟨fun _ => rfl,fun _ => rfl,fun _ => rfl,fun _ => rfl,fun _ => rfl,fun _ => rfl,fun _ => rfl,fun _ => rfl,fun e => absurd (h8.symm.trans e) (by decide),fun _ => rfl,fun _ => rfl,fun _ => rfl⟩))
   simp only [g63,g68,a13,hq,b13,push_cast,reduceIte,reduceEqDiff,reduceAdd,reduceSub,reduceMul,Nat.reduceBEq,reduceLT,reduceLeDiff,reduceCtorEq,reduceToNat,reduceNeg]
   exact hK
  ·intro dn S hr hc L N K hK
   have g13 : getL S 13 = .ptr 13 0 := L 13 trivial
   simp only [g13,push_cast,reduceIte,reduceEqDiff,reduceAdd,reduceSub,reduceMul,Nat.reduceBEq,reduceLT,reduceLeDiff,reduceCtorEq,reduceToNat,reduceNeg]
   exact hK
  ·intro dn S hr hc L N K hK
   have g70 : getL S 70 = .ptr 13 1 := L 70 (qFA hr (j := 9) (by decide))
   simp only [g70,push_cast,reduceIte,reduceEqDiff,reduceAdd,reduceSub,reduceMul,Nat.reduceBEq,reduceLT,reduceLeDiff,reduceCtorEq,reduceToNat,reduceNeg]
   exact hK
  ·intro dn S hr hc L N K hK
   have g69 : getL S 69 = .view 69 0 1 := L 69 (qFA hr (j := 8) (by decide))
   have g71 : getL S 71 = .ptr 13 1 := L 71 (qFA hr (j := 10) (by decide))
   have h11 : dn.contains 11 = false := qFB hr
   show opsK _ _ ⟨S,b13 r (dn.contains 11),a13 w (dn.contains 7) (dn.contains 8),n13 e1 e2⟩ K
   have hK : K ⟨S,b13 r true,a13 w (dn.contains 7) (dn.contains 8),n13 e1 e2⟩ := hK
   rw [h11]
   simp only [g69,g71,b13,push_cast,reduceIte,reduceEqDiff,reduceAdd,reduceSub,reduceMul,Nat.reduceBEq,reduceLT,reduceLeDiff,reduceCtorEq,reduceToNat,reduceNeg]
   exact hK
 ·intro dn h
  rw [xs71_13_all] at h
  obtain ⟨h0,h1,h2,h3,h4,h5,h6,h7,h8,h9,h10,h11⟩ := h
  show K ⟨_,b13 r (dn.contains 11),a13 w (dn.contains 7) (dn.contains 8),_⟩
  rw [h11,h7,h8]
  exact hK
def wF (b : Bool) : Int := if b = true then Vc.bitF .or .i64 0 (shfF .shl .i64 1 0) else 0
def e1F (b : Bool) : List (Value × PV) := if b = true then [(keyR,.bool true)] else []
def e2F (b : Bool) : List (Value × PV) := if b = true then [(keyR,.int (Vc.bitF .or .i64 0 (shfF .shl .i64 1 0)))] else []
theorem qFJ (b : Bool) : wF b = if b = true then 1 else 0 := by cases b <;> decide +kernel
set_option maxHeartbeats 4000000 in
theorem qFK (b : Bool) (r : Int) : FnEq Tryz.prog 71 [.agg [.nil, .nil, .sl false 3 (rows qwA [⟨1, 0, 0⟩]), .nil], .agg (pstC false ⟨[r], []⟩), .sl false 1 (rows qk7 [b]), .agg [.int 0, .int 0]]
  (.agg [.bool false,.sl true 1 [[.int (wF b)]],.nil,.nil,.nil]) := by
 refine FnEq.of_awp Tryz.func71 ok71 (by show 4 <= _; decide) (by simp only [push_cast,reduceIte,reduceEqDiff,reduceAdd,reduceSub,reduceMul,Nat.reduceBEq,reduceLT,reduceLeDiff,reduceCtorEq,reduceToNat,reduceNeg] <;> first | exact fun _ _ => trivial | simp) ?_
 simp only [ac71,rv71,push_cast,reduceIte,reduceEqDiff,reduceAdd,reduceSub,reduceMul,Nat.reduceBEq,reduceLT,reduceLeDiff,reduceCtorEq,reduceToNat,reduceNeg]
 refine qoH (fun m st => (m = 1 /\ st = ⟨[(2,.sl false 1 (rows qk7 [b])),(5,.ptr 5 0),(7,.ptr 7 0),(8,.ptr 8 0),(9,.mp 21),(10,.mp 22),(24,.sl false 3 (rows qwA [⟨1,0,0⟩])),(25,.int 1),(26,.int 0)],
  [(5,[.sl false 1 (ints [r]),.sl false 1 (rows (memC false) [])]),(7,[.int 0,.int 0]),(8,[.bool false,.nil,.nil,.nil,.nil])],[],[(21,{ kd := .st 2,es := [] }),(22,{ kd := .st 2,es := [] })]⟩) \/
  (m = 0 /\ st = ⟨[(2,.sl false 1 (rows qk7 [b])),(5,.ptr 5 0),(7,.ptr 7 0),(8,.ptr 8 0),(9,.mp 21),(10,.mp 22),(24,.sl false 3 (rows qwA [⟨1,0,0⟩])),(25,.int 1),(26,.int 1)],
  [(5,[.sl false 1 (ints [r]),.sl false 1 (rows (memC false) [])]),(7,[.int 0,.int 0]),(8,[.bool false,.nil,.nil,.nil,.nil])],[],n13 (e1F b) (e2F b)⟩)) 1 ?_ ?_
 ·refine .inl ⟨rfl,?_⟩
  simp only [push_cast,reduceIte,reduceEqDiff,reduceAdd,reduceSub,reduceMul,Nat.reduceBEq,reduceLT,reduceLeDiff,reduceCtorEq,reduceToNat,reduceNeg]
  try rfl
 rintro m st (⟨rfl,rfl⟩ | ⟨rfl,rfl⟩)
 ·refine sB ?_
  refine qnR (fun _ => ?_) fun h => absurd (by decide) h
  refine ⟨by decide,by decide,?_⟩
  simp only [List.getD_cons_zero,List.length_cons,List.length_nil,push_cast,reduceIte,reduceEqDiff,reduceAdd,reduceSub,reduceMul,Nat.reduceBEq,reduceLT,reduceLeDiff,reduceCtorEq,reduceToNat,reduceNeg]
  refine qnQ (fun e => ?_) fun e => ?_
  ·subst e
   refine qFG (id := 22) rfl rfl fun l k hl => ?_
   have hl0 : l = [] := List.eq_nil_of_length_eq_zero hl
   subst hl0
   show allK _ _ _ _ _ _
   refine reg7 r k _ ?_
   simp only [slA,putD,v7,xs71_7,s7,b7,mm7,m21,push_cast,reduceIte,reduceEqDiff,reduceAdd,reduceSub,reduceMul,Nat.reduceBEq,reduceLT,reduceLeDiff,reduceCtorEq,reduceToNat,reduceNeg]
   exact ⟨by decide,0,by decide,.inr ⟨rfl,rfl⟩⟩
  ·subst e
   exact ⟨by decide,0,by decide,.inr ⟨rfl,rfl⟩⟩
 ·refine sB ?_
  refine qnR (fun h => absurd h (by decide)) fun _ => ?_
  have he : (mget (e2F b) keyR).getD (.int 0) = .int (wF b) := by cases b <;> rfl
  generalize e1F b = e1 at *
  generalize e2F b = e2 at *
  generalize wF b = w at *
  refine qoH (fun m st => (m = 1 /\ st = ⟨[(5,.ptr 5 0),(7,.ptr 7 0),(8,.ptr 8 0),(9,.mp 21),(10,.mp 22),(13,.ptr 13 0),(57,.int 1),(58,.int 0)],b13 r false,[],n13 e1 e2⟩) \/
   (m = 0 /\ st = ⟨[(5,.ptr 5 0),(7,.ptr 7 0),(8,.ptr 8 0),(9,.mp 21),(10,.mp 22),(13,.ptr 13 0),(57,.int 1),(58,.int 1)],b13 r true,[(69,⟨1,3,[[.int w]]⟩)],n13 e1 e2⟩)) 1 ?_ ?_
  ·refine .inl ⟨rfl,?_⟩
   simp only [b13,n13,push_cast,reduceIte,reduceEqDiff,reduceAdd,reduceSub,reduceMul,Nat.reduceBEq,reduceLT,reduceLeDiff,reduceCtorEq,reduceToNat,reduceNeg]
   try rfl
  rintro m st (⟨rfl,rfl⟩ | ⟨rfl,rfl⟩)
  ·refine sB ?_
   refine qnR (fun _ => ?_) fun h => absurd (by decide) h
   show allK _ _ _ _ _ _
   refine qFI r w e1 e2 he _ ?_
   simp only [slA,putD,v13,xs71_13,s13,a13,b13,n13,push_cast,reduceIte,reduceEqDiff,reduceAdd,reduceSub,reduceMul,Nat.reduceBEq,reduceLT,reduceLeDiff,reduceCtorEq,reduceToNat,reduceNeg]
   exact ⟨by decide,0,by decide,.inr ⟨rfl,rfl⟩⟩
  ·refine sB ?_
   refine qnR (fun h => absurd h (by decide)) fun _ => ?_
   simp only [b13,n13,push_cast,reduceIte,reduceEqDiff,reduceAdd,reduceSub,reduceMul,Nat.reduceBEq,reduceLT,reduceLeDiff,reduceCtorEq,reduceToNat,reduceNeg]
   refine qoH (fun _ s => s = _) 0 rfl ?_
   rintro _ _ rfl
   simp only [List.length_nil,push_cast,reduceIte,reduceEqDiff,reduceAdd,reduceSub,reduceMul,Nat.reduceBEq,reduceLT,reduceLeDiff,reduceCtorEq,reduceToNat,reduceNeg]
   refine qnR (fun h => absurd h (by decide)) fun _ => ?_
   refine ⟨⟨by decide,by decide⟩,?_⟩
   refine qoH (fun _ s => s = _) 0 rfl ?_
   rintro _ _ rfl
   refine sB ?_
   refine qnR (fun h => absurd h (by decide)) fun _ => ?_
   refine ⟨⟨by decide,by decide⟩,?_⟩
   refine qoH (fun _ s => s = _) 0 rfl ?_
   rintro _ _ rfl
   refine sB ?_
   refine qnR (fun h => absurd h (by decide)) fun _ => ?_
   exact fun x hx => absurd hx (by simp)
def opX (c : Cfg) (s : PSt) (a b d : PV) : List PV := cfgC false c ++ [a,b,d] ++ pstC false s ++ [.sl true 1 []]
@[push_cast] theorem qFL (c : Cfg) (s : PSt) (a b d : PV) : opX c s a b d = [.sl false 1 (ints c.sel),.sl false 1 (ints c.mode),.sl false 1 (ints c.tab),.sl false 1 (ints c.ram),a,b,d,.sl false 1 (ints s.regs),.sl false 1 (rows (memC false) s.mems),.sl true 1 []] := rfl
set_option maxHeartbeats 4000000 in
theorem qFM (g : Grid) (hg : GOk g) (c : Cfg) (hc : CfgG g c) (s : PSt) : FnM (Env.of Tryz.prog) 60 [.agg (quy false g), .agg (cfgC false c), .agg (pstC false s), .sl true 1 []] ⟨[], [], [], []⟩
  (fun rv st' => rv = .ptr 313 0 /\ st' = ⟨[],[(313,opX c s (.view 335 0 c.sel.length) (.view 348 0 g.kind.length) (.view 367 0 c.sel.length))],opA g c c.sel.length,[]⟩) := by
 have key : FnM (Env.of Tryz.prog) 60 [.agg (quy false g),.agg (cfgC false c),.agg (pstC false s),.sl true 1 []] ⟨[],[],[],[]⟩
  (fun rv st' => rv = .ptr 313 0 /\ st'.onlyB [313] = ⟨[],[(313,opX c s (.view 335 0 c.sel.length) (.view 348 0 g.kind.length) (.view 367 0 c.sel.length))],opA g c c.sel.length,[]⟩) := by
  refine qtT 100 Tryz.func60 ok60_100 (by show 4 <= _; decide) rfl (by decide) ?_
  simp only [ac60_100,rv60_100,push_cast,reduceIte,reduceEqDiff,reduceAdd,reduceSub,reduceMul,Nat.reduceBEq,reduceLT,reduceLeDiff,reduceCtorEq,reduceToNat,reduceNeg]
  refine qCR [313] [335,348,367] (qCZ g hg c hc) rfl rfl rfl ?_
  simp only [opA,push_cast,reduceIte,reduceEqDiff,reduceAdd,reduceSub,reduceMul,Nat.reduceBEq,reduceLT,reduceLeDiff,reduceCtorEq,reduceToNat,reduceNeg]
  exact rfl
 refine FnM.mono (FnM.postB (fun _ => [313]) key) ?_
 rintro rv _ ⟨st1,⟨h1,h2⟩,rfl⟩
 exact ⟨h1,h2⟩
theorem qFN (s : PSt) : FnEq Tryz.prog 70 [.agg [.nil,.nil,.nil,.nil],.agg (pstC false s),.nil,.nil] (.sl true 1 []) := by
 refine FnEq.of_awp Tryz.func70 ok70 (by show 4 <= _; decide) (by simp only [push_cast,reduceIte,reduceEqDiff,reduceAdd,reduceSub,reduceMul,Nat.reduceBEq,reduceLT,reduceLeDiff,reduceCtorEq,reduceToNat,reduceNeg] <;> first | exact fun _ _ => trivial | simp) ?_
 simp only [ac70,rv70,push_cast,reduceIte,reduceEqDiff,reduceAdd,reduceSub,reduceMul,Nat.reduceBEq,reduceLT,reduceLeDiff,reduceCtorEq,reduceToNat,reduceNeg]
 refine ⟨⟨by decide,by decide,by decide⟩,?_⟩
 refine qoH (fun _ s => s = _) 0 rfl ?_
 rintro _ _ rfl
 simp only [List.replicate_zero,List.length_nil,push_cast,reduceIte,reduceEqDiff,reduceAdd,reduceSub,reduceMul,Nat.reduceBEq,reduceLT,reduceLeDiff,reduceCtorEq,reduceToNat,reduceNeg]
 refine qnR (fun h => absurd h (by decide)) fun _ => ?_
 exact ⟨fun x hx => absurd hx (by simp),.refl _⟩
def vT (g : Grid) (c : Cfg) (s : PSt) : Nat -> PV
 | 0 => .agg (quy false g)
 | 1 => .agg (cfgC false c)
 | 2 => .agg (pstC false s)
 | 3 => .ptr 8 0
 | 4 => .nil
 | 5 => .agg [.nil,.nil,.nil,.nil]
 | 6 => .agg (pstC false s)
 | 7 => .nil
 | 8 => .nil
 | 9 => .sl true 1 []
 | 10 => .ptr 313 0
 | 11 => .ptr 313 0
 | _ => .bot
def sT : List (Nat × PV) := [(4,.nil),(5,.nil),(6,.ptr 6 0),(7,.ptr 7 0),(8,.ptr 8 0),(9,.ptr 9 0),(12,.ptr 12 0)]
def bT (g : Grid) (c : Cfg) (s : PSt) (h : Bool) : List (Nat × List PV) := [(6,quy false g),(7,cfgC false c),(8,[.nil,.nil]),(9,pstC false s),(12,[.bool false,.nil,.nil,.nil,.nil])] ++ (if h = true then [(313,opX c s (.view 335 0 c.sel.length) (.view 348 0 g.kind.length) (.view 367 0 c.sel.length))] else [])
def aT (g : Grid) (c : Cfg) (h : Bool) : List (Nat × Arr) := if h = true then opA g c c.sel.length else []
set_option maxHeartbeats 4000000 in
theorem regT (g : Grid) (hg : GOk g) (c : Cfg) (hcg : CfgG g c) (s : PSt) (K : St -> Prop) (hK : K ⟨slA (vT g c s) xs38_1 sT,bT g c s true,aT g c true,[]⟩) : allK (Env.of Tryz.prog) xs38_1 12 [] ⟨sT,bT g c s false,aT g c false,[]⟩ K := by
 refine qFH (ops := xs38_1) (vT g c s) (fun dn => (bT g c s (dn.contains 10),aT g c (dn.contains 10),[])) rfl rfl ?_ ?_ rfl
 ·rw [xs38_1_all]
  refine ⟨?_,?_,?_,?_,?_,?_,?_,?_,?_,?_,?_,?_⟩
  ·intro dn S hr hc L N K hK
   have g6 : getL S 6 = .ptr 6 0 := L 6 trivial
   show opsK _ _ ⟨S,bT g c s (dn.contains 10),aT g c (dn.contains 10),[]⟩ K
   have hK : K ⟨up S 21 (.agg (quy false g)),bT g c s (dn.contains 10),aT g c (dn.contains 10),[]⟩ := hK
   cases h10 : dn.contains 10 <;> rw [h10] at hK <;> simp only [g6,bT,List.cons_append,List.nil_append,push_cast,reduceIte,reduceEqDiff,reduceAdd,reduceSub,reduceMul,Nat.reduceBEq,reduceLT,reduceLeDiff,reduceCtorEq,reduceToNat,reduceNeg] <;> exact hK
  ·intro dn S hr hc L N K hK
   have g7 : getL S 7 = .ptr 7 0 := L 7 trivial
   show opsK _ _ ⟨S,bT g c s (dn.contains 10),aT g c (dn.contains 10),[]⟩ K
   have hK : K ⟨up S 22 (.agg (cfgC false c)),bT g c s (dn.contains 10),aT g c (dn.contains 10),[]⟩ := hK
   cases h10 : dn.contains 10 <;> rw [h10] at hK <;> simp only [g7,bT,List.cons_append,List.nil_append,push_cast,reduceIte,reduceEqDiff,reduceAdd,reduceSub,reduceMul,Nat.reduceBEq,reduceLT,reduceLeDiff,reduceCtorEq,reduceToNat,reduceNeg] <;> exact hK
  ·intro dn S hr hc L N K hK
   have g9 : getL S 9 = .ptr 9 0 := L 9 trivial
   show opsK _ _ ⟨S,bT g c s (dn.contains 10),aT g c (dn.contains 10),[]⟩ K
   have hK : K ⟨up S 23 (.agg (pstC false s)),bT g c s (dn.contains 10),aT g c (dn.contains 10),[]⟩ := hK
   cases h10 : dn.contains 10 <;> rw [h10] at hK <;> simp only [g9,bT,List.cons_append,List.nil_append,push_cast,reduceIte,reduceEqDiff,reduceAdd,reduceSub,reduceMul,Nat.reduceBEq,reduceLT,reduceLeDiff,reduceCtorEq,reduceToNat,reduceNeg] <;> exact hK
  ·intro dn S hr hc L N K hK
   have g8 : getL S 8 = .ptr 8 0 := L 8 trivial
   simp only [g8,push_cast,reduceIte,reduceEqDiff,reduceAdd,reduceSub,reduceMul,Nat.reduceBEq,reduceLT,reduceLeDiff,reduceCtorEq,reduceToNat,reduceNeg]
   exact ⟨⟨by decide,by decide⟩,hK⟩
  ·intro dn S hr hc L N K hK
   have g24 : getL S 24 = .ptr 8 0 := L 24 (qFA hr (j := 3) (by decide))
   show opsK _ _ ⟨S,bT g c s (dn.contains 10),aT g c (dn.contains 10),[]⟩ K
   have hK : K ⟨up S 25 (.nil),bT g c s (dn.contains 10),aT g c (dn.contains 10),[]⟩ := hK
   cases h10 : dn.contains 10 <;> rw [h10] at hK <;> simp only [g24,bT,List.cons_append,List.nil_append,push_cast,reduceIte,reduceEqDiff,reduceAdd,reduceSub,reduceMul,Nat.reduceBEq,reduceLT,reduceLeDiff,reduceCtorEq,reduceToNat,reduceNeg] <;> exact hK
  ·intro dn S hr hc L N K hK
   have g25 : getL S 25 = .nil := L 25 (qFA hr (j := 4) (by decide))
   simp only [g25,push_cast,reduceIte,reduceEqDiff,reduceAdd,reduceSub,reduceMul,Nat.reduceBEq,reduceLT,reduceLeDiff,reduceCtorEq,reduceToNat,reduceNeg]
   exact hK
  ·intro dn S hr hc L N K hK
   have g9 : getL S 9 = .ptr 9 0 := L 9 trivial
   show opsK _ _ ⟨S,bT g c s (dn.contains 10),aT g c (dn.contains 10),[]⟩ K
   have hK : K ⟨up S 27 (.agg (pstC false s)),bT g c s (dn.contains 10),aT g c (dn.contains 10),[]⟩ := hK
   cases h10 : dn.contains 10 <;> rw [h10] at hK <;> simp only [g9,bT,List.cons_append,List.nil_append,push_cast,reduceIte,reduceEqDiff,reduceAdd,reduceSub,reduceMul,Nat.reduceBEq,reduceLT,reduceLeDiff,reduceCtorEq,reduceToNat,reduceNeg] <;> exact hK
  ·intro dn S hr hc L N K hK
   have g4 : getL S 4 = .nil := L 4 trivial
   simp only [g4,push_cast,reduceIte,reduceEqDiff,reduceAdd,reduceSub,reduceMul,Nat.reduceBEq,reduceLT,reduceLeDiff,reduceCtorEq,reduceToNat,reduceNeg]
   exact hK
  ·intro dn S hr hc L N K hK
   have g5 : getL S 5 = .nil := L 5 trivial
   simp only [g5,push_cast,reduceIte,reduceEqDiff,reduceAdd,reduceSub,reduceMul,Nat.reduceBEq,reduceLT,reduceLeDiff,reduceCtorEq,reduceToNat,reduceNeg]
   exact hK
  ·intro dn S hr hc L N K hK
   have g26 : getL S 26 = .agg [.nil,.nil,.nil,.nil] := L 26 (qFA hr (j := 5) (by decide))
   have g27 : getL S 27 = .agg (pstC false s) := L 27 (qFA hr (j := 6) (by decide))
   have g28 : getL S 28 = .nil := L 28 (qFA hr (j := 7) (by decide))
   have g29 : getL S 29 = .nil := L 29 (qFA hr (j := 8) (by decide))
   simp only [g26,g27,g28,g29,push_cast,reduceIte,reduceEqDiff,reduceAdd,reduceSub,reduceMul,Nat.reduceBEq,reduceLT,reduceLeDiff,reduceCtorEq,reduceToNat,reduceNeg]
   refine qrm (qFN s) sC ?_
   exact hK
  ·intro dn S hr hc L N K hK
   have g21 : getL S 21 = .agg (quy false g) := L 21 (qFA hr (j := 0) (by decide))
   have g22 : getL S 22 = .agg (cfgC false c) := L 22 (qFA hr (j := 1) (by decide))
   have g23 : getL S 23 = .agg (pstC false s) := L 23 (qFA hr (j := 2) (by decide))
   have g30 : getL S 30 = .sl true 1 [] := L 30 (qFA hr (j := 9) (by decide))
   have h10 : dn.contains 10 = false := qFB hr
   show opsK _ _ ⟨S,bT g c s (dn.contains 10),aT g c (dn.contains 10),[]⟩ K
   have hK : K ⟨up S 31 (.ptr 313 0),bT g c s true,aT g c true,[]⟩ := hK
   rw [h10]
   simp only [g21,g22,g23,g30,push_cast,reduceIte,reduceEqDiff,reduceAdd,reduceSub,reduceMul,Nat.reduceBEq,reduceLT,reduceLeDiff,reduceCtorEq,reduceToNat,reduceNeg]
   refine qCR [313] [335,348,367] (qFM g hg c hcg s) rfl ?_ rfl ?_
   ·have hq := N (fun y => !y.toV (inL [313]) (inL [335,348,367])) rfl (by rw [xs38_1_all]; exact ⟨fun _ => rfl,fun _ => rfl,fun _ => rfl,fun _ => rfl,fun _ => rfl,fun _ => rfl,fun _ => rfl,fun _ => rfl,fun _ => rfl,fun _ => rfl,fun e => absurd (h10.symm.trans e) (by decide),fun e => absurd ((qFC hc hr (List.mem_of_getElem? (i := 11) rfl) (by decide)).symm.trans e) (by decide)⟩)
    unfold qCO St.noTo
    simp only [hq]
    rfl
   ·exact hK
  ·intro dn S hr hc L N K hK
   have g31 : getL S 31 = .ptr 313 0 := L 31 (qFA hr (j := 10) (by decide))
   simp only [g31,push_cast,reduceIte,reduceEqDiff,reduceAdd,reduceSub,reduceMul,Nat.reduceBEq,reduceLT,reduceLeDiff,reduceCtorEq,reduceToNat,reduceNeg]
   exact hK
 ·intro dn h
  rw [xs38_1_all] at h
  obtain ⟨h0,h1,h2,h3,h4,h5,h6,h7,h8,h9,h10,h11⟩ := h
  show K ⟨_,bT g c s (dn.contains 10),aT g c (dn.contains 10),_⟩
  rw [h10]
  exact hK
theorem qFO {g : Grid} (hg : GOk g) {c : Cfg} (hc : CfgG g c) (s : PSt) : Sub
  (.iptr false [.sl false 1 (ints c.sel),.sl false 1 (ints c.mode),.sl false 1 (ints c.tab),.sl false 1 (ints c.ram),.sl false 4 (rows quz ((qCr g c.sel.length).take c.sel.length)),.sl false 1 (rows intC ((qCt g c.sel.length).take g.kind.length)),
   .sl false 1 (rows intC ((qCs g c c.sel.length).take c.sel.length)),.sl false 1 (ints s.regs),.sl false 1 (rows (memC false) s.mems),.sl true 1 []] 0)
  (.iptr false (arrC false c (qCr g c.sel.length) (qCt g c.sel.length) (qCs g c c.sel.length) s []) 0) := by
 have h1 := qD5 g c.sel.length
 have h2 := qD6 g c c.sel.length
 have h3 := qD7 hg hc
 rw [List.take_of_length_le (by omega),List.take_of_length_le (by omega),List.take_of_length_le (by omega)]
 exact qD4 ⟨.refl _,.refl _,.refl _,.refl _,.refl _,.refl _,.refl _,.refl _,.refl _,slTF _ _,trivial⟩
def tkS (g : Grid) (c : Cfg) (r : Int) (v : List Bool) : Nat -> St
 | 0 => ⟨[(4, .nil), (5, .nil), (6, .ptr 6 0), (7, .ptr 7 0), (8, .ptr 8 0), (9, .ptr 9 0), (12, .ptr 12 0), (13, .ptr 313 0), (14, .sl true 1 (rows qk7 v)), (15, .ptr 15 0), (16, .nil), (35, .sl false 1 (ints [2, 0])), (36, .int 2), (37, .int 0)],
   [(6,quy false g),(7,cfgC false c),(8,[.nil,.nil]),(9,pstC false ⟨[r],[]⟩),(12,[.bool false,.nil,.nil,.nil,.nil]),(15,[.nil,.nil,.nil,.nil]),(313,opX c ⟨[r],[]⟩ (.view 335 0 c.sel.length) (.view 348 0 g.kind.length) (.view 367 0 c.sel.length))],opA g c c.sel.length,[]⟩
 | k + 1 => ⟨[(4, .nil), (5, .nil), (6, .ptr 6 0), (7, .ptr 7 0), (8, .ptr 8 0), (9, .ptr 9 0), (12, .ptr 12 0), (13, .ptr 313 0), (14, .sl true 1 (rows qk7 v)), (15, .ptr 15 0), (16, .view 74 0 1), (35, .sl false 1 (ints [2, 0])), (36, .int 2), (37, .int (if k = 0 then 1 else 2))],
   [(6,quy false g),(7,cfgC false c),(8,[.nil,.nil]),(9,pstC false ⟨[r],[]⟩),(12,[.bool false,.nil,.nil,.nil,.nil]),(15,[.nil,.nil,.view 60 0 1,.nil]),(313,opX c ⟨[r],[]⟩ (.view 335 0 c.sel.length) (.view 348 0 g.kind.length) (.view 367 0 c.sel.length))],
   [(60,⟨3,151,[[.int 1,.int 0,.int 0]]⟩),(74,⟨1,4,[[.bool (v.getD 0 false)]]⟩)] ++ opA g c c.sel.length,[]⟩
set_option maxHeartbeats 8000000 in
theorem qFP (g : Grid) (hg : GOk g) (c : Cfg) (hc : CfgG g c) (r : Int) (hm : c.mode = [2, 0]) (hr : c.ram = [0, 0]) : FnEq Tryz.prog 38 [.agg (quy false g), .agg (cfgC false c), .agg [.nil, .nil], .agg (pstC false ⟨[r], []⟩), .nil, .nil]
  (.agg [.bool false,.sl true 1 [[.int (wF ((setF g c ⟨[r],[]⟩ []).getD 0 false))]],.nil,.nil,.nil]) := by
 have e0 : ∀ (l : List Int) (j : Nat),l.getD j default = l.getD j 0 := fun _ _ => rfl
 have e1 : ∀ (l : List Bool) (j : Nat),l.getD j default = l.getD j false := fun _ _ => rfl
 have hS := qD1 g hg c hc ⟨[r],[]⟩ []
 rw [show qxl (rndF g c ⟨[r],[]⟩ []) c.sel.length c.sel.length (List.replicate c.sel.length false) = setF g c ⟨[r],[]⟩ [] from rfl] at hS
 have hA := qFO hg hc ⟨[r],[]⟩
 refine FnEq.of_awp Tryz.func38 ok38 (by show 6 <= _; decide) (by simp only [push_cast,reduceIte,reduceEqDiff,reduceAdd,reduceSub,reduceMul,Nat.reduceBEq,reduceLT,reduceLeDiff,reduceCtorEq,reduceToNat,reduceNeg] <;> first | exact fun _ _ => trivial | simp) ?_
 simp only [ac38,rv38,push_cast,reduceIte,reduceEqDiff,reduceAdd,reduceSub,reduceMul,Nat.reduceBEq,reduceLT,reduceLeDiff,reduceCtorEq,reduceToNat,reduceNeg]
 show allK _ _ _ _ _ _
 refine regT g hg c hc ⟨[r],[]⟩ _ ?_
 simp only [slA,putD,vT,xs38_1,sT,bT,aT,opA,List.cons_append,List.nil_append,push_cast,reduceIte,reduceEqDiff,reduceAdd,reduceSub,reduceMul,Nat.reduceBEq,reduceLT,reduceLeDiff,reduceCtorEq,reduceToNat,reduceNeg]
 refine qrm hS ⟨hA,trivial⟩ ?_
 have hvl : (setF g c ⟨[r],[]⟩ []).length = c.sel.length := qD0 (by simp) _
 have hfl := qD7 hg hc
 have hcn := hg.count
 have hpd := hg.pads
 have hC : quD g = allI g + 2 * g.pads := rfl
 have hall := hg.all
 have l1 := hc.ln.1
 have hf0 : (qCt g c.sel.length).getD 0 0 = 0 := by
  rw [l1,qCw hg]
  have := hg.wh
  have := hg.kind
  obtain ⟨n,hn⟩ : ∃ n,g.kind.length = n + 1 := ⟨g.kind.length - 1,by omega⟩
  rw [hn,List.range_succ_eq_map]
  simp
 generalize setF g c ⟨[r],[]⟩ [] = v at *
 refine sB ?_
 refine qoH (fun m st => (m = 2 /\ st = tkS g c r v 0) \/ (m = 1 /\ st = tkS g c r v 1) \/ (m = 0 /\ st = tkS g c r v 2)) 2 ?_ ?_
 ·refine .inl ⟨rfl,?_⟩
  simp only [tkS,opA,hm,List.length_cons,List.length_nil,push_cast,reduceIte,reduceEqDiff,reduceAdd,reduceSub,reduceMul,Nat.reduceBEq,reduceLT,reduceLeDiff,reduceCtorEq,reduceToNat,reduceNeg]
  try rfl
 rintro m st (⟨rfl,rfl⟩ | ⟨rfl,rfl⟩ | ⟨rfl,rfl⟩)
 ·simp only [tkS,opA,hm,hr,e0,e1,hf0,quY,List.getD_cons_zero,List.length_cons,List.length_nil,push_cast,reduceIte,reduceEqDiff,reduceAdd,reduceSub,reduceMul,Nat.reduceBEq,reduceLT,reduceLeDiff,reduceCtorEq,reduceToNat,reduceNeg]
  refine qnR (fun _ => ?_) fun h => absurd (by decide) h
  have hwh := hg.wh
  have hkd := hg.kind
  refine ⟨⟨by decide,by decide⟩,⟨by decide,by decide⟩,⟨by decide,by decide,by decide⟩,⟨by decide,by decide⟩,⟨by decide,by decide,by decide⟩,⟨by omega,by omega⟩,by omega,⟨by omega,by omega⟩,by omega,by simp,?_⟩
  exact ⟨⟨by decide,by decide⟩,1,by decide,.inr (.inl ⟨rfl,rfl⟩)⟩
 ·simp only [tkS,opA,hm,hr,e0,e1,List.getD_cons_zero,List.getD_cons_succ,List.length_cons,List.length_nil,push_cast,reduceIte,reduceEqDiff,reduceAdd,reduceSub,reduceMul,Nat.reduceBEq,reduceLT,reduceLeDiff,reduceCtorEq,reduceToNat,reduceNeg]
  refine qnR (fun _ => ?_) fun h => absurd (by decide) h
  refine ⟨⟨by decide,by decide⟩,?_⟩
  refine qnR (fun h => absurd h (by decide)) fun _ => ?_
  exact ⟨⟨by decide,by decide⟩,0,by decide,.inr (.inr ⟨rfl,rfl⟩)⟩
 ·simp only [tkS,opA,hm,hr,List.getD_cons_zero,List.length_cons,List.length_nil,push_cast,reduceIte,reduceEqDiff,reduceAdd,reduceSub,reduceMul,Nat.reduceBEq,reduceLT,reduceLeDiff,reduceCtorEq,reduceToNat,reduceNeg]
  refine qnR (fun h => absurd h (by decide)) fun _ => ?_
  refine ⟨⟨by decide,by decide⟩,⟨by omega,by omega⟩,⟨by omega,by omega,by omega⟩,⟨by decide,by decide⟩,?_⟩
  refine qoH (fun _ s => s = _) 0 rfl ?_
  rintro _ _ rfl
  refine sB ?_
  refine qnR (fun h => absurd h (by decide)) fun _ => ?_
  refine qrm (qFK (v.getD 0 false) r) ?_ ?_
  ·refine sB ?_
   exact ⟨.refl _,.refl _⟩
  ·refine sB ?_
   exact fun x hx => absurd hx (by simp)
end Go.Proofs.YtdmkfgkmnpohlaaGreat
namespace Go.Proofs.YtdmkfgkmnpohlaaGreat.Txt
open Go Go.Vc
set_option maxRecDepth 100000
def ac19i : AC :=
 (.seq (.reg [0,31,0] [
 (aO 2 (.alc [zI,zI,zI,zI,.nil,.nil,.nil,.nil,.nil,.nil,.nil,.nil,.nil]))])
 (.seq (.reg [0,31,0,2] [
 (aO 6 (.bsl 1 3 [zI] 2 [(0,(kI 1)),(1,(kI 2))])),(aO 7 (.bld [zI,zI,zI,zI,.nil] [(0,1,(kI 2)),(1,1,(kI 1)),(2,1,(kI 1)),(3,1,(kI 1)),(4,1,(.t 6))])),(aO 3 (.alc [zI,zI,zI,zI,.nil])),(aN (.sto 5 (.t 3) (.t 7)))])
 (.seq (.frz [6] (.wk (.reg [0,31,0,2,3] [
 (aO 8 (.ld true 5 (.t 3))),(aO 9 (.clm 37 [(.t 8)])),(aO 4 (.alc [.nil,.nil,.nil,.nil])),(aN (.sto 4 (.t 4) (.t 9)))])))
 (.seq (.reg [0,31,0,2,3,4] [
 (aO 10 (.fa 1 (.t 4))),(aO 11 (.ld false 1 (.t 10))),(aO 12 (.ixs 1 (.t 11) (kI 0))),(aN (.sto 1 (.t 12) (kI 2)))])
 (.seq (.reg [0,31,0,2,3,4] [
 (aO 13 (.fa 2 (.t 4))),(aO 14 (.ld false 1 (.t 13))),(aO 15 (.ixs 1 (.t 14) (kI 0))),(aN (.sto 1 (.t 15) (kI 1)))])
 (.seq (.reg [0,31,0,2,3,4] [
 (aO 16 (.fa 0 (.t 4))),(aO 17 (.ld false 1 (.t 16))),(aO 18 (.mv (.t 0))),(aO 19 (.ixs 1 (.t 17) (kI 6))),(aN (.sto 1 (.t 19) (.t 18)))])
 (.seq (.seq (.reg [0,31,2,3,4] [
 (aO 5 (.mv (kI 2)))])
 (.block 0
 (.loop [0,31,2,3,4,5]
 (.seq (.seq (.reg [0,31,2,3,4,5] [
 (aO 20 (.mv (.t 5))),(aO 21 (.cmp .lss .i64 (.t 20) (kI 6)))])
 (.cond (.t 21)
 .skip
 (.exit 0)))
 (.seq (.block 1
 (.reg [0,31,2,3,4,5] [
 (aO 24 (.fa 0 (.t 4))),(aO 25 (.ld false 1 (.t 24))),(aO 26 (.mv (.t 5))),(aO 27 (.ixs 1 (.t 25) (.t 26))),(aN (.sto 1 (.t 27) (kI 1)))]))
 (.reg [0,31,2,3,4,5] [
 (aO 22 (.mv (.t 5))),(aO 23 (.ari .add true .i64 (.t 22) (kI 1))),(aO 5 (.mv (.t 23)))]))))))
 (.seq (.reg [0,31,2,3,4] [
 (aO 28 (.ld true 5 (.t 3))),(aO 29 (.ld true 4 (.t 4))),(aO 30 (.clm 25 [(.t 28),(.t 29)])),(aN (.sto 13 (.t 2) (.t 30)))])
 .ret))))))))
def rv19i : List RV := [.cell 2 true 13]
theorem ok19i : fnOk Tryz.prog ac19i rv19i Tryz.f19 = true := by kernel_rfl

def ac25_100i : AC :=
 (.seq (.reg [100,11,100,101] [
 (aO 102 (.box (.t 100))),(aO 103 (.box (.t 101))),(aO 104 (.alc [zI,zI,zI,zI,.nil,.nil,.nil,.nil,.nil,.nil,.nil,.nil,.nil]))])
 (.seq (.drw [100,11,102,103,104] [
 (eT 105 (.ld true 5 (.t 102))),(eT 106 (.ld true 4 (.t 103))),(eT 107 (.ld true 5 (.t 102))),(eT 108 (.ld true 4 (.t 103))),(eT 109 (.cal 47 [(.t 107),(.t 108)])),(eF 110 (.bld [zI,zI,zI,zI,.nil,.nil,.nil,.nil,.nil,.nil,.nil,.nil,.nil] [(0,5,(.t 105)),(5,4,(.t 106)),(9,1,(.t 109))])),⟨(aN (.sto 13 (.t 104) (.t 110))),[],[],false⟩])
 .ret))
def rv25_100i : List RV := [.cell 104 true 13]
theorem ok25_100i : qh0 Tryz.prog 100 ac25_100i rv25_100i Tryz.f25 = true := by kernel_rfl
end Go.Proofs.YtdmkfgkmnpohlaaGreat.Txt
namespace Go.Proofs.YtdmkfgkmnpohlaaGreat
open Go Go.Vc Txt
theorem qFQ (g : Grid) (hg : GOk g) : FnM (Env.of Tryz.prog) 37 [.agg (quy true g)] ⟨[],[],[],[]⟩ (fun v st' => v = .agg (wilV (qwM g)) /\ st' = ⟨[],[],wilA (qwM g),[]⟩) := by
 have h1 := hg.count
 have h2 := hg.wh
 have h3 := hg.kind
 refine FnM.dropB 201 (FnM.dropB 202 ?_)
 refine qtT 200 Tryz.func37 ok37_200w (by show 1 <= _; decide) rfl (by decide) ?_
 simp only [ac37_200w,rv37_200w,push_cast,reduceIte,reduceEqDiff,reduceAdd,reduceSub,reduceMul,Nat.reduceBEq,reduceLT,reduceLeDiff,reduceCtorEq,reduceToNat,reduceNeg]
 refine ⟨by omega,?_⟩
 refine qro (quI g hg) ⟨qDV g,trivial⟩ rfl ?_
 refine sB ?_
 refine ⟨by omega,by omega,by omega,by omega,?_,?_⟩
 ·simp [wilV,qwM]
  omega
 ·rw [show (g.w * g.h).toNat = g.kind.length by omega]
  simp only [wilA,qwM,List.length_replicate,push_cast,reduceIte,reduceEqDiff,reduceAdd,reduceSub,reduceMul,Nat.reduceBEq,reduceLT,reduceLeDiff,reduceCtorEq,reduceToNat,reduceNeg]
def gX : Grid := ⟨2,1,1,1,[1,2]⟩
theorem qFR : GOk gX := ⟨by decide,by decide,by decide,by decide,by decide⟩
def cX (k : Int) : Cfg := ⟨[0,0,1,1,1,1,k,0,0,0,0,0,0,0,0,0,0,0],[2,0],[1,0],[0,0]⟩
theorem blX : qwM gX = ⟨[0,0,0,0,0,0,0,0,0,0,0,0,0,0,0,0,0,0],[0,0],[0,0],[0,0]⟩ := by decide +kernel
instance (g : Grid) (c : Cfg) (t : Nat) : Decidable (qz1 g c t) := by unfold qz1; infer_instance
theorem qFS (k : Int) (hk : k = 1 \/ k = 2) : CfgG gX (cX k) := by
 have key : ∀ i,i < 18 -> (cX k).sel.getD i 0 ≠ 0 -> 1 <= (cX k).sel.getD i 0 /\ (cX k).sel.getD i 0 <= ((rdrF gX (i : Nat)).length : Int) := by
  rcases hk with rfl | rfl <;> decide +kernel
 have h18 : (cX k).sel.length = 18 := rfl
 refine ⟨⟨by rw [h18]; decide,rfl,rfl,rfl⟩,⟨by rw [h18]; decide,fun i hi h => ?_⟩,by rcases hk with rfl | rfl <;> decide⟩
 rw [qyE qFR]
 exact key i (by omega) h
def selI (k : Int) : Nat -> List Int
 | 0 => [0,0,0,0,0,0,k,0,0,0,0,0,0,0,0,0,0,0]
 | j + 1 => (selI k j).set (j + 2) 1
theorem qFT (k : Int) : ∀ j,(selI k j).length = 18
 | 0 => rfl
 | j + 1 => by rw [selI,List.length_set,qFT k j]
def ofiB : List (Nat × List PV) := [(2,[.int 0,.int 0,.int 0,.int 0,.nil,.nil,.nil,.nil,.nil,.nil,.nil,.nil,.nil]),(3,quy true gX),(4,[.view 211 0 18,.view 213 0 2,.view 215 0 2,.view 217 0 2])]
def ofiA (k : Int) : List (Nat × Arr) := [(211,⟨1,3,ints (selI k 4)⟩),(213,⟨1,3,ints [2,0]⟩),(215,⟨1,3,ints [1,0]⟩),(217,⟨1,3,ints [0,0]⟩)]
set_option maxHeartbeats 4000000 in
theorem qFU (k : Int) (hk : k = 1 \/ k = 2) : FnM (Env.of Tryz.prog) 25 [.agg (quy true gX), .agg [.view 211 0 18, .view 213 0 2, .view 215 0 2, .view 217 0 2]] ⟨[(2, .ptr 2 0), (3, .ptr 3 0), (4, .ptr 4 0)], ofiB, ofiA k, []⟩
  (fun v st' => v = .agg (quy true gX ++ [.view 211 0 18,.view 213 0 2,.view 215 0 2,.view 217 0 2,.sl true 1 (ints (qCs gX (cX k) 18)),.nil,.nil,.nil]) /\ st' = ⟨[(2,.ptr 2 0),(3,.ptr 3 0),(4,.ptr 4 0)],ofiB,ofiA k,[]⟩) := by
 have hD := qE0 gX qFR (cX k) (qFS k hk)
 rw [show (cX k).sel.length = 18 from rfl] at hD
 generalize qCs gX (cX k) 18 = dr at *
 refine FnM.dropB 102 (FnM.dropB 103 (FnM.dropB 104 ?_))
 simp only [ofiB,ofiA,push_cast,reduceIte,reduceEqDiff,reduceAdd,reduceSub,reduceMul,Nat.reduceBEq,reduceLT,reduceLeDiff,reduceCtorEq,reduceToNat,reduceNeg]
 refine qtT 100 Tryz.func25 ok25_100i (by show 2 <= _; decide) rfl (by decide) ?_
 simp only [ac25_100i,rv25_100i,push_cast,reduceIte,reduceEqDiff,reduceAdd,reduceSub,reduceMul,Nat.reduceBEq,reduceLT,reduceLeDiff,reduceCtorEq,reduceToNat,reduceNeg]
 refine qro hD ⟨qDV gX,.refl _,trivial⟩ rfl ?_
 simp only [push_cast,reduceIte,reduceEqDiff,reduceAdd,reduceSub,reduceMul,Nat.reduceBEq,reduceLT,reduceLeDiff,reduceCtorEq,reduceToNat,reduceNeg]
 done
set_option maxHeartbeats 4000000 in
theorem qFV (k : Int) (hk : k = 1 \/ k = 2) : FnEq Tryz.prog 19 [.int k] (.agg (ofC gX (cX k) (qCs gX (cX k) (cX k).sel.length))) := by
 have hO := qFU k hk
 rw [show (cX k).sel.length = 18 from rfl]
 generalize qCs gX (cX k) 18 = dr at *
 refine FnEq.of_awp Tryz.func19 ok19i (by show 1 <= _; decide) (by simp only [push_cast,reduceIte,reduceEqDiff,reduceAdd,reduceSub,reduceMul,Nat.reduceBEq,reduceLT,reduceLeDiff,reduceCtorEq,reduceToNat,reduceNeg] <;> first | exact fun _ _ => trivial | simp) ?_
 simp only [ac19i,rv19i,push_cast,reduceIte,reduceEqDiff,reduceAdd,reduceSub,reduceMul,Nat.reduceBEq,reduceLT,reduceLeDiff,reduceCtorEq,reduceToNat,reduceNeg]
 refine ⟨by simp,?_⟩
 refine qr1 _ (Wk.refl _) ?_
 refine sB ?_
 refine qCR [] [211,213,215,217] (qFQ gX qFR) rfl rfl rfl ?_
 rw [blX]
 simp only [wilV,wilA,List.length_cons,List.length_nil,push_cast,reduceIte,reduceEqDiff,reduceAdd,reduceSub,reduceMul,Nat.reduceBEq,reduceLT,reduceLeDiff,reduceCtorEq,reduceToNat,reduceNeg]
 refine ⟨by decide,by decide,by decide,?_⟩
 refine qoH (fun m st => ∃ j : Nat,j <= 4 /\ m = 4 - j /\ st = ⟨[(2,.ptr 2 0),(3,.ptr 3 0),(4,.ptr 4 0),(5,.int ((j : Int) + 2))],
  [(2,[.int 0,.int 0,.int 0,.int 0,.nil,.nil,.nil,.nil,.nil,.nil,.nil,.nil,.nil]),(3,quy true gX),(4,[.view 211 0 18,.view 213 0 2,.view 215 0 2,.view 217 0 2])],
  [(211,⟨1,3,ints (selI k j)⟩),(213,⟨1,3,ints [2,0]⟩),(215,⟨1,3,ints [1,0]⟩),(217,⟨1,3,ints [0,0]⟩)],[]⟩) 4 ?_ ?_
 ·refine ⟨0,by omega,by omega,?_⟩
  refine sB ?_
  rfl
 rintro m st ⟨j,hj,rfl,rfl⟩
 have hl := qFT k j
 refine sB ?_
 refine qnR (fun h => ?_) fun h => ?_
 ·refine ⟨by omega,by omega,by omega,_,?_,j + 1,by omega,rfl,?_⟩
  ·omega
  ·rw [show ((j : Int) + 2).toNat = j + 2 by omega,show (j : Int) + 2 + 1 = ((j + 1 : Nat) : Int) + 2 by omega]
   rfl
 ·have hj4 : j = 4 := by omega
  subst hj4
  refine qss (Q := fun v st' => v = .agg (quy true gX ++ [.view 211 0 18,.view 213 0 2,.view 215 0 2,.view 217 0 2,.sl true 1 (ints dr),.nil,.nil,.nil]) /\ st' = ⟨[(2,.ptr 2 0),(3,.ptr 3 0),(4,.ptr 4 0)],ofiB,ofiA k,[]⟩)
   (FnM.only [2,3,4] [2,3,4] [211,213,215,217] [] ?_) ?_
  ·refine sB ?_
   exact hO
  rintro v st' ⟨rfl,rfl⟩
  simp only [ofiB,ofiA,List.cons_append,List.nil_append,push_cast,reduceIte,reduceEqDiff,reduceAdd,reduceSub,reduceMul,Nat.reduceBEq,reduceLT,reduceLeDiff,reduceCtorEq,reduceToNat,reduceNeg]
  exact ⟨⟨fun _ _ => trivial,fun _ _ => trivial,fun _ _ => trivial,fun _ _ => trivial,fun _ _ => trivial,fun _ _ => trivial⟩,.refl _,.refl _,.refl _,.refl _⟩
set_option maxHeartbeats 4000000 in
theorem qFW (g : Grid) (hg : GOk g) (c : Cfg) (hc : CfgG g c) (r : Int) (hm : c.mode = [2, 0]) (hr : c.ram = [0, 0]) : FnEq Tryz.prog 20 [.agg (qDX false g c (qCs g c c.sel.length) ⟨[r], []⟩ []), .agg [.nil, .nil], .agg [.nil, .nil]]
  (.agg [.bool false,.sl true 1 [[.int (wF ((setF g c ⟨[r],[]⟩ []).getD 0 false))]],.nil,.nil,.nil]) := by
 have hT := qFP g hg c hc r hm hr
 generalize qCs g c c.sel.length = dr at *
 generalize wF ((setF g c ⟨[r],[]⟩ []).getD 0 false) = w at *
 refine FnEq.of_awp Tryz.func20 ok20 (by show 3 <= _; decide) (by simp only [push_cast,reduceIte,reduceEqDiff,reduceAdd,reduceSub,reduceMul,Nat.reduceBEq,reduceLT,reduceLeDiff,reduceCtorEq,reduceToNat,reduceNeg] <;> first | exact fun _ _ => trivial | simp) ?_
 simp only [ac20,rv20,push_cast,reduceIte,reduceEqDiff,reduceAdd,reduceSub,reduceMul,Nat.reduceBEq,reduceLT,reduceLeDiff,reduceCtorEq,reduceToNat,reduceNeg]
 refine qrm hT sC ?_
 refine sB ?_
 exact fun x hx => absurd hx (by simp)
def drX (k : Int) (i : Nat) : Int := if (cX k).sel.getD i 0 = 0 \/ ((rdrF gX i).length : Int) < (cX k).sel.getD i 0 then -1 else (rdrF gX i).getD ((cX k).sel.getD i 0 - 1).toNat 0
theorem qFX (k : Int) (i : Nat) : qzD gX (cX k) i = drX k i := by
 rw [qzD,qyE qFR]
 rfl
def rndX (k : Int) (s : PSt) (v : List Bool) (i : Nat) : Bool :=
 if (quJ gX i).kind = 6 then ([] : List Bool).getD (quJ gX i).i.toNat false
 else if (quJ gX i).kind = 1 then qwV (cX k) s (i / qC4 gX) (qC3 v i)
 else if (quJ gX i).kind = 2 then qwW (cX k) s (i / qC4 gX)
 else drvV (drX k i) v
theorem qFY (k : Int) (s : PSt) : rndF gX (cX k) s [] = rndX k s := by
 funext v i
 rw [rndF,qFX]
 rfl
def depX (k : Int) (i : Nat) : List Nat :=
 if (quJ gX i).kind = 1 then
  (if (cX k).mode.getD (i / qC4 gX) 0 = 1 \/ (cX k).mode.getD (i / qC4 gX) 0 = 2 then [i + 2,i + 3,i + 4,i + 5] else if (cX k).mode.getD (i / qC4 gX) 0 = 3 then [i + 2,i + 3,i + 4] else [])
 else if 0 <= drX k i then [(drX k i).toNat] else []
theorem qFZ (k : Int) : depF gX (cX k) = depX k := by
 funext i
 rw [depF,qFX]
 rfl
def vX0 : List Bool := qxl (rndX 2 ⟨[0],[]⟩) 18 18 (List.replicate 18 false)
def vX1 : List Bool := qxl (rndX 2 ⟨[1],[]⟩) 18 18 (List.replicate 18 false)
theorem qG0 : setF gX (cX 2) ⟨[0],[]⟩ [] = vX0 := by rw [setF,qFY]; rfl
theorem qG1 : setF gX (cX 2) ⟨[1],[]⟩ [] = vX1 := by rw [setF,qFY]; rfl
theorem vX0_at : vX0.length = 18 /\ vX0.getD 0 false = true /\ vX0.getD 6 false = false := by decide +kernel
theorem vX1_at : vX1.length = 18 /\ vX1.getD 0 false = false /\ vX1.getD 1 false = true /\ vX1.getD 6 false = true := by decide +kernel
theorem stX1 : qxj (rndF gX (cX 2) ⟨[1],[]⟩ []) 18 vX1 = vX1 := by rw [qFY]; decide +kernel
theorem stX0 : qxj (rndF gX (cX 2) ⟨[1],[]⟩ []) 18 vX0 ≠ vX0 := by rw [qFY]; decide +kernel
theorem lpX2 : qxJ (depF gX (cX 2)) 18 = false := by rw [qFZ]; decide +kernel
theorem lpX1 : qxJ (depF gX (cX 1)) 18 = true := by rw [qFZ]; decide +kernel
end Go.Proofs.YtdmkfgkmnpohlaaGreat
namespace Go.Proofs.YtdmkfgkmnpohlaaGreat.Txt
open Go Go.Vc
set_option maxRecDepth 100000
def ac29_1000_r14 : AC :=
 (.seq (.seq (.reg [1000,76,1000,1001,1005,1008] [
 (aO 1070 (.mv (.t 1008))),(aO 1071 (.ld false 1 (.t 1005))),(aO 1072 (.clm 31 [(.t 1070),(.t 1071)]))])
 (.cond (.t 1072)
 (.seq (.reg [1000,76] [
 (aO 1007 (.mv (.c (.sc (.bool true)))))])
 .ret)
 .skip))
 (.seq (.reg [1000,76,1000,1001] [
 (aO 1073 (.ld false 1 (.t 1001))),(aO 1074 (.mv (.t 1000))),(aO 1075 (.ixs 1 (.t 1073) (.t 1074))),(aN (.sto 1 (.t 1075) (kI 2)))])
 (.seq (.reg [1000,76] [
 (aO 1007 (.mv (.c (.sc (.bool false)))))])
 .ret)))
def ac29_1000 : AC :=
 (.seq (.reg [1000,76,1000,1001,1002,1003,1004,1005] [
 (aO 1007 (.mv (.c (.sc (.bool false)))))])
 (.seq (.seq (.reg [1000,76,1000,1001,1002,1003,1004,1005] [
 (aO 1012 (.ld false 1 (.t 1001))),(aO 1013 (.mv (.t 1000))),(aO 1014 (.ixs 1 (.t 1012) (.t 1013))),(aO 1015 (.ld false 1 (.t 1014))),(aO 1016 (.cmp .neq .i64 (.t 1015) (kI 0)))])
 (.cond (.t 1016)
 (.seq (.reg [1000,76,1000,1001] [
 (aO 1017 (.ld false 1 (.t 1001))),(aO 1018 (.mv (.t 1000))),(aO 1019 (.ixs 1 (.t 1017) (.t 1018))),(aO 1020 (.ld false 1 (.t 1019))),(aO 1021 (.cmp .eql .i64 (.t 1020) (kI 1))),(aO 1007 (.mv (.t 1021)))])
 .ret)
 .skip))
 (.seq (.reg [1000,76,1000,1001,1002,1003,1004,1005] [
 (aO 1022 (.ld false 1 (.t 1001))),(aO 1023 (.mv (.t 1000))),(aO 1024 (.ixs 1 (.t 1022) (.t 1023))),(aN (.sto 1 (.t 1024) (kI 1)))])
 (.seq (.reg [1000,76,1000,1001,1002,1003,1004,1005] [
 (aO 1008 (.mv (.c (.nil))))])
 (.seq (.seq (.reg [1000,76,1000,1001,1002,1003,1004,1005,1008] [
 (aO 1026 (.ld false 1 (.t 1002))),(aO 1027 (.nck (.t 1026))),(aO 1028 (.fa 5 (.t 1027))),(aO 1029 (.ld false 1 (.t 1028))),(aO 1030 (.mv (.t 1000))),(aO 1031 (.cal 30 [(.t 1029),(.t 1030)])),(aO 1025 (.mv (.t 1031))),(aO 1032 (.ext (.t 1025) 0)),(aO 1033 (.ext (.t 1025) 1)),(aO 1009 (.mv (.t 1032))),(aO 1010 (.mv (.t 1033)))])
 (.seq (.reg [1000,76,1000,1001,1002,1003,1004,1005,1008,1009,1010] [
 (aO 1034 (.mv (.t 1010)))])
 (.cond (.t 1034)
 (.seq (.reg [1000,76,1000,1001,1003,1004,1005,1008,1009] [
 (aO 1035 (.fa 1 (.t 1004))),(aO 1036 (.ld false 1 (.t 1035))),(aO 1037 (.mv (.t 1009))),(aO 1038 (.ixs 1 (.t 1036) (.t 1037))),(aO 1039 (.ld false 1 (.t 1038))),(aO 1040 (.ixa 4 3 (.t 1003) (.t 1039))),(aO 1041 (.fa 2 (.t 1040))),(aO 1042 (.ld false 1 (.t 1041))),(aO 1043 (.mv (kI 0)))])
 (.block 0
 (.loop [1000,76,1000,1001,1005,1008,1042,1043]
 (.seq (.reg [1000,76,1000,1001,1005,1008,1042,1043] [
 (aO 1044 (.cmp .lss .i64 (.t 1043) (.t 1042)))])
 (.seq (.cond (.t 1044)
 .skip
 (.exit 0))
 (.seq (.block 1
 (.seq (.reg [1000,76,1000,1001,1005,1008,1042,1043] [
 (aO 1045 (.mv (.t 1043))),(aO 1011 (.mv (.t 1045)))])
 (.reg [1000,76,1000,1001,1005,1008,1011,1042,1043] [
 (aO 1046 (.mv (.t 1008))),(aO 1047 (.mv (.t 1000))),(aO 1048 (.ari .add true .i64 (.t 1047) (kI 2))),(aO 1049 (.mv (.t 1011))),(aO 1050 (.ari .add true .i64 (.t 1048) (.t 1049))),(aO 1051 (.bsl 1 3 [zI] 1 [(0,(.t 1050))])),(aO 1052 (.app 1 3 8 (.t 1046) (.t 1051))),(aO 1008 (.mv (.t 1052)))])))
 (.reg [1000,76,1000,1001,1005,1008,1042,1043] [
 (aO 1053 (.ari .add true .i64 (.t 1043) (kI 1))),(aO 1043 (.mv (.t 1053)))])))))))
 (.seq (.reg [1000,76,1000,1001,1002,1005,1008] [
 (aO 1054 (.ld false 1 (.t 1002))),(aO 1055 (.nck (.t 1054))),(aO 1056 (.fa 6 (.t 1055))),(aO 1057 (.ld false 1 (.t 1056))),(aO 1058 (.mv (.t 1000))),(aO 1059 (.ixs 1 (.t 1057) (.t 1058))),(aO 1060 (.ld false 1 (.t 1059))),(aO 1061 (.cmp .geq .i64 (.t 1060) (kI 0)))])
 (.cond (.t 1061)
 (.reg [1000,76,1000,1001,1002,1005] [
 (aO 1062 (.ld false 1 (.t 1002))),(aO 1063 (.nck (.t 1062))),(aO 1064 (.fa 6 (.t 1063))),(aO 1065 (.ld false 1 (.t 1064))),(aO 1066 (.mv (.t 1000))),(aO 1067 (.ixs 1 (.t 1065) (.t 1066))),(aO 1068 (.ld false 1 (.t 1067))),(aO 1069 (.bsl 1 3 [zI] 1 [(0,(.t 1068))])),(aO 1008 (.mv (.t 1069)))])
 .skip)))))
 (.frz [1008] (.wk ac29_1000_r14)))))))
def rv29_1000 : List RV := [.tmp 1007]
theorem ok29_1000 : qh0 Tryz.prog 1000 ac29_1000 rv29_1000 Tryz.f29 = true := by kernel_rfl

def ac31_1100 : AC :=
 (.seq (.reg [1100,9,1100,1101] [
 (aO 1104 (.mv (.c (.sc (.bool false)))))])
 (.seq (.reg [1100,9,1100,1101] [
 (aO 1105 (.mv (.t 1100))),(aO 1106 (.mv (.t 1101))),(aO 1107 (.clm 59 [(.t 1105),(.t 1106)])),(aO 1108 (.cmp .geq .i64 (.t 1107) (kI 0))),(aO 1104 (.mv (.t 1108)))])
 .ret))
def rv31_1100 : List RV := [.tmp 1104]
theorem ok31_1100 : qh0 Tryz.prog 1100 ac31_1100 rv31_1100 Tryz.f31 = true := by kernel_rfl

def ac59_1200 : AC :=
 (.seq (.reg [1200,19,1200,1201] [
 (aO 1204 (.mv (kI 0)))])
 (.seq (.seq (.reg [1200,19,1200,1201] [
 (aO 1206 (.mv (.t 1200))),(aO 1207 (.len (.t 1206))),(aO 1208 (.mv (kI 0)))])
 (.block 0
 (.loop [1200,19,1200,1201,1207,1208]
 (.seq (.reg [1200,19,1200,1201,1207,1208] [
 (aO 1209 (.cmp .lss .i64 (.t 1208) (.t 1207)))])
 (.seq (.cond (.t 1209)
 .skip
 (.exit 0))
 (.seq (.block 1
 (.seq (.reg [1200,19,1200,1201,1207,1208] [
 (aO 1210 (.mv (.t 1208))),(aO 1205 (.mv (.t 1210)))])
 (.seq (.reg [1200,19,1200,1201,1205,1207,1208] [
 (aO 1211 (.mv (.t 1201))),(aO 1212 (.mv (.t 1200))),(aO 1213 (.mv (.t 1205))),(aO 1214 (.ixs 1 (.t 1212) (.t 1213))),(aO 1215 (.ld false 1 (.t 1214))),(aO 1216 (.clv (.t 1211) [(.t 1215)]))])
 (.cond (.t 1216)
 (.seq (.reg [1200,19,1205] [
 (aO 1217 (.mv (.t 1205))),(aO 1204 (.mv (.t 1217)))])
 .ret)
 .skip))))
 (.reg [1200,19,1200,1201,1207,1208] [
 (aO 1218 (.ari .add true .i64 (.t 1208) (kI 1))),(aO 1208 (.mv (.t 1218)))])))))))
 (.seq (.reg [1200,19] [
 (aO 1204 (.mv (kI (-1))))])
 .ret)))
def rv59_1200 : List RV := [.tmp 1204]
theorem ok59_1200 : qh0 Tryz.prog 1200 ac59_1200 rv59_1200 Tryz.f59 = true := by kernel_rfl

def ac10 : AC :=
 (.seq (.reg [0,33,0,1] [
 (aO 2 (.box (.t 0))),(aO 3 (.box (.t 1))),(aO 4 (.mv (.c (.sc (.bool false)))))])
 (.seq (.reg [0,33,2,3] [
 (aO 10 (.ld true 5 (.t 2))),(aO 11 (.ld true 4 (.t 3))),(aO 12 (.clm 27 [(.t 10),(.t 11)])),(aO 13 (.cal 28 [])),(aO 5 (.alc [.sc (.pointer none)])),(aO 6 (.alc [.sc .nilFunc,.sc .nilFunc,zI,.sc .nilFunc,.sc .nilFunc,zI,.sc .nilFunc,.sc .nilFunc,zI,.sc .nilFunc,.sc .nilFunc,zI])),(aN (.sto 1 (.t 5) (.t 12))),(aN (.sto 12 (.t 6) (.t 13)))])
 (.seq (.reg [0,33,3,5,6] [
 (aO 14 (.ld false 1 (.t 5))),(aO 15 (.nck (.t 14))),(aO 16 (.fa 4 (.t 15))),(aO 17 (.ld false 1 (.t 16))),(aO 18 (.len (.t 17))),(aO 19 (.mks 1 3 8 [zI] (.t 18) (.t 18))),(aO 7 (.alc [.nil])),(aN (.sto 1 (.t 7) (.t 19)))])
 (.seq (.reg [0,33,3,5,6,7] [
 (aO 8 (.alc [.sc .nilFunc]))])
 (.seq (.reg [0,33,3,5,6,7,8] [
 (aO 20 (.mkf 29 [(.t 7),(.t 5),(.t 6),(.t 3),(.t 8)])),(aN (.sto 1 (.t 8) (.t 20)))])
 (.seq (.seq (.reg [0,33,5,8] [
 (aO 21 (.ld false 1 (.t 5))),(aO 22 (.nck (.t 21))),(aO 23 (.fa 4 (.t 22))),(aO 24 (.ld false 1 (.t 23))),(aO 25 (.len (.t 24))),(aO 26 (.mv (kI 0)))])
 (.block 0
 (.loop [0,33,8,25,26]
 (.seq (.reg [0,33,8,25,26] [
 (aO 27 (.cmp .lss .i64 (.t 26) (.t 25)))])
 (.seq (.cond (.t 27)
 .skip
 (.exit 0))
 (.seq (.block 1
 (.seq (.reg [0,33,8,25,26] [
 (aO 28 (.mv (.t 26))),(aO 9 (.mv (.t 28)))])
 (.seq (.reg [0,33,8,9,25,26] [
 (aO 29 (.ld false 1 (.t 8))),(aO 30 (.mv (.t 9))),(aO 31 (.clv (.t 29) [(.t 30)]))])
 (.cond (.t 31)
 (.seq (.reg [0,33] [
 (aO 4 (.mv (.c (.sc (.bool true)))))])
 .ret)
 .skip))))
 (.reg [0,33,8,25,26] [
 (aO 32 (.ari .add true .i64 (.t 26) (kI 1))),(aO 26 (.mv (.t 32)))])))))))
 (.seq (.reg [0,33] [
 (aO 4 (.mv (.c (.sc (.bool false)))))])
 .ret)))))))
def rv10 : List RV := [.tmp 4]
theorem ok10 : fnOk Tryz.prog ac10 rv10 Tryz.f10 = true := by kernel_rfl
end Go.Proofs.YtdmkfgkmnpohlaaGreat.Txt
namespace Go.Proofs.YtdmkfgkmnpohlaaGreat
open Go Go.Vc Txt
theorem qG2 (st : List Int) (i : Nat) {v : Int} (hv : v ≠ 0) : qxO (st.set i v) <= qxO st := by
 by_cases h : i < st.length
 ·have := qxP h v
  rw [if_neg hv] at this
  split at this <;> omega
 ·rw [List.set_eq_of_length_le (by omega)]
  omega
theorem qG3 (dep : Nat -> List Nat) : ∀ (k : Nat) (st : List Int) (i : Nat),qxO (dfs dep k st i).2 <= qxO st
 | 0,_,_ => Nat.le_refl _
 | k + 1, st, i => by
   have hL : ∀ (js : List Nat) (s : List Int),qxO (dfsL (dfs dep k) s js).2 <= qxO s := by
    intro js
    induction js with
    | nil => intro s; exact Nat.le_refl _
    | cons j js ih =>
      intro s
      have h1 := qG3 dep k s j
      rw [dfsL]
      split
      ·exact h1
      ·exact Nat.le_trans (ih _) h1
   have h2 := qG2 st i (v := 1) (by decide)
   have h3 := hL (dep i) (st.set i 1)
   rw [dfs]
   split
   ·exact Nat.le_refl _
   ·split
    ·exact Nat.le_trans h3 h2
    ·exact Nat.le_trans (qG2 _ i (by decide)) (Nat.le_trans h3 h2)
def PSL : List (Nat × PV) := [(1,.ptr 7 0),(2,.ptr 5 0),(3,.ptr 6 0),(4,.ptr 3 0),(5,.ptr 8 0)]
@[push_cast] theorem qG4 : PSL = [(1,.ptr 7 0),(2,.ptr 5 0),(3,.ptr 6 0),(4,.ptr 3 0),(5,.ptr 8 0)] := rfl
def argL : List PV := [.ptr 7 0,.ptr 5 0,.ptr 6 0,.ptr 3 0,.ptr 8 0]
@[push_cast] theorem qG5 : argL = [.ptr 7 0,.ptr 5 0,.ptr 6 0,.ptr 3 0,.ptr 8 0] := rfl
def BXL (g : Grid) (c : Cfg) : List (Nat × List PV) := [(3,cfgC false c),(5,[.ptr 313 0]),(6,qxg),(7,[.view 19 0 c.sel.length]),(8,[.clo 29 [7,5,6,3,8]]),(313,opV c (.view 335 0 c.sel.length) (.view 348 0 g.kind.length) (.view 367 0 c.sel.length))]
@[push_cast] theorem qG6 (g : Grid) (c : Cfg) : BXL g c = [(3,cfgC false c),(5,[.ptr 313 0]),(6,qxg),(7,[.view 19 0 c.sel.length]),(8,[.clo 29 [7,5,6,3,8]]),(313,opV c (.view 335 0 c.sel.length) (.view 348 0 g.kind.length) (.view 367 0 c.sel.length))] := rfl
def ARL (g : Grid) (c : Cfg) (st : List Int) : List (Nat × Arr) := (19,⟨1,3,ints st⟩) :: opA g c c.sel.length
@[push_cast] theorem qG7 (g : Grid) (c : Cfg) (st : List Int) : ARL g c st = (19,⟨1,3,ints st⟩) :: opA g c c.sel.length := rfl
def RecL (g : Grid) (c : Cfg) (k : Nat) : Prop := ∀ (i : Nat) (st : List Int) (ls : List (Nat × List (List PV))),st.length = c.sel.length -> i < c.sel.length -> qxO st <= k ->
 FnM (Env.of Tryz.prog) 29 (.int i :: argL) ⟨(0,stkC ls) :: PSL,BXL g c,ARL g c st,[]⟩
  (fun r st' => r = .bool (dfs (depF g c) k st i).1 /\ st' = ⟨(0,stkC ls) :: PSL,BXL g c,ARL g c (dfs (depF g c) k st i).2,[]⟩)
set_option maxHeartbeats 4000000 in
theorem qG8 (g : Grid) (c : Cfg) (k i : Nat) (hrec : RecL g c k) (ls : List (Nat × List (List PV))) (js : List Nat) (hjs : ∀ j ∈ js, j < c.sel.length) (hjl : js.length <= 4) (st : List Int) (hst : st.length = c.sel.length) (hz : qxO st <= k) :
  FnM (Env.of Tryz.prog) 59 [.sl false 1 (ints (natI js)),.clo 29 [7,5,6,3,8]] ⟨(0,stkC ls) :: PSL ++ [(1000,.int i),(1001,.ptr 7 0)],BXL g c,ARL g c st,[]⟩
   (fun r st' => ∃ x : Int,r = .int x /\ (0 <= x ↔ (dfsL (dfs (depF g c) k) st js).1 = true) /\ st' = ⟨(0,stkC ls) :: PSL ++ [(1000,.int i),(1001,.ptr 7 0)],BXL g c,ARL g c (dfsL (dfs (depF g c) k) st js).2,[]⟩) := by
 have e0 : ∀ (l : List Int) (j : Nat),l.getD j default = l.getD j 0 := fun _ _ => rfl
 have hnl : (natI js).length = js.length := by simp [natI]
 simp only [List.cons_append,List.nil_append,push_cast,reduceIte,reduceEqDiff,reduceAdd,reduceSub,reduceMul,Nat.reduceBEq,reduceLT,reduceLeDiff,reduceCtorEq,reduceToNat,reduceNeg]
 refine qtT 1200 Tryz.func59 ok59_1200 (by show 2 <= _; decide) rfl (by show 0 <= 1200; decide) ?_
 simp only [ac59_1200,rv59_1200,push_cast,reduceIte,reduceEqDiff,reduceAdd,reduceSub,reduceMul,Nat.reduceBEq,reduceLT,reduceLeDiff,reduceCtorEq,reduceToNat,reduceNeg]
 refine qoH (fun m s => ∃ (q : Nat) (st1 : List Int),q <= js.length /\ m = js.length - q /\ st1.length = c.sel.length /\ qxO st1 <= k /\ dfsL (dfs (depF g c) k) st js = dfsL (dfs (depF g c) k) st1 (js.drop q) /\
  s = ⟨(0,stkC ls) :: PSL ++ [(1000,.int i),(1001,.ptr 7 0),(1200,.sl false 1 (ints (natI js))),(1201,.clo 29 [7,5,6,3,8]),(1207,.int js.length),(1208,.int q)],BXL g c,ARL g c st1,[]⟩) js.length ?_ ?_
 ·refine ⟨0,st,by omega,by omega,hst,hz,rfl,?_⟩
  simp only [hnl,List.cons_append,List.nil_append,push_cast,reduceIte,reduceEqDiff,reduceAdd,reduceSub,reduceMul,Nat.reduceBEq,reduceLT,reduceLeDiff,reduceCtorEq,reduceToNat,reduceNeg]
  try rfl
 rintro m s ⟨q,st1,hq,rfl,hl1,hz1,hd,rfl⟩
 simp only [List.cons_append,List.nil_append,e0,push_cast,reduceIte,reduceEqDiff,reduceAdd,reduceSub,reduceMul,Nat.reduceBEq,reduceLT,reduceLeDiff,reduceCtorEq,reduceToNat,reduceNeg]
 refine qnR (fun h => ?_) fun h => ?_
 ·have hq' : q < js.length := by omega
  have hdr : js.drop q = js[q] :: js.drop (q + 1) := List.drop_eq_getElem_cons hq'
  have hjq := hjs js[q] (List.getElem_mem hq')
  have hg : (natI js).getD q 0 = (js[q] : Int) := by
   rw [List.getD_eq_getElem?_getD,natI,List.getElem?_map,List.getElem?_eq_getElem hq']; rfl
  rw [hdr,dfsL] at hd
  have hdl := qxL (depF g c) k st1 js[q]
  have hdz := qG3 (depF g c) k st1 js[q]
  rw [hg]
  generalize js[q] = j at *
  refine ⟨by omega,by omega,?_⟩
  refine qst (v := .bool (dfs (depF g c) k st1 j).1) (st1 := ⟨[(0,stkC ls),(1,.ptr 7 0),(2,.ptr 5 0),(3,.ptr 6 0),(4,.ptr 3 0),(5,.ptr 8 0),(1000,.int i),(1001,.ptr 7 0),(1200,.sl false 1 (ints (natI js))),(1201,.clo 29 [7,5,6,3,8]),(1205,.int q),(1207,.int js.length),(1208,.int q)],BXL g c,ARL g c (dfs (depF g c) k st1 j).2,[]⟩)
   (FnM.stkf PSL [(0,stkC ls),(1,.ptr 7 0),(2,.ptr 5 0),(3,.ptr 6 0),(4,.ptr 3 0),(5,.ptr 8 0),(1000,.int i),(1001,.ptr 7 0),(1200,.sl false 1 (ints (natI js))),(1201,.clo 29 [7,5,6,3,8]),(1205,.int q),(1207,.int js.length),(1208,.int q)] ls (1,ints (natI js)) 1200 rfl rfl rfl rfl rfl ?_ (FnM.mono (hrec j st1 ((1,ints (natI js)) :: ls) hl1 hjq hz1) ?_)) ?_
  ·refine sB ?_
   exact ⟨.inl trivial,.inr (.inr trivial),.inr (.inr trivial),.inr (.inr trivial),.inr (.inr trivial),.inr (.inr trivial),.inr (.inr trivial),.inr (.inr trivial),.inr (.inl trivial),.inr (.inr trivial)⟩
  ·rintro r st' ⟨rfl,rfl⟩
   exact ⟨_,_,_,rfl,⟨rfl,rfl⟩⟩
  refine sB ?_
  refine qnQ (fun e => ?_) fun e => ?_
  ·rw [if_pos e] at hd
   rw [hd]
   exact ⟨q,rfl,⟨fun _ => rfl,fun _ => by omega⟩,rfl⟩
  ·rw [if_neg (by rw [e]; decide)] at hd
   exact ⟨by omega,_,by omega,q + 1,_,by omega,rfl,by omega,by omega,hd,rfl⟩
 ·have hqe : q = js.length := by omega
  rw [hqe,List.drop_length,dfsL] at hd
  rw [hd]
  exact ⟨-1,rfl,by simp,rfl⟩
set_option maxHeartbeats 4000000 in
theorem qG9 (g : Grid) (c : Cfg) (k i : Nat) (hrec : RecL g c k) (ls : List (Nat × List (List PV))) (js : List Nat) (hjs : ∀ j ∈ js, j < c.sel.length) (hjl : js.length <= 4) (st : List Int) (hst : st.length = c.sel.length) (hz : qxO st <= k) :
  FnM (Env.of Tryz.prog) 31 [.sl false 1 (ints (natI js)),.clo 29 [7,5,6,3,8]] ⟨(0,stkC ls) :: PSL ++ [(1000,.int i),(1001,.ptr 7 0)],BXL g c,ARL g c st,[]⟩
   (fun r st' => r = .bool (dfsL (dfs (depF g c) k) st js).1 /\ st' = ⟨(0,stkC ls) :: PSL ++ [(1000,.int i),(1001,.ptr 7 0)],BXL g c,ARL g c (dfsL (dfs (depF g c) k) st js).2,[]⟩) := by
 have hI := qG8 g c k i hrec ls js hjs hjl st hst hz
 simp only [List.cons_append,List.nil_append,push_cast,reduceIte,reduceEqDiff,reduceAdd,reduceSub,reduceMul,Nat.reduceBEq,reduceLT,reduceLeDiff,reduceCtorEq,reduceToNat,reduceNeg] at hI ⊢
 refine qtT 1100 Tryz.func31 ok31_1100 (by show 2 <= _; decide) rfl (by show 0 <= 1100; decide) ?_
 simp only [ac31_1100,rv31_1100,push_cast,reduceIte,reduceEqDiff,reduceAdd,reduceSub,reduceMul,Nat.reduceBEq,reduceLT,reduceLeDiff,reduceCtorEq,reduceToNat,reduceNeg]
 refine qss (Q := fun r st' => ∃ x : Int,r = .int x /\ (0 <= x ↔ (dfsL (dfs (depF g c) k) st js).1 = true) /\ st' = ⟨(0,stkC ls) :: PSL ++ [(1000,.int i),(1001,.ptr 7 0)],BXL g c,ARL g c (dfsL (dfs (depF g c) k) st js).2,[]⟩)
  (FnM.only [0,1,2,3,4,5,1000,1001] [3,5,6,7,8,313] [19,335,348,367] [] ?_) ?_
 ·simp only [List.cons_append,List.nil_append,push_cast,reduceIte,reduceEqDiff,reduceAdd,reduceSub,reduceMul,Nat.reduceBEq,reduceLT,reduceLeDiff,reduceCtorEq,reduceToNat,reduceNeg]
  exact hI
 rintro r st' ⟨x,rfl,hx,rfl⟩
 simp only [List.cons_append,List.nil_append,push_cast,reduceIte,reduceEqDiff,reduceAdd,reduceSub,reduceMul,Nat.reduceBEq,reduceLT,reduceLeDiff,reduceCtorEq,reduceToNat,reduceNeg]
 rw [show decide (0 <= x) = (dfsL (dfs (depF g c) k) st js).1 by rw [Bool.eq_iff_iff,decide_eq_true_eq,hx]]
theorem qGa (t : Nat) : ∀ m : Nat,(List.range m).countP (fun k => decide (k < t)) = min m t
 | 0 => by simp
 | m + 1 => by
   rw [List.range_succ,List.countP_append,qGa t m,List.countP_cons,List.countP_nil]
   by_cases h : m < t
   ·simp [h]; omega
   ·simp [h]; omega
theorem qGb {g : Grid} (hg : GOk g) {n : Nat} (hn : n = (quD g).toNat) {i : Nat} (hi : i < n) (h1 : (quJ g i).kind = 1) : (qCt g n).countP (fun y => decide (y < (i : Int))) = i / qC4 g := by
 have hE := qC8 hg
 obtain ⟨k1,k2⟩ := (qCf hg i).1 h1
 have ht := qCe hg k1
 have hi2 : i = i / qC4 g * qC4 g := by have := Nat.div_add_mod i (qC4 g); rw [k2,Nat.mul_comm] at this; omega
 rw [hn,qCw hg,List.countP_map]
 have e : ((fun y : Int => decide (y < (i : Int))) ∘ fun k : Nat => ((k * qC4 g : Nat) : Int)) = fun k => decide (k < i / qC4 g) := by
  funext k
  have : (((k * qC4 g : Nat) : Int) < (i : Int)) ↔ k < i / qC4 g := by
   rw [Int.ofNat_lt]
   constructor
   ·intro h
    exact Nat.lt_of_mul_lt_mul_right (a := qC4 g) (by omega)
   ·intro h
    have := Nat.mul_lt_mul_of_pos_right h (k := qC4 g) (by omega)
    omega
  simp only [Function.comp,this]
 rw [e,qGa]
 omega
theorem qGc {g : Grid} (hg : GOk g) {n : Nat} (hn : n = (quD g).toNat) : (qCt g n).Pairwise (· <= ·) := by
 rw [hn,qCw hg,List.pairwise_map]
 exact List.pairwise_lt_range.imp fun h => by
  have := Nat.mul_le_mul_right (qC4 g) (Nat.le_of_lt h)
  omega
theorem qGd {g : Grid} {n i : Nat} (hi : i < n) : (qCt g n).contains (i : Int) = decide ((quJ g i).kind = 1) := by
 rw [Bool.eq_iff_iff,List.contains_iff_mem,qCt,qA0,decide_eq_true_eq]
 constructor
 ·rintro ⟨j,hj,hp,e⟩
  have : i = j := by omega
  subst this
  exact of_decide_eq_true hp
 ·exact fun h => ⟨i,hi,decide_eq_true h,rfl⟩
set_option maxHeartbeats 4000000 in
theorem qGe (g : Grid) (c : Cfg) (k i : Nat) (hrec : RecL g c k) (ls : List (Nat × List (List PV))) (js : List Nat) (hjs : ∀ j ∈ js, j < c.sel.length) (hjl : js.length <= 4) (st : List Int) (hst : st.length = c.sel.length) (hz : qxO st <= k) (hi : i < c.sel.length) (st0 : St)
  (hst0 : st0.keepS [1000,76,1000,1001,1005,1008] = ⟨(0,stkC ls) :: PSL ++ [(1000,.int i),(1001,.ptr 7 0),(1005,.ptr 8 0),(1008,.sl false 1 (ints (natI js)))],BXL g c,ARL g c st,[]⟩) :
  awp (Env.of Tryz.prog) ac29_1000_r14 (retM 1000 rv29_1000 fun r st' => r = .bool (dfsL (dfs (depF g c) k) st js).1 /\ st' = ⟨(0,stkC ls) :: PSL,BXL g c,ARL g c (if (dfsL (dfs (depF g c) k) st js).1 = true then (dfsL (dfs (depF g c) k) st js).2 else (dfsL (dfs (depF g c) k) st js).2.set i 2),[]⟩)
   st0 := by
 have hI := qG9 g c k i hrec ls js hjs hjl st hst hz
 have hl := qxM (depF g c) k js st
 generalize dfsL (dfs (depF g c) k) st js = z at *
 obtain ⟨z1,z2⟩ := z
 show opsK _ _ (St.keepS st0 [1000,76,1000,1001,1005,1008]) _
 rw [hst0]
 simp only [rv29_1000,List.cons_append,List.nil_append,push_cast,reduceIte,reduceEqDiff,reduceAdd,reduceSub,reduceMul,Nat.reduceBEq,reduceLT,reduceLeDiff,reduceCtorEq,reduceToNat,reduceNeg] at hI ⊢
 refine qss (Q := fun r st' => r = .bool z1 /\ st' = ⟨(0,stkC ls) :: PSL ++ [(1000,.int i),(1001,.ptr 7 0)],BXL g c,ARL g c z2,[]⟩)
  (FnM.only [0,1,2,3,4,5,1000,1001] [3,5,6,7,8,313] [19,335,348,367] [] ?_) ?_
 ·simp only [List.cons_append,List.nil_append,push_cast,reduceIte,reduceEqDiff,reduceAdd,reduceSub,reduceMul,Nat.reduceBEq,reduceLT,reduceLeDiff,reduceCtorEq,reduceToNat,reduceNeg]
  exact hI
 rintro r st' ⟨rfl,rfl⟩
 simp only [List.cons_append,List.nil_append,push_cast,reduceIte,reduceEqDiff,reduceAdd,reduceSub,reduceMul,Nat.reduceBEq,reduceLT,reduceLeDiff,reduceCtorEq,reduceToNat,reduceNeg]
 refine qnQ (fun e => ?_) fun e => ?_
 ·subst e
  exact ⟨rfl,rfl⟩
 ·subst e
  exact ⟨by omega,by rw [show z2.length = st.length from hl]; omega,rfl,rfl⟩
theorem qGf {st : List Int} {i : Nat} (hi : i < st.length) (h : qxO st <= 0) : st.getD i 0 ≠ 0 := fun e => by have := qxQ hi e; omega
def nxS (g : Grid) (c : Cfg) (ls : List (Nat × List (List PV))) (st : List Int) (i u : Nat) : Nat -> St
 | 0 => ⟨(0,stkC ls) :: PSL ++ [(1000,.int i),(1001,.ptr 7 0),(1005,.ptr 8 0),(1008,.nil),(1042,.int u),(1043,.int 0)],BXL g c,ARL g c st,[]⟩
 | j + 1 => ⟨(0,stkC ls) :: PSL ++ [(1000,.int i),(1001,.ptr 7 0),(1005,.ptr 8 0),(1008,.view 1052 0 (j + 1)),(1042,.int u),(1043,.int (j + 1 : Nat))],BXL g c,ARL g c st ++ [(1052,⟨1,3,ints (natI ((List.range (j + 1)).map fun q => i + 2 + q))⟩)],[]⟩
theorem qGg (i j : Nat) : natI ((List.range (j + 1)).map fun q => i + 2 + q) = natI ((List.range j).map fun q => i + 2 + q) ++ [(i : Int) + 2 + j] := by
 rw [List.range_succ,List.map_append,natI,natI,List.map_append]
 rfl
set_option maxHeartbeats 8000000 in
theorem qGh (g : Grid) (hg : GOk g) (c : Cfg) (hc : CfgG g c) : ∀ k,RecL g c k := by
 intro k
 induction k with
 | zero =>
   intro i st ls hst hi hz
   have e0 : ∀ (l : List Int) (j : Nat),l.getD j default = l.getD j 0 := fun _ _ => rfl
   have hne := qGf (st := st) (i := i) (by omega) hz
   simp only [argL,push_cast,reduceIte,reduceEqDiff,reduceAdd,reduceSub,reduceMul,Nat.reduceBEq,reduceLT,reduceLeDiff,reduceCtorEq,reduceToNat,reduceNeg]
   refine qtT 1000 Tryz.func29 ok29_1000 (by show 6 <= _; decide) rfl (by show 0 <= 1000; decide) ?_
   simp only [ac29_1000,rv29_1000,e0,push_cast,reduceIte,reduceEqDiff,reduceAdd,reduceSub,reduceMul,Nat.reduceBEq,reduceLT,reduceLeDiff,reduceCtorEq,reduceToNat,reduceNeg]
   refine ⟨by omega,by omega,?_⟩
   refine qnR (fun h => ?_) fun h => absurd hne h
   exact ⟨by omega,by omega,rfl,rfl⟩
 | succ k ih =>
   intro i st ls hst hi hz
   have e0 : ∀ (l : List Int) (j : Nat),l.getD j default = l.getD j 0 := fun _ _ => rfl
   simp only [argL,push_cast,reduceIte,reduceEqDiff,reduceAdd,reduceSub,reduceMul,Nat.reduceBEq,reduceLT,reduceLeDiff,reduceCtorEq,reduceToNat,reduceNeg]
   refine qtT 1000 Tryz.func29 ok29_1000 (by show 6 <= _; decide) rfl (by show 0 <= 1000; decide) ?_
   simp only [ac29_1000,rv29_1000,e0,push_cast,reduceIte,reduceEqDiff,reduceAdd,reduceSub,reduceMul,Nat.reduceBEq,reduceLT,reduceLeDiff,reduceCtorEq,reduceToNat,reduceNeg]
   refine ⟨by omega,by omega,?_⟩
   have hrg := (qCj hg hc ⟨[],[]⟩ []).rng i hi
   have hcn := hg.count
   have l1 := hc.ln.1
   have hfl := qD7 hg hc
   have hwh := hg.wh
   have hkd := hg.kind
   have hE := qC8 hg
   have hsrt : (qCt g c.sel.length).Pairwise (· <= ·) := qGc hg l1
   have hB := qwz (qCt g c.sel.length) (i : Int) hsrt (by omega)
   rw [qGd hi] at hB
   have hcnt := fun h1 => qGb hg l1 hi h1
   have hz1 := qxP (st := st) (i := i) (by omega) 1
   have hdn : (depF g c i).length <= 4 := by
    unfold depF
    split
    ·split
     ·simp
     ·split <;> simp
    ·split <;> simp
   have hT := qGe g c k i ih ls (depF g c i) hrg hdn (st.set i 1) (by rw [List.length_set]; omega)
   refine qnR (fun h => ?_) fun h => ?_
   ·rw [dfs,if_pos h]
    exact ⟨by omega,by omega,rfl,rfl⟩
   ·have h0 : st.getD i 0 = 0 := Classical.byContradiction h
    have he1 : (dfs (depF g c) (k + 1) st i).1 = (dfsL (dfs (depF g c) k) (st.set i 1) (depF g c i)).1 := by
     rw [dfs,if_neg h]
     split <;> simp_all
    have he2 : (dfs (depF g c) (k + 1) st i).2 = if (dfsL (dfs (depF g c) k) (st.set i 1) (depF g c i)).1 = true then (dfsL (dfs (depF g c) k) (st.set i 1) (depF g c i)).2 else (dfsL (dfs (depF g c) k) (st.set i 1) (depF g c i)).2.set i 2 := by
     rw [dfs,if_neg h]
     split <;> rfl
    rw [he1,he2]
    rw [if_pos h0,if_neg (by decide)] at hz1
    have hT := fun st0 => hT (by omega) hi st0
    refine ⟨by omega,by omega,?_⟩
    rw [List.take_of_length_le (by omega)]
    refine qrm hB sC ?_
    refine sB ?_
    refine qnR (fun h1 => ?_) fun h1 => ?_
    ·rw [hcnt h1]
     have ht := qCe hg ((qCf hg i).1 h1).1
     have hdp : depF g c i = if c.mode.getD (i / qC4 g) 0 = 1 \/ c.mode.getD (i / qC4 g) 0 = 2 then [i + 2,i + 3,i + 4,i + 5] else if c.mode.getD (i / qC4 g) 0 = 3 then [i + 2,i + 3,i + 4] else [] := if_pos h1
     have hmd := (hc.tile _ ht).1
     obtain ⟨l1,l2,l3,l4⟩ := hc.ln
     generalize i / qC4 g = t at *
     simp only [e0,push_cast,reduceIte,reduceEqDiff,reduceAdd,reduceSub,reduceMul,Nat.reduceBEq,reduceLT,reduceLeDiff,reduceCtorEq,reduceToNat,reduceNeg]
     refine ⟨by omega,by omega,by omega,by omega,?_⟩
     have hmc : c.mode.getD t 0 = 0 \/ c.mode.getD t 0 = 1 \/ c.mode.getD t 0 = 2 \/ c.mode.getD t 0 = 3 := by omega
     rcases hmc with e | e | e | e
     ·have hd : depF g c i = [] := by rw [hdp,if_neg (by omega),if_neg (by omega)]
      simp only [e,push_cast,reduceIte,reduceEqDiff,reduceAdd,reduceSub,reduceMul,Nat.reduceBEq,reduceLT,reduceLeDiff,reduceCtorEq,reduceToNat,reduceNeg]
      refine qoH (fun m st' => ∃ j : Nat,j <= 0 /\ m = 0 - j /\ st' = nxS g c ls (st.set i 1) i 0 j) 0 ?_ ?_
      ·refine ⟨0,by omega,by omega,?_⟩
       simp only [nxS,List.cons_append,List.nil_append,push_cast,reduceIte,reduceEqDiff,reduceAdd,reduceSub,reduceMul,Nat.reduceBEq,reduceLT,reduceLeDiff,reduceCtorEq,reduceToNat,reduceNeg]
       try rfl
      rintro m st' ⟨j,hj,rfl,rfl⟩
      cases j with
      | zero =>
        simp only [nxS,quY,List.cons_append,List.nil_append,push_cast,reduceIte,reduceEqDiff,reduceAdd,reduceSub,reduceMul,Nat.reduceBEq,reduceLT,reduceLeDiff,reduceCtorEq,reduceToNat,reduceNeg]
        refine qnR (fun h3 => absurd h3 (by omega)) fun _ => ?_
        refine qr1 ⟨[(0,stkC ls),(1,.ptr 7 0),(2,.ptr 5 0),(3,.ptr 6 0),(4,.ptr 3 0),(5,.ptr 8 0),(1000,.int i),(1001,.ptr 7 0),(1005,.ptr 8 0),(1008,.sl false 1 (ints (natI (depF g c i)))),(1042,.bot),(1043,.bot),(1044,.bot)],BXL g c,ARL g c (st.set i 1),[]⟩ ?_ (hT _ (by simp only [PSL,BXL,ARL,List.cons_append,List.nil_append,push_cast,reduceIte,reduceEqDiff,reduceAdd,reduceSub,reduceMul,Nat.reduceBEq,reduceLT,reduceLeDiff,reduceCtorEq,reduceToNat,reduceNeg]))
        rw [hd]
        simp only [PSL,BXL,ARL,natI,List.map_nil,List.cons_append,List.nil_append,push_cast,reduceIte,reduceEqDiff,reduceAdd,reduceSub,reduceMul,Nat.reduceBEq,reduceLT,reduceLeDiff,reduceCtorEq,reduceToNat,reduceNeg]
        done
      | succ j => exact absurd hj (by omega)
     ·have hd : depF g c i = [i + 2,i + 3,i + 4,i + 5] := by rw [hdp,if_pos (by omega)]
      simp only [e,push_cast,reduceIte,reduceEqDiff,reduceAdd,reduceSub,reduceMul,Nat.reduceBEq,reduceLT,reduceLeDiff,reduceCtorEq,reduceToNat,reduceNeg]
      refine qoH (fun m st' => ∃ j : Nat,j <= 4 /\ m = 4 - j /\ st' = nxS g c ls (st.set i 1) i 4 j) 4 ?_ ?_
      ·refine ⟨0,by omega,by omega,?_⟩
       simp only [nxS,List.cons_append,List.nil_append,push_cast,reduceIte,reduceEqDiff,reduceAdd,reduceSub,reduceMul,Nat.reduceBEq,reduceLT,reduceLeDiff,reduceCtorEq,reduceToNat,reduceNeg]
       try rfl
      rintro m st' ⟨j,hj,rfl,rfl⟩
      cases j with
      | zero =>
        simp only [nxS,quY,List.cons_append,List.nil_append,push_cast,reduceIte,reduceEqDiff,reduceAdd,reduceSub,reduceMul,Nat.reduceBEq,reduceLT,reduceLeDiff,reduceCtorEq,reduceToNat,reduceNeg]
        refine qnR (fun _ => ?_) fun h3 => absurd (by omega) h3
        refine ⟨by omega,by omega,by simp,by omega,_,?_,0 + 1,by omega,rfl,?_⟩
        ·omega
        ·rw [show (i : Int) + 2 + 0 = ((i + 2 : Nat) : Int) by omega]
         rfl
      | succ j =>
        have hnl : (natI ((List.range (j + 1)).map fun q => i + 2 + q)).length = j + 1 := by simp [natI]
        have hns := qGg i (j + 1)
        simp only [nxS,hnl,List.cons_append,List.nil_append,push_cast,reduceIte,reduceEqDiff,reduceAdd,reduceSub,reduceMul,Nat.reduceBEq,reduceLT,reduceLeDiff,reduceCtorEq,reduceToNat,reduceNeg]
        refine qnR (fun h3 => ?_) fun h3 => ?_
        ·refine ⟨by omega,by omega,by simp,by omega,by omega,_,?_,j + 1 + 1,by omega,rfl,?_⟩
         ·omega
         ·rw [show ((j + 1 : Nat) : Int) = (j : Int) + 1 from rfl] at hns
          rw [<- hns]
          rfl
        ·have hju : j = 3 := by omega
         subst hju
         rw [List.take_of_length_le (by omega)]
         refine qr1 ⟨[(0,stkC ls),(1,.ptr 7 0),(2,.ptr 5 0),(3,.ptr 6 0),(4,.ptr 3 0),(5,.ptr 8 0),(1000,.int i),(1001,.ptr 7 0),(1005,.ptr 8 0),(1008,.sl false 1 (ints (natI (depF g c i)))),(1042,.bot),(1043,.bot),(1044,.bot)],BXL g c,ARL g c (st.set i 1),[]⟩ ?_ (hT _ (by simp only [PSL,BXL,ARL,List.cons_append,List.nil_append,push_cast,reduceIte,reduceEqDiff,reduceAdd,reduceSub,reduceMul,Nat.reduceBEq,reduceLT,reduceLeDiff,reduceCtorEq,reduceToNat,reduceNeg]))
         rw [hd]
         simp only [PSL,BXL,ARL,List.cons_append,List.nil_append,push_cast,reduceIte,reduceEqDiff,reduceAdd,reduceSub,reduceMul,Nat.reduceBEq,reduceLT,reduceLeDiff,reduceCtorEq,reduceToNat,reduceNeg]
         exact slTF _ _
     ·have hd : depF g c i = [i + 2,i + 3,i + 4,i + 5] := by rw [hdp,if_pos (by omega)]
      simp only [e,push_cast,reduceIte,reduceEqDiff,reduceAdd,reduceSub,reduceMul,Nat.reduceBEq,reduceLT,reduceLeDiff,reduceCtorEq,reduceToNat,reduceNeg]
      refine qoH (fun m st' => ∃ j : Nat,j <= 4 /\ m = 4 - j /\ st' = nxS g c ls (st.set i 1) i 4 j) 4 ?_ ?_
      ·refine ⟨0,by omega,by omega,?_⟩
       simp only [nxS,List.cons_append,List.nil_append,push_cast,reduceIte,reduceEqDiff,reduceAdd,reduceSub,reduceMul,Nat.reduceBEq,reduceLT,reduceLeDiff,reduceCtorEq,reduceToNat,reduceNeg]
       try rfl
      rintro m st' ⟨j,hj,rfl,rfl⟩
      cases j with
      | zero =>
        simp only [nxS,quY,List.cons_append,List.nil_append,push_cast,reduceIte,reduceEqDiff,reduceAdd,reduceSub,reduceMul,Nat.reduceBEq,reduceLT,reduceLeDiff,reduceCtorEq,reduceToNat,reduceNeg]
        refine qnR (fun _ => ?_) fun h3 => absurd (by omega) h3
        refine ⟨by omega,by omega,by simp,by omega,_,?_,0 + 1,by omega,rfl,?_⟩
        ·omega
        ·rw [show (i : Int) + 2 + 0 = ((i + 2 : Nat) : Int) by omega]
         rfl
      | succ j =>
        have hnl : (natI ((List.range (j + 1)).map fun q => i + 2 + q)).length = j + 1 := by simp [natI]
        have hns := qGg i (j + 1)
        simp only [nxS,hnl,List.cons_append,List.nil_append,push_cast,reduceIte,reduceEqDiff,reduceAdd,reduceSub,reduceMul,Nat.reduceBEq,reduceLT,reduceLeDiff,reduceCtorEq,reduceToNat,reduceNeg]
        refine qnR (fun h3 => ?_) fun h3 => ?_
        ·refine ⟨by omega,by omega,by simp,by omega,by omega,_,?_,j + 1 + 1,by omega,rfl,?_⟩
         ·omega
         ·rw [show ((j + 1 : Nat) : Int) = (j : Int) + 1 from rfl] at hns
          rw [<- hns]
          rfl
        ·have hju : j = 3 := by omega
         subst hju
         rw [List.take_of_length_le (by omega)]
         refine qr1 ⟨[(0,stkC ls),(1,.ptr 7 0),(2,.ptr 5 0),(3,.ptr 6 0),(4,.ptr 3 0),(5,.ptr 8 0),(1000,.int i),(1001,.ptr 7 0),(1005,.ptr 8 0),(1008,.sl false 1 (ints (natI (depF g c i)))),(1042,.bot),(1043,.bot),(1044,.bot)],BXL g c,ARL g c (st.set i 1),[]⟩ ?_ (hT _ (by simp only [PSL,BXL,ARL,List.cons_append,List.nil_append,push_cast,reduceIte,reduceEqDiff,reduceAdd,reduceSub,reduceMul,Nat.reduceBEq,reduceLT,reduceLeDiff,reduceCtorEq,reduceToNat,reduceNeg]))
         rw [hd]
         simp only [PSL,BXL,ARL,List.cons_append,List.nil_append,push_cast,reduceIte,reduceEqDiff,reduceAdd,reduceSub,reduceMul,Nat.reduceBEq,reduceLT,reduceLeDiff,reduceCtorEq,reduceToNat,reduceNeg]
         exact slTF _ _
     ·have hd : depF g c i = [i + 2,i + 3,i + 4] := by rw [hdp,if_neg (by omega),if_pos e]
      simp only [e,push_cast,reduceIte,reduceEqDiff,reduceAdd,reduceSub,reduceMul,Nat.reduceBEq,reduceLT,reduceLeDiff,reduceCtorEq,reduceToNat,reduceNeg]
      refine qoH (fun m st' => ∃ j : Nat,j <= 3 /\ m = 3 - j /\ st' = nxS g c ls (st.set i 1) i 3 j) 3 ?_ ?_
      ·refine ⟨0,by omega,by omega,?_⟩
       simp only [nxS,List.cons_append,List.nil_append,push_cast,reduceIte,reduceEqDiff,reduceAdd,reduceSub,reduceMul,Nat.reduceBEq,reduceLT,reduceLeDiff,reduceCtorEq,reduceToNat,reduceNeg]
       try rfl
      rintro m st' ⟨j,hj,rfl,rfl⟩
      cases j with
      | zero =>
        simp only [nxS,quY,List.cons_append,List.nil_append,push_cast,reduceIte,reduceEqDiff,reduceAdd,reduceSub,reduceMul,Nat.reduceBEq,reduceLT,reduceLeDiff,reduceCtorEq,reduceToNat,reduceNeg]
        refine qnR (fun _ => ?_) fun h3 => absurd (by omega) h3
        refine ⟨by omega,by omega,by simp,by omega,_,?_,0 + 1,by omega,rfl,?_⟩
        ·omega
        ·rw [show (i : Int) + 2 + 0 = ((i + 2 : Nat) : Int) by omega]
         rfl
      | succ j =>
        have hnl : (natI ((List.range (j + 1)).map fun q => i + 2 + q)).length = j + 1 := by simp [natI]
        have hns := qGg i (j + 1)
        simp only [nxS,hnl,List.cons_append,List.nil_append,push_cast,reduceIte,reduceEqDiff,reduceAdd,reduceSub,reduceMul,Nat.reduceBEq,reduceLT,reduceLeDiff,reduceCtorEq,reduceToNat,reduceNeg]
        refine qnR (fun h3 => ?_) fun h3 => ?_
        ·refine ⟨by omega,by omega,by simp,by omega,by omega,_,?_,j + 1 + 1,by omega,rfl,?_⟩
         ·omega
         ·rw [show ((j + 1 : Nat) : Int) = (j : Int) + 1 from rfl] at hns
          rw [<- hns]
          rfl
        ·have hju : j = 2 := by omega
         subst hju
         rw [List.take_of_length_le (by omega)]
         refine qr1 ⟨[(0,stkC ls),(1,.ptr 7 0),(2,.ptr 5 0),(3,.ptr 6 0),(4,.ptr 3 0),(5,.ptr 8 0),(1000,.int i),(1001,.ptr 7 0),(1005,.ptr 8 0),(1008,.sl false 1 (ints (natI (depF g c i)))),(1042,.bot),(1043,.bot),(1044,.bot)],BXL g c,ARL g c (st.set i 1),[]⟩ ?_ (hT _ (by simp only [PSL,BXL,ARL,List.cons_append,List.nil_append,push_cast,reduceIte,reduceEqDiff,reduceAdd,reduceSub,reduceMul,Nat.reduceBEq,reduceLT,reduceLeDiff,reduceCtorEq,reduceToNat,reduceNeg]))
         rw [hd]
         simp only [PSL,BXL,ARL,List.cons_append,List.nil_append,push_cast,reduceIte,reduceEqDiff,reduceAdd,reduceSub,reduceMul,Nat.reduceBEq,reduceLT,reduceLeDiff,reduceCtorEq,reduceToNat,reduceNeg]
         exact slTF _ _
    ·have hdp : depF g c i = if 0 <= qzD g c i then [(qzD g c i).toNat] else [] := if_neg h1
     have hdr : (qCs g c c.sel.length).getD i 0 = qzD g c i := qCB hi
     have hdl := qD6 g c c.sel.length
     simp only [e0,push_cast,reduceIte,reduceEqDiff,reduceAdd,reduceSub,reduceMul,Nat.reduceBEq,reduceLT,reduceLeDiff,reduceCtorEq,reduceToNat,reduceNeg]
     refine ⟨by omega,by omega,?_⟩
     simp only [hdr,push_cast,reduceIte,reduceEqDiff,reduceAdd,reduceSub,reduceMul,Nat.reduceBEq,reduceLT,reduceLeDiff,reduceCtorEq,reduceToNat,reduceNeg]
     refine qnR (fun h2 => ?_) fun h2 => ?_
     ·rw [if_pos h2] at hdp
      have e : natI (depF g c i) = [qzD g c i] := by
       rw [hdp]
       show [(((qzD g c i).toNat : Nat) : Int)] = _
       rw [Int.toNat_of_nonneg h2]
      refine ⟨by omega,by omega,by simp,?_⟩
      refine qr1 ⟨[(0,stkC ls),(1,.ptr 7 0),(2,.ptr 5 0),(3,.ptr 6 0),(4,.ptr 3 0),(5,.ptr 8 0),(1000,.int i),(1001,.ptr 7 0),(1002,.bot),(1005,.ptr 8 0),(1008,.sl false 1 (ints (natI (depF g c i)))),(1062,.bot),(1063,.bot),(1064,.bot),(1065,.bot),(1066,.bot),(1067,.bot),(1068,.bot),(1069,.bot)],BXL g c,ARL g c (st.set i 1),[]⟩ ?_ (hT _ (by simp only [PSL,BXL,ARL,List.cons_append,List.nil_append,push_cast,reduceIte,reduceEqDiff,reduceAdd,reduceSub,reduceMul,Nat.reduceBEq,reduceLT,reduceLeDiff,reduceCtorEq,reduceToNat,reduceNeg]))
      rw [e]
      simp only [PSL,BXL,ARL,List.cons_append,List.nil_append,push_cast,reduceIte,reduceEqDiff,reduceAdd,reduceSub,reduceMul,Nat.reduceBEq,reduceLT,reduceLeDiff,reduceCtorEq,reduceToNat,reduceNeg]
      done
     ·rw [if_neg h2] at hdp
      refine qr1 ⟨[(0,stkC ls),(1,.ptr 7 0),(2,.ptr 5 0),(3,.ptr 6 0),(4,.ptr 3 0),(5,.ptr 8 0),(1000,.int i),(1001,.ptr 7 0),(1002,.bot),(1005,.ptr 8 0),(1008,.sl false 1 (ints (natI (depF g c i)))),(1054,.bot),(1055,.bot),(1056,.bot),(1057,.bot),(1058,.bot),(1059,.bot),(1060,.bot),(1061,.bot)],BXL g c,ARL g c (st.set i 1),[]⟩ ?_ (hT _ (by simp only [PSL,BXL,ARL,List.cons_append,List.nil_append,push_cast,reduceIte,reduceEqDiff,reduceAdd,reduceSub,reduceMul,Nat.reduceBEq,reduceLT,reduceLeDiff,reduceCtorEq,reduceToNat,reduceNeg]))
      rw [hdp]
      simp only [natI,List.map_nil,List.cons_append,List.nil_append,push_cast,reduceIte,reduceEqDiff,reduceAdd,reduceSub,reduceMul,Nat.reduceBEq,reduceLT,reduceLeDiff,reduceCtorEq,reduceToNat,reduceNeg]
      done
end Go.Proofs.YtdmkfgkmnpohlaaGreat
