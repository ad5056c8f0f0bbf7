/- VcP VcW VcZ VcBr: lemmas -/
import Derived.Test.YtledbjkolidhkaaPart06
import Derived.ProofKit
set_option linter.unusedSimpArgs false
set_option linter.unusedVariables false
namespace Go.Vc
open Go Go.RowKit
section
variable (P : Env)
def hS (x : Prop × St) (r : List AO) (K : St -> Prop) : Prop := x.1 /\ opsK P r x.2 K
@[push_cast] theorem hS_mk (p : Prop) (st : St) (r : List AO) (K : St -> Prop) : hS P (p,st) r K = (p /\ opsK P r st K) := _root_.id rfl
@[congr] theorem hS_congr {x x' : Prop × St} {r : List AO} {K : St -> Prop} (h : x = x') : hS P x r K = hS P x' r K := by rw [h]
def boxH (st : St) (i : Nat) (v : PV) : Prop × St := (cellsOk v = true /\ anyT (isId i) nul (cellsOf v) = false,st.newBox i (cellsOf v))
@[push_cast] theorem boxH_eq (st : St) (i : Nat) (v : PV) : boxH st i v = (cellsOk v = true /\ anyT (isId i) nul (cellsOf v) = false,st.newBox i (cellsOf v)) := _root_.id rfl
def bslH (st1 : St) (i es ty : Nat) (zero : List PV) (n : Nat) (q : Prop × List (List PV)) : Prop × St := ((0 < es /\ zero.length = es /\ n * es <= 16777216) /\ q.1,st1.newArr i ⟨es,ty,q.2⟩)
@[push_cast] theorem bslH_mk (st1 : St) (i es ty : Nat) (zero : List PV) (n : Nat) (p : Prop) (xs : List (List PV)) : bslH st1 i es ty zero n (p,xs) = ((0 < es /\ zero.length = es /\ n * es <= 16777216) /\ p,st1.newArr i ⟨es,ty,xs⟩) := _root_.id rfl
@[push_cast] theorem frzParts_nil (st : St) : frzParts st [] = st := _root_.id rfl
@[push_cast] theorem frzParts_cons (st : St) (j : Nat) (x : Opd) (r : List (Nat × Opd)) : frzParts st ((j,x) :: r) = frzParts (st.frzs (cellsOf (x.ev st))) r := _root_.id rfl
@[push_cast] theorem bslF_nil (st : St) (es : Nat) (xs : List (List PV)) : bslF st es [] xs = (True,xs) := _root_.id rfl
@[push_cast] theorem bslF_cons (st : St) (es j : Nat) (x : Opd) (r : List (Nat × Opd)) (xs : List (List PV)) :
  bslF st es ((j,x) :: r) xs = andQ (cellsOk (x.ev st) = true /\ pureL (cellsOf (x.ev st)) = true /\ (cellsOf (x.ev st)).length = es /\ j < xs.length) (bslF st es r (xs.set j (cellsOf (x.ev st)))) := by
 simp only [bslF,andQ,and_assoc,pureL_eq]
def mksH (st : St) (i es ty by_ : Nat) (zero : List PV) : PV -> PV -> Prop × St
 | .sc (.int _ n),.sc (.int _ m) => ((0 < es /\ zero.length = es) /\ 0 <= n /\ n <= m /\ m.toNat * by_ <= 140737488355328 /\ m <= 9223372036854775807,st.newArr i ⟨es,ty,List.replicate n.toNat zero⟩)
 | _,_ => (False,st)
@[push_cast] theorem mksH_mk (st : St) (i es ty by_ : Nat) (zero : List PV) (k l : IntKind) (n m : Int) : mksH st i es ty by_ zero (.sc (.int k n)) (.sc (.int l m)) =
  ((0 < es /\ zero.length = es) /\ 0 <= n /\ n <= m /\ m.toNat * by_ <= 140737488355328 /\ m <= 9223372036854775807,st.newArr i ⟨es,ty,List.replicate n.toNat zero⟩) := rfl
def stoB (s : List (Nat × PV)) (b : List (Nat × List PV)) (a : List (Nat × Arr)) (m : List (Nat × Mp)) (sz id off : Nat) (v : PV) : Option (List PV) -> Prop × St
 | some cs => ((cellsOk v = true /\ (cellsOf v).length = sz) /\ off + sz <= cs.length,⟨s,up b id (spl cs off (cellsOf v)),a,m⟩)
 | none => (False,⟨s,b,a,m⟩)
@[push_cast] theorem stoB_some (s : List (Nat × PV)) (b : List (Nat × List PV)) (a : List (Nat × Arr)) (m : List (Nat × Mp)) (sz id off : Nat) (v : PV) (cs : List PV) :
  stoB s b a m sz id off v (some cs) = ((cellsOk v = true /\ (cellsOf v).length = sz) /\ off + sz <= cs.length,⟨s,up b id (spl cs off (cellsOf v)),a,m⟩) := rfl
def stoE (st1 : St) (sz : Nat) (x v : PV) (id i off : Nat) : Option Arr -> Prop × St
 | some A => (((cellsOk v = true /\ pureL (cellsOf v) = true) /\ (cellsOf v).length = sz /\ x = .eptr id i off) /\ off + sz <= A.es /\ i < A.xs.length,{ st1 with a := up st1.a id { A with xs := A.xs.set i (spl (A.xs.getD i []) off (cellsOf v)) } })
 | none => (False,st1)
@[push_cast] theorem stoE_some (s : List (Nat × PV)) (b : List (Nat × List PV)) (a : List (Nat × Arr)) (m : List (Nat × Mp)) (sz : Nat) (x v : PV) (id i off es ty : Nat) (xs : List (List PV)) :
  stoE ⟨s,b,a,m⟩ sz x v id i off (some ⟨es,ty,xs⟩) = (((cellsOk v = true /\ pureL (cellsOf v) = true) /\ (cellsOf v).length = sz /\ x = .eptr id i off) /\ off + sz <= es /\ i < xs.length,⟨s,b,up a id ⟨es,ty,xs.set i (spl (xs.getD i []) off (cellsOf v))⟩,m⟩) := rfl
def lkA (st : St) (id : Nat) : Option Arr := lk st.a id
@[push_cast] theorem lkA_mk (s : List (Nat × PV)) (b : List (Nat × List PV)) (a : List (Nat × Arr)) (m : List (Nat × Mp)) (id : Nat) : lkA ⟨s,b,a,m⟩ id = lk a id := _root_.id rfl
def stoH (st st1 : St) (sz : Nat) (x v : Opd) : PV -> Prop × St
 | .ptr id off => stoB st.s st.b st.a st.m sz id off (v.ev st) (lk st.b id)
 | .eptr id i off => stoE st1 sz (x.ev st1) (v.ev st1) id i off (lkA st1 id)
 | _ => (False,st)
@[push_cast] theorem stoH_ptr (s : List (Nat × PV)) (b : List (Nat × List PV)) (a : List (Nat × Arr)) (m : List (Nat × Mp)) (st1 : St) (sz : Nat) (x v : Opd) (id off : Nat) : stoH ⟨s,b,a,m⟩ st1 sz x v (.ptr id off) = stoB s b a m sz id off (v.ev ⟨s,b,a,m⟩) (lk b id) := _root_.id rfl
@[push_cast] theorem stoH_eptr (st st1 : St) (sz : Nat) (x v : Opd) (id i off : Nat) : stoH st st1 sz x v (.eptr id i off) = stoE st1 sz (x.ev st1) (v.ev st1) id i off (lkA st1 id) := _root_.id rfl
def srcV (st : St) (es : Nat) : PV -> Prop × List (List PV)
 | .nil => (True,[])
 | .sl _ es' ys => (es' = es,ys)
 | .view id lo n => srcA es lo n (lk st.a id)
 | _ => (False,[])
where
 srcA (es lo n : Nat) : Option Arr -> Prop × List (List PV)
  | some A => (A.es = es,(A.xs.drop lo).take n)
  | none => (False,[])
theorem srcV_eq (st : St) (es : Nat) (v : PV) : srcOf st es v = srcV st es v := by
 cases v <;> simp only [srcOf,srcV]
 split <;> simp_all [srcV.srcA]
@[push_cast] theorem srcV_nil (st : St) (es : Nat) : srcV st es .nil = (True,[]) := _root_.id rfl
@[push_cast] theorem srcV_sl (st : St) (es : Nat) (p : Bool) (es' : Nat) (ys : List (List PV)) : srcV st es (.sl p es' ys) = (es' = es,ys) := _root_.id rfl
@[push_cast] theorem srcV_view (s : List (Nat × PV)) (b : List (Nat × List PV)) (a : List (Nat × Arr)) (m : List (Nat × Mp)) (es id lo n : Nat) : srcV ⟨s,b,a,m⟩ es (.view id lo n) = srcV.srcA es lo n (lk a id) := _root_.id rfl
@[push_cast] theorem srcA_some (es lo n e t : Nat) (xs : List (List PV)) : srcV.srcA es lo n (some ⟨e,t,xs⟩) = (e = es,(xs.drop lo).take n) := _root_.id rfl
attribute [push_cast] List.drop_zero
def appA (st : St) (i es ty by_ id lo n : Nat) (q : Prop × List (List PV)) : Option Arr -> Prop × St
 | some A => (((lo = 0 /\ A.es = es /\ A.ty = ty) /\ q.1) /\ n = A.xs.length /\ (n + q.2.length) * by_ <= 140737488355328 /\ n + q.2.length <= 9223372036854775807,
   { s := up (st.kill nul (fun j => j == id)).s i (.view id 0 (n + q.2.length)),b := (st.kill nul (fun j => j == id)).b,a := up st.a id { A with xs := A.xs ++ q.2 },m := (st.kill nul (fun j => j == id)).m })
 | none => (False,st)
@[push_cast] theorem appA_some (s : List (Nat × PV)) (b : List (Nat × List PV)) (a : List (Nat × Arr)) (m : List (Nat × Mp)) (i es ty by_ id lo n : Nat) (p : Prop) (ys : List (List PV)) (e t : Nat) (xs : List (List PV)) :
  appA ⟨s,b,a,m⟩ i es ty by_ id lo n (p,ys) (some ⟨e,t,xs⟩) = (((lo = 0 /\ e = es /\ t = ty) /\ p) /\ n = xs.length /\ (n + ys.length) * by_ <= 140737488355328 /\ n + ys.length <= 9223372036854775807,
   ⟨up (killS nul (isId id) s) i (.view id 0 (n + ys.length)),killB nul (isId id) b,up a id ⟨e,t,xs ++ ys⟩,m⟩) := by
 simp only [appA,St.kill,killS_eq,killB_eq,killM_nul]; rfl
def appN (st : St) (i es ty by_ : Nat) (p : Prop) : List (List PV) -> Prop × St
 | [] => (0 < es /\ p,{ st with s := up st.s i .nil })
 | y :: r => ((0 < es /\ p) /\ (r.length + 1) * by_ <= 140737488355328 /\ r.length + 1 <= 9223372036854775807,st.newArr i ⟨es,ty,y :: r⟩)
@[push_cast] theorem appN_nil (s : List (Nat × PV)) (b : List (Nat × List PV)) (a : List (Nat × Arr)) (m : List (Nat × Mp)) (i es ty by_ : Nat) (p : Prop) : appN ⟨s,b,a,m⟩ i es ty by_ p [] = (0 < es /\ p,⟨up s i .nil,b,a,m⟩) := _root_.id rfl
@[push_cast] theorem appN_cons (st : St) (i es ty by_ : Nat) (p : Prop) (y : List PV) (r : List (List PV)) : appN st i es ty by_ p (y :: r) = ((0 < es /\ p) /\ (r.length + 1) * by_ <= 140737488355328 /\ r.length + 1 <= 9223372036854775807,st.newArr i ⟨es,ty,y :: r⟩) := _root_.id rfl
def appH (st : St) (i es ty by_ : Nat) (q : Prop × List (List PV)) : PV -> Prop × St
 | .nil => appN st i es ty by_ q.1 q.2
 | .view id lo n => appA st i es ty by_ id lo n q (lk st.a id)
 | _ => (False,st)
@[push_cast] theorem appH_nil (st : St) (i es ty by_ : Nat) (p : Prop) (ys : List (List PV)) : appH st i es ty by_ (p,ys) .nil = appN st i es ty by_ p ys := _root_.id rfl
@[push_cast] theorem appH_view (s : List (Nat × PV)) (b : List (Nat × List PV)) (a : List (Nat × Arr)) (m : List (Nat × Mp)) (i es ty by_ id lo n : Nat) (q : Prop × List (List PV)) : appH ⟨s,b,a,m⟩ i es ty by_ q (.view id lo n) = appA ⟨s,b,a,m⟩ i es ty by_ id lo n q (lk a id) := _root_.id rfl
def cpyA (st : St) (d : Option Nat) (es id lo n : Nat) (q : Prop × List (List PV)) : Option Arr -> Prop × St
 | some A => ((0 < es /\ A.es = es) /\ q.1,({ st with a := up st.a id { A with xs := cpyF A.xs lo (q.2.take n) } } : St).put d (.int (min q.2.length n : Nat)))
 | none => (False,st)
@[push_cast] theorem cpyA_some (s : List (Nat × PV)) (b : List (Nat × List PV)) (a : List (Nat × Arr)) (m : List (Nat × Mp)) (d : Option Nat) (es id lo n : Nat) (p : Prop) (ys : List (List PV)) (e t : Nat) (xs : List (List PV)) :
  cpyA ⟨s,b,a,m⟩ d es id lo n (p,ys) (some ⟨e,t,xs⟩) = ((0 < es /\ e = es) /\ p,(⟨s,b,up a id ⟨e,t,cpyF xs lo (ys.take n)⟩,m⟩ : St).put d (.int (min ys.length n : Nat))) := rfl
def cpyH (st : St) (d : Option Nat) (es : Nat) (q : Prop × List (List PV)) : PV -> Prop × St
 | .view id lo n => cpyA st d es id lo n q (lk st.a id)
 | _ => (False,st)
@[push_cast] theorem cpyH_view (s : List (Nat × PV)) (b : List (Nat × List PV)) (a : List (Nat × Arr)) (m : List (Nat × Mp)) (d : Option Nat) (es id lo n : Nat) (q : Prop × List (List PV)) : cpyH ⟨s,b,a,m⟩ d es q (.view id lo n) = cpyA ⟨s,b,a,m⟩ d es id lo n q (lk a id) := _root_.id rfl
variable (i : Nat) (r : List AO) (st : St) (K : St -> Prop)
@[push_cast] theorem o_cpy (d : Option Nat) (es : Nat) (x y : Opd) : opsK P (⟨d,none,.cpy es x y⟩ :: r) st K = hS P (cpyH st d es (srcV st es (y.ev st)) (x.ev st)) r K := by
 have : hev st d (.cpy es x y) = cpyH st d es (srcV st es (y.ev st)) (x.ev st) := by
  simp only [hev,srcV_eq]
  generalize x.ev st = u
  generalize srcV st es (y.ev st) = q
  cases u with
  | view id lo n => simp only [cpyH]; cases lk st.a id <;> rfl
  | _ => rfl
 simp only [opsK,grdK,opK,isHeavy,if_true,hS,this]
@[push_cast] theorem o_alc (zero : List PV) : opsK P (⟨some i,none,.alc zero⟩ :: r) st K = opsK P r (st.newBox i zero) K := by
 simp only [opsK,grdK,opK,hev,isHeavy,if_true,true_and]
@[push_cast] theorem o_box (x : Opd) : opsK P (⟨some i,none,.box x⟩ :: r) st K = hS P (boxH st i (x.ev st)) r K := by
 simp only [opsK,grdK,opK,hev,isHeavy,if_true,hS,boxH,anyT_eq]; rfl
@[push_cast] theorem o_bsl (es ty : Nat) (zero : List PV) (n : Nat) (parts : List (Nat × Opd)) : opsK P (⟨some i,none,.bsl es ty zero n parts⟩ :: r) st K = hS P (bslH (frzParts st parts) i es ty zero n (bslF (frzParts st parts) es parts (List.replicate n zero))) r K := _root_.id rfl
@[push_cast] theorem o_mks (es ty by_ : Nat) (zero : List PV) (l c : Opd) : opsK P (⟨some i,none,.mks es ty by_ zero l c⟩ :: r) st K = hS P (mksH st i es ty by_ zero (l.ev st) (c.ev st)) r K := by
 have : hev st (some i) (.mks es ty by_ zero l c) = mksH st i es ty by_ zero (l.ev st) (c.ev st) := by
  simp only [hev]
  generalize l.ev st = u
  generalize c.ev st = v
  cases u with
  | sc u => cases v with
    | sc v => cases u <;> cases v <;> rfl
    | _ => cases u <;> rfl
  | _ => cases v <;> rfl
 simp only [opsK,grdK,opK,isHeavy,if_true,hS,this]
@[push_cast] theorem o_sto (sz : Nat) (x v : Opd) : opsK P (⟨none,none,.sto sz x v⟩ :: r) st K = hS P (stoH st (st.frzs (cellsOf (v.ev st))) sz x v (x.ev st)) r K := by
 have : hev st none (.sto sz x v) = stoH st (st.frzs (cellsOf (v.ev st))) sz x v (x.ev st) := by
  simp only [hev]
  generalize x.ev st = u
  cases u with
  | ptr id off => simp only [stoH]; cases lk st.b id <;> rfl
  | eptr id j off =>
    simp only [stoH,lkA]
    cases lk (st.frzs (cellsOf (v.ev st))).a id with
    | none => rfl
    | some A => simp only [stoE,pureL_eq]
  | _ => rfl
 simp only [opsK,grdK,opK,isHeavy,if_true,hS,this]
@[push_cast] theorem o_app (es ty by_ : Nat) (s x : Opd) : opsK P (⟨some i,none,.app es ty by_ s x⟩ :: r) st K = hS P (appH st i es ty by_ (srcV st es (x.ev st)) (s.ev st)) r K := by
 have : hev st (some i) (.app es ty by_ s x) = appH st i es ty by_ (srcV st es (x.ev st)) (s.ev st) := by
  simp only [hev,srcV_eq]
  generalize s.ev st = u
  generalize srcV st es (x.ev st) = q
  cases u with
  | nil => obtain ⟨p,ys⟩ := q; cases ys <;> rfl
  | view id lo n => simp only [appH]; cases lk st.a id <;> rfl
  | _ => rfl
 simp only [opsK,grdK,opK,isHeavy,if_true,hS,this]
end
section
variable (P : Env) (Q : Exit -> St -> Prop) (st : St)
@[push_cast] theorem a_skip : awp P .skip Q st = Q .normal st := _root_.id rfl
@[push_cast] theorem a_rgs (segs : List (List Nat × List AO)) : awp P (.rgs segs) Q st = segK P segs st (Q .normal) := _root_.id rfl
@[push_cast] theorem segK_nil (P : Env) (st : St) (K : St -> Prop) : segK P [] st K = K st := rfl
@[push_cast] theorem segK_cons (P : Env) (ks : List Nat) (ops : List AO) (r : List (List Nat × List AO)) (st : St) (K : St -> Prop) : segK P ((ks,ops) :: r) st K = opsK P ops (st.keepS ks) fun st' => segK P r st' K := rfl
@[push_cast] theorem a_reg (keep : List Nat) (ops : List AO) : awp P (.reg keep ops) Q st = opsK P ops (st.keepS keep) (Q .normal) := _root_.id rfl
@[push_cast] theorem a_seq (x y : AC) : awp P (.seq x y) Q st = awp P x (Exit.thn (awp P y Q) Q) st := _root_.id rfl
@[push_cast] theorem a_cond (c : Opd) (x y : AC) : awp P (.cond c x y) Q st = condK (c.ev st) (awp P x Q st) (awp P y Q st) := _root_.id rfl
@[push_cast] theorem a_block (id : Nat) (b : AC) : awp P (.block id b) Q st = awp P b (Exit.inB id Q) st := _root_.id rfl
@[push_cast] theorem a_ret : awp P .ret Q st = Q .ret st := _root_.id rfl
@[push_cast] theorem a_exit (id : Nat) : awp P (.exit id) Q st = Q (.exit id) st := _root_.id rfl
variable (n : St -> Prop)
@[push_cast] theorem thn_normal : Exit.thn n Q .normal st = n st := _root_.id rfl
@[push_cast] theorem thn_ret : Exit.thn n Q .ret st = Q .ret st := _root_.id rfl
@[push_cast] theorem thn_exit (id : Nat) : Exit.thn n Q (.exit id) st = Q (.exit id) st := _root_.id rfl
@[push_cast] theorem inB_normal (id : Nat) : Exit.inB id Q .normal st = Q .normal st := _root_.id rfl
@[push_cast] theorem inB_ret (id : Nat) : Exit.inB id Q .ret st = Q .ret st := _root_.id rfl
@[push_cast] theorem inB_exit (id id' : Nat) : Exit.inB id Q (.exit id') st = if id' = id then Q .normal st else Q (.exit id') st := _root_.id rfl
@[push_cast] theorem condK_t (x y : Prop) : condK (.sc (.bool true)) x y = x := by simp [condK]
@[push_cast] theorem condK_f (x y : Prop) : condK (.sc (.bool false)) x y = y := by simp [condK]
end
theorem cond_of {b : Bool} {x y : Prop} (h1 : b = true -> x) (h2 : b = false -> y) : condK (.sc (.bool b)) x y := ⟨h1,h2⟩
theorem cond_dec {p : Prop} [Decidable p] {x y : Prop} (h1 : p -> x) (h2 : ¬ p -> y) : condK (.sc (.bool (decide p))) x y := ⟨fun h => h1 (of_decide_eq_true h),fun h => h2 (of_decide_eq_false h)⟩
def rp : List (Nat × PV) -> Nat -> PV -> List (Nat × PV)
 | [],_,_ => []
 | (k,u) :: r,i,v => if k = i then (k,v) :: r else (k,u) :: rp r i v
@[push_cast] theorem rp_nil (i : Nat) (v : PV) : rp [] i v = [] := _root_.id rfl
@[push_cast] theorem rp_cons (k i : Nat) (u v : PV) (r : List (Nat × PV)) : rp ((k,u) :: r) i v = if k = i then (k,v) :: r else (k,u) :: rp r i v := _root_.id rfl
theorem rp_same (sl : List (Nat × PV)) (s : Nat) (c : PV) (hc : getL sl s = c) : rp sl s c = sl := by
 induction sl with
 | nil => rfl
 | cons x t ih =>
   obtain ⟨k,v⟩ := x
   simp only [getL] at hc
   simp only [rp]
   split
   ·rename_i e; rw [if_pos e] at hc; rw [hc]
   ·rename_i e; rw [if_neg e] at hc; rw [ih hc]
theorem grd_of {P : Env} {d : Option Nat} {s : Nat} {want : Bool} {op : AOp} {r : List AO} {sl : List (Nat × PV)} {bx : List (Nat × List PV)} {ar : List (Nat × Arr)} {mm : List (Nat × Mp)} {K : St -> Prop} (b : Bool) (h : getL sl s = .sc (.bool b))
  (h1 : b = want -> opsK P (⟨d,none,op⟩ :: r) ⟨rp sl s (.sc (.bool want)),bx,ar,mm⟩ K) (h2 : b = !want -> opsK P r ((⟨rp sl s (.sc (.bool !want)),bx,ar,mm⟩ : St).put d (.tup [])) K) :
  opsK P (⟨d,some (s,want),op⟩ :: r) ⟨sl,bx,ar,mm⟩ K := by
 have hup := fun c (hc : getL sl s = c) => rp_same sl s c hc
 have hg : (⟨sl,bx,ar,mm⟩ : St).get s = .sc (.bool b) := by rw [get_mk]; exact h
 unfold opsK grdK
 simp only [hg]
 refine ⟨fun e => ?_,fun e => ?_⟩
 ·have := h1 e
  subst e
  rw [hup _ h] at this
  exact this
 ·have e' : b = !want := by cases b <;> cases want <;> simp_all
  have := h2 e'
  rw [<- e',hup _ h] at this
  exact this
section
variable {P : Env} {d : Option Nat} {s : Nat} {op : AOp} {r : List AO} {sl : List (Nat × PV)} {bx : List (Nat × List PV)} {ar : List (Nat × Arr)} {mm : List (Nat × Mp)} {K : St -> Prop}
@[push_cast] theorem grd_tt (h : getL sl s = .sc (.bool true)) : opsK P (⟨d,some (s,true),op⟩ :: r) ⟨sl,bx,ar,mm⟩ K = opsK P (⟨d,none,op⟩ :: r) ⟨sl,bx,ar,mm⟩ K := by
 have hg : (⟨sl,bx,ar,mm⟩ : St).get s = .sc (.bool true) := by rw [get_mk]; exact h
 rw [opsK,opsK]; simp [grdK,hg]; rfl
@[push_cast] theorem grd_ff (h : getL sl s = .sc (.bool false)) : opsK P (⟨d,some (s,false),op⟩ :: r) ⟨sl,bx,ar,mm⟩ K = opsK P (⟨d,none,op⟩ :: r) ⟨sl,bx,ar,mm⟩ K := by
 have hg : (⟨sl,bx,ar,mm⟩ : St).get s = .sc (.bool false) := by rw [get_mk]; exact h
 rw [opsK,opsK]; simp [grdK,hg]; rfl
@[push_cast] theorem grd_tf (h : getL sl s = .sc (.bool false)) : opsK P (⟨d,some (s,true),op⟩ :: r) ⟨sl,bx,ar,mm⟩ K = opsK P r ((⟨sl,bx,ar,mm⟩ : St).put d (.tup [])) K := by
 have hg : (⟨sl,bx,ar,mm⟩ : St).get s = .sc (.bool false) := by rw [get_mk]; exact h
 rw [opsK]; simp [grdK,hg]
@[push_cast] theorem grd_ft (h : getL sl s = .sc (.bool true)) : opsK P (⟨d,some (s,false),op⟩ :: r) ⟨sl,bx,ar,mm⟩ K = opsK P r ((⟨sl,bx,ar,mm⟩ : St).put d (.tup [])) K := by
 have hg : (⟨sl,bx,ar,mm⟩ : St).get s = .sc (.bool true) := by rw [get_mk]; exact h
 rw [opsK]; simp [grdK,hg]
end
section
variable {P : Env} {d : Option Nat} {s : Nat} {w : Bool} {op : AOp} {r : List AO} {sl : List (Nat × PV)} {bx : List (Nat × List PV)} {ar : List (Nat × Arr)} {mm : List (Nat × Mp)} {K : St -> Prop}
@[push_cast] theorem grd_u (h : getL sl s = .tup []) : opsK P (⟨d,some (s,w),op⟩ :: r) ⟨sl,bx,ar,mm⟩ K = opsK P r ((⟨sl,bx,ar,mm⟩ : St).put d (.tup [])) K := by
 have hg : (⟨sl,bx,ar,mm⟩ : St).get s = .tup [] := by rw [get_mk]; exact h
 rw [opsK]; simp [grdK,hg]
end
def rsL (st : St) : List PV -> List PV
 | [] => []
 | c :: r => c.rs1 st :: rsL st r
def rs0L (st : St) : List PV -> List PV
 | [] => []
 | c :: r => c.rs0 st :: rs0L st r
section
variable (st : St)
theorem rsL_eq (cs : List PV) : cs.map (PV.rs1 st) = rsL st cs := by induction cs <;> simp_all [rsL]
theorem rs0L_eq (cs : List PV) : cs.map (PV.rs0 st) = rs0L st cs := by induction cs <;> simp_all [rs0L]
@[push_cast] theorem rsL_nil : rsL st [] = [] := _root_.id rfl
@[push_cast] theorem rsL_cons (c : PV) (r : List PV) : rsL st (c :: r) = c.rs1 st :: rsL st r := _root_.id rfl
@[push_cast] theorem rs0L_nil : rs0L st [] = [] := _root_.id rfl
@[push_cast] theorem rs0L_cons (c : PV) (r : List PV) : rs0L st (c :: r) = c.rs0 st :: rs0L st r := _root_.id rfl
def rsV (es0 : Unit) (lo n : Nat) : Option Arr -> PV
 | some A => .sl false A.es ((A.xs.drop lo).take n)
 | none => match es0 with | () => .bot
def rsB : Nat -> Option (List PV) -> PV
 | off,some cs => .iptr false (rs0L st cs) off
 | _,none => .bot
def rsE (i off : Nat) : Option Arr -> PV
 | some A => .iptr false (A.xs.getD i []) off
 | none => .bot
@[push_cast] theorem rsV_some (u : Unit) (lo n e t : Nat) (xs : List (List PV)) : rsV u lo n (some ⟨e,t,xs⟩) = .sl false e ((xs.drop lo).take n) := _root_.id rfl
@[push_cast] theorem rsB_some (off : Nat) (cs : List PV) : rsB st off (some cs) = .iptr false (rs0L st cs) off := _root_.id rfl
@[push_cast] theorem rsE_some (i off e t : Nat) (xs : List (List PV)) : rsE i off (some ⟨e,t,xs⟩) = .iptr false (xs.getD i []) off := _root_.id rfl
end
section
variable (s : List (Nat × PV)) (b : List (Nat × List PV)) (a : List (Nat × Arr)) (m : List (Nat × Mp))
@[push_cast] theorem rs0_view (id lo n : Nat) : PV.rs0 ⟨s,b,a,m⟩ (.view id lo n) = rsV () lo n (lk a id) := by simp only [PV.rs0]; cases lk a id <;> rfl
@[push_cast] theorem rs0_eptr (id i o : Nat) : PV.rs0 ⟨s,b,a,m⟩ (.eptr id i o) = rsE i o (lk a id) := by simp only [PV.rs0]; cases lk a id <;> rfl
@[push_cast] theorem rs0_ptr (id o : Nat) : PV.rs0 ⟨s,b,a,m⟩ (.ptr id o) = .bot := _root_.id rfl
@[push_cast] theorem rs0_sc (v : Value) : PV.rs0 ⟨s,b,a,m⟩ (.sc v) = .sc v := _root_.id rfl
@[push_cast] theorem rs0_nil : PV.rs0 ⟨s,b,a,m⟩ .nil = .nil := _root_.id rfl
@[push_cast] theorem rs0_bot : PV.rs0 ⟨s,b,a,m⟩ .bot = .bot := _root_.id rfl
@[push_cast] theorem rs0_sl (p : Bool) (es : Nat) (xs : List (List PV)) : PV.rs0 ⟨s,b,a,m⟩ (.sl p es xs) = .sl p es xs := _root_.id rfl
@[push_cast] theorem rs0_iptr (p : Bool) (cs : List PV) (o : Nat) : PV.rs0 ⟨s,b,a,m⟩ (.iptr p cs o) = .iptr p cs o := _root_.id rfl
@[push_cast] theorem rs1_view (id lo n : Nat) : PV.rs1 ⟨s,b,a,m⟩ (.view id lo n) = rsV () lo n (lk a id) := rs0_view s b a m id lo n
@[push_cast] theorem rs1_eptr (id i o : Nat) : PV.rs1 ⟨s,b,a,m⟩ (.eptr id i o) = rsE i o (lk a id) := rs0_eptr s b a m id i o
@[push_cast] theorem rs1_ptr (id o : Nat) : PV.rs1 ⟨s,b,a,m⟩ (.ptr id o) = rsB ⟨s,b,a,m⟩ o (lk b id) := by simp only [PV.rs1,rs0L_eq]; cases lk b id <;> rfl
@[push_cast] theorem rs1_sc (v : Value) : PV.rs1 ⟨s,b,a,m⟩ (.sc v) = .sc v := _root_.id rfl
@[push_cast] theorem rs1_nil : PV.rs1 ⟨s,b,a,m⟩ .nil = .nil := _root_.id rfl
@[push_cast] theorem rs1_bot : PV.rs1 ⟨s,b,a,m⟩ .bot = .bot := _root_.id rfl
@[push_cast] theorem rs1_sl (p : Bool) (es : Nat) (xs : List (List PV)) : PV.rs1 ⟨s,b,a,m⟩ (.sl p es xs) = .sl p es xs := _root_.id rfl
@[push_cast] theorem rs1_iptr (p : Bool) (cs : List PV) (o : Nat) : PV.rs1 ⟨s,b,a,m⟩ (.iptr p cs o) = .iptr p cs o := _root_.id rfl
@[push_cast] theorem rsA_agg (cs : List PV) : PV.rsA ⟨s,b,a,m⟩ (.agg cs) = .agg (rsL ⟨s,b,a,m⟩ cs) := by simp only [PV.rsA,rsL_eq]
@[push_cast] theorem rsA_view (id lo n : Nat) : PV.rsA ⟨s,b,a,m⟩ (.view id lo n) = rsV () lo n (lk a id) := rs0_view s b a m id lo n
@[push_cast] theorem rsA_eptr (id i o : Nat) : PV.rsA ⟨s,b,a,m⟩ (.eptr id i o) = rsE i o (lk a id) := rs0_eptr s b a m id i o
@[push_cast] theorem rsA_ptr (id o : Nat) : PV.rsA ⟨s,b,a,m⟩ (.ptr id o) = rsB ⟨s,b,a,m⟩ o (lk b id) := rs1_ptr s b a m id o
@[push_cast] theorem rsA_sc (v : Value) : PV.rsA ⟨s,b,a,m⟩ (.sc v) = .sc v := _root_.id rfl
@[push_cast] theorem rsA_nil : PV.rsA ⟨s,b,a,m⟩ .nil = .nil := _root_.id rfl
@[push_cast] theorem rsA_bot : PV.rsA ⟨s,b,a,m⟩ .bot = .bot := _root_.id rfl
@[push_cast] theorem rsA_sl (p : Bool) (es : Nat) (xs : List (List PV)) : PV.rsA ⟨s,b,a,m⟩ (.sl p es xs) = .sl p es xs := _root_.id rfl
@[push_cast] theorem rsA_iptr (p : Bool) (cs : List PV) (o : Nat) : PV.rsA ⟨s,b,a,m⟩ (.iptr p cs o) = .iptr p cs o := _root_.id rfl
end
def argsV (st : St) : List Opd -> List PV
 | [] => []
 | x :: r => (x.ev st).rsA st :: argsV st r
@[push_cast] theorem argsV_nil (st : St) : argsV st [] = [] := _root_.id rfl
@[push_cast] theorem argsV_cons (st : St) (x : Opd) (r : List Opd) : argsV st (x :: r) = (x.ev st).rsA st :: argsV st r := _root_.id rfl
theorem argsV_eq (st : St) (l : List Opd) : (l.map fun x => (x.ev st).rsA st) = argsV st l := by induction l <;> simp_all [argsV]
def calK (P : Env) (d : Option Nat) (f : Nat) (args : List PV) (r : List AO) (st : St) (K : St -> Prop) : Prop := ∃ post,FnOK P.p f args post /\ ∀ v,post v -> opsK P r (st.put d v) K
@[congr] theorem calK_congr {P : Env} {d : Option Nat} {f : Nat} {args args' : List PV} {r : List AO} {st st' : St} {K : St -> Prop} (h1 : args = args') (h2 : st = st') : calK P d f args r st K = calK P d f args' r st' K := by rw [h1,h2]
@[push_cast] theorem o_cal (P : Env) (d : Option Nat) (f : Nat) (args : List Opd) (r : List AO) (st : St) (K : St -> Prop) : opsK P (⟨d,none,.cal f args⟩ :: r) st K = calK P d f (argsV st args) r st K := by
 simp only [opsK,grdK,opK,calK,argsV_eq]
theorem cal_eq {P : Env} {d : Option Nat} {f : Nat} {args : List PV} {r : List AO} {st : St} {K : St -> Prop} {v : PV} (hc : FnEq P.p f args v) (h : opsK P r (st.put d v) K) : calK P d f args r st K :=
 ⟨_,hc,fun u hu => by subst hu; exact h⟩
theorem loop_of {P : Env} {ks : List Nat} {body : AC} {Q : Exit -> St -> Prop} {st : St} (I : Nat -> St -> Prop) (n0 : Nat) (h0 : I n0 (st.gc ks))
  (hr : ∀ n st',I n st' -> awp P body (Exit.thn (fun st'' => ∃ n',n' < n /\ I n' (st''.gc ks)) Q) st') : awp P (.loop ks body) Q st := ⟨I,n0,h0,hr⟩
section
variable (rvs : List RV) (post : PV -> Prop)
@[push_cast] theorem retK_ret (st : St) : retK rvs post .ret st = ((resV st rvs).1 /\ flatB (resV st rvs).2 = true /\ Perm (resV st rvs).2 /\ post (resV st rvs).2) := by simp [retK,isEnd]
@[push_cast] theorem retK_normal (st : St) : retK rvs post .normal st = ((resV st rvs).1 /\ flatB (resV st rvs).2 = true /\ Perm (resV st rvs).2 /\ post (resV st rvs).2) := by simp [retK,isEnd]
end
def rvW (st : St) : RV -> Prop × PV := fun r => r.val st
@[push_cast] theorem resV_one (st : St) (r : RV) : resV st [r] = rvW (r.frz st) r := _root_.id rfl
def rvT (st : St) : List RV -> Prop × List PV
 | [] => (True,[])
 | r :: rs => andT (rvW st r) (rvT st rs)
where
 andT (x : Prop × PV) (y : Prop × List PV) : Prop × List PV := (x.1 /\ y.1,x.2 :: y.2)
def tupT (x : Prop × List PV) : Prop × PV := (x.1,.tup x.2)
@[push_cast] theorem andT_mk (p q : Prop) (v : PV) (vs : List PV) : rvT.andT (p,v) (q,vs) = (p /\ q,v :: vs) := _root_.id rfl
@[push_cast] theorem rvT_nil (st : St) : rvT st [] = (True,[]) := _root_.id rfl
@[push_cast] theorem rvT_cons (st : St) (r : RV) (rs : List RV) : rvT st (r :: rs) = rvT.andT (rvW st r) (rvT st rs) := _root_.id rfl
@[push_cast] theorem tupT_mk (p : Prop) (vs : List PV) : tupT (p,vs) = (p,.tup vs) := _root_.id rfl
theorem rvT_eq (st : St) (rs : List RV) : ((∀ r ∈ rs,(r.val st).1) = (rvT st rs).1) /\ (rs.map fun r => (r.val st).2) = (rvT st rs).2 := by
 induction rs with
 | nil => simp [rvT]
 | cons r rs ih => simp [rvT,rvT.andT,rvW,<- ih.1,<- ih.2]
@[push_cast] theorem resV_two (st : St) (r1 r2 : RV) (rs : List RV) : resV st (r1 :: r2 :: rs) = tupT (rvT (frzAll st (r1 :: r2 :: rs)) (r1 :: r2 :: rs)) := by
 have h := rvT_eq (frzAll st (r1 :: r2 :: rs)) (r1 :: r2 :: rs)
 show ((∀ r ∈ r1 :: r2 :: rs,(r.val (frzAll st (r1 :: r2 :: rs))).1),PV.tup ((r1 :: r2 :: rs).map fun r => (r.val (frzAll st (r1 :: r2 :: rs))).2)) = _
 rw [h.1,h.2]; rfl
@[push_cast] theorem resV_zero (st : St) : resV st [] = (True,.tup []) := by simp [resV]
@[push_cast] theorem frzAll_nil (st : St) : frzAll st [] = st := _root_.id rfl
@[push_cast] theorem frzAll_cons (st : St) (r : RV) (rs : List RV) : frzAll st (r :: rs) = frzAll (r.frz st) rs := _root_.id rfl
def frzW (st : St) : PV -> St
 | .agg cs => st.frzs cs
 | .view id _ _ => st.frz id
 | .eptr id _ _ => st.frz id
 | _ => st
theorem frzW_eq (st : St) (v : PV) : frzVal st v = frzW st v := by cases v <;> rfl
@[push_cast] theorem frz_tmp (st : St) (t : Nat) : RV.frz st (.tmp t) = frzW st (st.get t) := frzW_eq st _
@[push_cast] theorem frzW_agg (st : St) (cs : List PV) : frzW st (.agg cs) = st.frzs cs := _root_.id rfl
@[push_cast] theorem frzW_view (st : St) (id lo n : Nat) : frzW st (.view id lo n) = st.frz id := _root_.id rfl
@[push_cast] theorem frzW_sc (st : St) (v : Value) : frzW st (.sc v) = st := _root_.id rfl
@[push_cast] theorem frzW_nil (st : St) : frzW st .nil = st := _root_.id rfl
@[push_cast] theorem frzW_sl (st : St) (p : Bool) (es : Nat) (xs : List (List PV)) : frzW st (.sl p es xs) = st := _root_.id rfl
@[push_cast] theorem frzW_ptr (st : St) (id o : Nat) : frzW st (.ptr id o) = st := _root_.id rfl
@[push_cast] theorem frzW_iptr (st : St) (p : Bool) (cs : List PV) (o : Nat) : frzW st (.iptr p cs o) = st := _root_.id rfl
def frzC (st : St) : PV -> St
 | .ptr id _ => frzD st (lk st.b id)
 | _ => st
where
 frzD (st : St) : Option (List PV) -> St
  | some cs => st.frzs cs
  | none => st
@[push_cast] theorem frz_cell (st : St) (t : Nat) (agg : Bool) (sz : Nat) : RV.frz st (.cell t agg sz) = frzC st (st.get t) := by
 simp only [RV.frz]
 cases st.get t <;> simp only [frzC]
 rename_i id o
 cases lk st.b id <;> rfl
@[push_cast] theorem frzC_ptr (s : List (Nat × PV)) (b : List (Nat × List PV)) (a : List (Nat × Arr)) (m : List (Nat × Mp)) (id o : Nat) : frzC ⟨s,b,a,m⟩ (.ptr id o) = frzC.frzD ⟨s,b,a,m⟩ (lk b id) := _root_.id rfl
@[push_cast] theorem frzD_some (st : St) (cs : List PV) : frzC.frzD st (some cs) = st.frzs cs := _root_.id rfl
@[push_cast] theorem rvW_tmp (st : St) (t : Nat) : rvW st (.tmp t) = (True,st.get t) := _root_.id rfl
def rvC (st : St) (agg : Bool) (sz : Nat) : PV -> Prop × PV
 | .ptr id off => rvD agg sz off (lk st.b id)
 | _ => (False,.bot)
where
 rvD (agg : Bool) (sz off : Nat) : Option (List PV) -> Prop × PV
  | some cs => (off + sz <= cs.length,ldc agg sz off cs)
  | none => (False,.bot)
@[push_cast] theorem rvW_cell (st : St) (t : Nat) (agg : Bool) (sz : Nat) : rvW st (.cell t agg sz) = rvC st agg sz (st.get t) := by
 simp only [rvW,RV.val]
 cases st.get t <;> simp only [rvC]
 rename_i id o
 cases lk st.b id <;> rfl
@[push_cast] theorem rvC_ptr (s : List (Nat × PV)) (b : List (Nat × List PV)) (a : List (Nat × Arr)) (m : List (Nat × Mp)) (agg : Bool) (sz id o : Nat) : rvC ⟨s,b,a,m⟩ agg sz (.ptr id o) = rvC.rvD agg sz o (lk b id) := _root_.id rfl
@[push_cast] theorem rvD_some (agg : Bool) (sz off : Nat) (cs : List PV) : rvC.rvD agg sz off (some cs) = (off + sz <= cs.length,ldc agg sz off cs) := _root_.id rfl
@[push_cast] theorem flat_sc (v : Value) : flatB (.sc v) = true := _root_.id rfl
@[push_cast] theorem flat_sl (p : Bool) (es : Nat) (xs : List (List PV)) : flatB (.sl p es xs) = true := _root_.id rfl
@[push_cast] theorem flat_agg (cs : List PV) : flatB (.agg cs) = true := _root_.id rfl
@[push_cast] theorem flat_nil : flatB .nil = true := _root_.id rfl
@[push_cast] theorem flat_tup (cs : List PV) : flatB (.tup cs) = cs.all fun c => !isTup c := _root_.id rfl
attribute [push_cast] List.all_cons List.all_nil Bool.not_false Bool.not_true
@[push_cast] theorem isTup_sc (v : Value) : isTup (.sc v) = false := _root_.id rfl
@[push_cast] theorem isTup_sl (p : Bool) (es : Nat) (xs : List (List PV)) : isTup (.sl p es xs) = false := _root_.id rfl
@[push_cast] theorem isTup_agg (cs : List PV) : isTup (.agg cs) = false := _root_.id rfl
@[push_cast] theorem isTup_nil : isTup .nil = false := _root_.id rfl
attribute [push_cast] perm_sc perm_nil perm_sl perm_agg perm_tup perm_ints perm_rows List.forall_mem_cons
@[push_cast] theorem perm_none (P : PV -> Prop) : (∀ x ∈ ([] : List PV),P x) ↔ True := by simp
@[push_cast] theorem slots0_eq (l : List PV) : slots0 l = slots0.go 0 l := _root_.id rfl
@[push_cast] theorem slots0_nil (k : Nat) : slots0.go k [] = [] := _root_.id rfl
@[push_cast] theorem slots0_cons (k : Nat) (c : PV) (r : List PV) : slots0.go k (c :: r) = (k,c) :: slots0.go (k + 1) r := _root_.id rfl
end Go.Vc
namespace Go.Vc
open Go Go.RowKit
@[push_cast] theorem inL_nil' (i : Nat) : inL [] i = false := rfl
@[push_cast] theorem inL_cons (a : Nat) (t : List Nat) (i : Nat) : inL (a :: t) i = if a = i then true else inL t i := by
 unfold inL
 rw [memN_eq,memN_eq]; rfl
def ssIs : Option Nat -> Nat -> Bool
 | none,_ => false
 | some j,k => if j = k then true else false
@[push_cast] theorem ssIs_none (k : Nat) : ssIs none k = false := rfl
@[push_cast] theorem ssIs_some (j k : Nat) : ssIs (some j) k = if j = k then true else false := rfl
def noS (ss : Option Nat) (t : List Nat) : List (Nat × PV) -> Bool
 | [] => true
 | (k,v) :: r => (ssIs ss k || !v.toV (inL t) (inL t)) && noS ss t r
def noB (t : List Nat) : List (Nat × List PV) -> Bool
 | [] => true
 | (_,cs) :: r => !anyT (inL t) (inL t) cs && noB t r
@[push_cast] theorem noS_nil (ss : Option Nat) (t : List Nat) : noS ss t [] = true := rfl
@[push_cast] theorem noS_cons (ss : Option Nat) (t : List Nat) (k : Nat) (v : PV) (r : List (Nat × PV)) : noS ss t ((k,v) :: r) = ((ssIs ss k || !v.toV (inL t) (inL t)) && noS ss t r) := rfl
@[push_cast] theorem noB_nil (t : List Nat) : noB t [] = true := rfl
@[push_cast] theorem noB_cons (t : List Nat) (k : Nat) (cs : List PV) (r : List (Nat × List PV)) : noB t ((k,cs) :: r) = (!anyT (inL t) (inL t) cs && noB t r) := rfl
@[push_cast] theorem noX_nil (st : St) (ss : Option Nat) : noX st [] ss = true := rfl
@[push_cast] theorem noX_cons (s : List (Nat × PV)) (b : List (Nat × List PV)) (a : List (Nat × Arr)) (m : List (Nat × Mp)) (i : Nat) (t : List Nat) (ss : Option Nat) : noX ⟨s,b,a,m⟩ (i :: t) ss = (noS ss (i :: t) s && noB (i :: t) b) := by
 simp only [noX]
 congr 1
 ·induction s with
  | nil => rfl
  | cons x r ih =>
    obtain ⟨k,v⟩ := x
    simp only [List.all_cons,noS,ih]
    congr 2
    cases ss with
    | none => rfl
    | some j => by_cases h : j = k <;> simp [ssIs,h]
 ·induction b with
  | nil => rfl
  | cons x r ih =>
    obtain ⟨k,v⟩ := x
    simp only [anyT_eq] at ih
    simp only [List.all_cons,noB,ih,anyT_eq]
@[push_cast] theorem stoT_nil (v : PV) : stoT [] v = true := rfl
@[push_cast] theorem stoT_ptr (i : Nat) (u : List Nat) (id o : Nat) : stoT (i :: u) (.ptr id o) = inL (i :: u) id := rfl
@[push_cast] theorem stoT_eptr (i : Nat) (u : List Nat) (id j o : Nat) : stoT (i :: u) (.eptr id j o) = inL (i :: u) id := rfl
@[push_cast] theorem refU_nil (v : PV) : refU [] v = false := rfl
@[push_cast] theorem refU_cons (a : Nat) (u : List Nat) (v : PV) : refU (a :: u) v = v.toV (inL (a :: u)) (inL (a :: u)) := rfl
@[push_cast] theorem boxU_nil (o : Option (List PV)) : boxU [] o = false := by cases o <;> rfl
@[push_cast] theorem boxU_none (a : Nat) (u : List Nat) : boxU (a :: u) none = false := rfl
@[push_cast] theorem boxU_some (a : Nat) (u : List Nat) (cs : List PV) : boxU (a :: u) (some cs) = anyT (inL (a :: u)) (inL (a :: u)) cs := anyT_eq _ _ cs
@[push_cast] theorem getO_some (st : St) (i : Nat) : st.getO (some i) = st.get i := rfl
@[push_cast] theorem getO_none (st : St) : st.getO none = .bot := rfl
def boxA (u : List Nat) (b : List (Nat × List PV)) : List Nat -> Bool
 | [] => true
 | i :: t => !boxU u (lk b i) && boxA u b t
@[push_cast] theorem boxA_nil (u : List Nat) (b : List (Nat × List PV)) : boxA u b [] = true := rfl
@[push_cast] theorem boxA_cons (u : List Nat) (b : List (Nat × List PV)) (i : Nat) (t : List Nat) : boxA u b (i :: t) = (!boxU u (lk b i) && boxA u b t) := rfl
theorem boxA_eq (u : List Nat) (b : List (Nat × List PV)) (t : List Nat) : t.all (fun i => !boxU u (lk b i)) = boxA u b t := by induction t <;> simp_all [boxA]
def preD (t u : List Nat) (d ss : Option Nat) (st : St) : Prop := noX st t ss = true /\ refU u (st.getO d) = false /\ boxA u st.b t = true
def postD (t u : List Nat) (d : Option Nat) (st : St) : Prop := refU u (st.getO d) = false /\ boxA u st.b t = true
@[congr] theorem preD_congr {t u : List Nat} {d ss : Option Nat} {st st' : St} (h : st = st') : preD t u d ss st = preD t u d ss st' := by rw [h]
@[push_cast] theorem preD_nil (d ss : Option Nat) (st : St) : preD [] [] d ss st = True := by simp [preD,refU_nil,boxA,noX]
@[push_cast] theorem postD_nil (d : Option Nat) (st : St) : postD [] [] d st = True := by simp [postD,refU_nil,boxA]
@[push_cast] theorem preD_t (i : Nat) (t u : List Nat) (d ss : Option Nat) (s : List (Nat × PV)) (b : List (Nat × List PV)) (a : List (Nat × Arr)) (m : List (Nat × Mp)) :
  preD (i :: t) u d ss ⟨s,b,a,m⟩ = (noX ⟨s,b,a,m⟩ (i :: t) ss = true /\ refU u (St.getO ⟨s,b,a,m⟩ d) = false /\ boxA u b (i :: t) = true) := rfl
@[push_cast] theorem preD_u (i : Nat) (u : List Nat) (d ss : Option Nat) (s : List (Nat × PV)) (b : List (Nat × List PV)) (a : List (Nat × Arr)) (m : List (Nat × Mp)) :
  preD [] (i :: u) d ss ⟨s,b,a,m⟩ = (refU (i :: u) (St.getO ⟨s,b,a,m⟩ d) = false) := by simp [preD,boxA,noX]
@[push_cast] theorem postD_t (i : Nat) (t u : List Nat) (d : Option Nat) (s : List (Nat × PV)) (b : List (Nat × List PV)) (a : List (Nat × Arr)) (m : List (Nat × Mp)) :
  postD (i :: t) u d ⟨s,b,a,m⟩ = (refU u (St.getO ⟨s,b,a,m⟩ d) = false /\ boxA u b (i :: t) = true) := rfl
@[push_cast] theorem postD_u (i : Nat) (u : List Nat) (d : Option Nat) (s : List (Nat × PV)) (b : List (Nat × List PV)) (a : List (Nat × Arr)) (m : List (Nat × Mp)) :
  postD [] (i :: u) d ⟨s,b,a,m⟩ = (refU (i :: u) (St.getO ⟨s,b,a,m⟩ d) = false) := by simp [postD,boxA]
def nvL : List PV -> Bool
 | [] => true
 | c :: r => (viewIds [c]).isEmpty && nvL r
theorem nvL_eq (cs : List PV) : (viewIds cs = []) ↔ nvL cs = true := by
 induction cs with
 | nil => simp [viewIds,nvL]
 | cons c r ih => cases c <;> simp [viewIds,nvL,ih]
@[push_cast] theorem nvL_nil : nvL [] = true := rfl
@[push_cast] theorem nvL_sc (v : Value) (r : List PV) : nvL (.sc v :: r) = nvL r := rfl
@[push_cast] theorem nvL_nil' (r : List PV) : nvL (.nil :: r) = nvL r := rfl
@[push_cast] theorem nvL_sl (p : Bool) (es : Nat) (xs : List (List PV)) (r : List PV) : nvL (.sl p es xs :: r) = nvL r := rfl
@[push_cast] theorem nvL_iptr (p : Bool) (cs : List PV) (o : Nat) (r : List PV) : nvL (.iptr p cs o :: r) = nvL r := rfl
@[push_cast] theorem nvL_ptr (i o : Nat) (r : List PV) : nvL (.ptr i o :: r) = nvL r := rfl
@[push_cast] theorem nvL_bot (r : List PV) : nvL (.bot :: r) = nvL r := rfl
def nvP (st : St) : List (Nat × Opd) -> Bool
 | [] => true
 | (_,x) :: r => nvL (cellsOf (x.ev st)) && nvP st r
@[push_cast] theorem nvP_nil (st : St) : nvP st [] = true := rfl
@[push_cast] theorem nvP_cons (st : St) (j : Nat) (x : Opd) (r : List (Nat × Opd)) : nvP st ((j,x) :: r) = (nvL (cellsOf (x.ev st)) && nvP st r) := rfl
theorem nvP_eq (st : St) (parts : List (Nat × Opd)) : (∀ p ∈ parts,viewIds (cellsOf (p.2.ev st)) = []) ↔ nvP st parts = true := by
 induction parts with
 | nil => simp [nvP]
 | cons p r ih =>
   obtain ⟨j,x⟩ := p
   simp only [nvL_eq] at ih
   simp only [List.forall_mem_cons,ih,nvP,Bool.and_eq_true,nvL_eq]
def appS (t : List Nat) : PV -> Bool
 | .view id _ _ => inL t id
 | _ => true
@[push_cast] theorem appS_view (t : List Nat) (id lo n : Nat) : appS t (.view id lo n) = inL t id := rfl
@[push_cast] theorem appS_nil (t : List Nat) : appS t .nil = true := rfl
section
variable (P : Env) (t u : List Nat) (d : Option Nat) (r : List DO) (st : St) (K : St -> Prop)
@[congr] theorem dsK_congr {P : Env} {l : List DO} {st st' : St} {K : St -> Prop} (h : st = st') : dsK P l st K = dsK P l st' K := by rw [h]
@[push_cast] theorem a_drw (keep : List Nat) (ops : List DO) (Q : Exit -> St -> Prop) : awp P (.drw keep ops) Q st = dsK P ops (st.keepS keep) (Q .normal) := rfl
@[push_cast] theorem d_nil : dsK P [] st K = K st := rfl
@[push_cast] theorem d_plain (o : AO) : dsK P (⟨o,t,u,false⟩ :: r) st K = opsK P [o] st (fun st' => dsK P r st' K) := by
 simp only [dsK,dopG,Bool.false_eq_true,if_false,opsK]
def stepD (P : Env) (t u : List Nat) (o : AO) (r : List DO) (st : St) (K : St -> Prop) : Prop := opsK P [o] st (fun st' => postD t u o.d st' /\ dsK P r st' K)
@[push_cast] theorem stepD_eq (o : AO) : stepD P t u o r st K = opsK P [o] st (fun st' => postD t u o.d st' /\ dsK P r st' K) := rfl
theorem d_step (op : AOp) (hc : isCal op = false) : dsK P (⟨⟨d,none,op⟩,t,u,true⟩ :: r) st K = (preD t u d (srcS op) st /\ sideOK st t u op /\ stepD P t u ⟨d,none,op⟩ r st K) := by
 have e1 : preOK ⟨⟨d,none,op⟩,t,u,true⟩ st = preD t u d (srcS op) st := by simp only [preOK,preD,boxA_eq]
 have e2 : dopK P ⟨⟨d,none,op⟩,t,u,true⟩ st (fun st' => dsK P r st' K) = (sideOK st t u op /\ stepD P t u ⟨d,none,op⟩ r st K) := by
  unfold dopK stepD
  cases op <;> first | (cases hc; done) | (simp only [opsK,grdK,postOK,postD,boxA_eq])
 simp only [dsK,dopG,if_true,grdK,e1,e2]
variable (x y z : Opd)
@[push_cast] theorem d_mv : dsK P (⟨⟨d,none,.mv x⟩,t,u,true⟩ :: r) st K = (preD t u d none st /\ stepD P t u ⟨d,none,.mv x⟩ r st K) := by rw [d_step _ _ _ _ _ _ _ _ rfl]; simp [sideOK,srcS]
@[push_cast] theorem d_pick : dsK P (⟨⟨d,none,.pick x y z⟩,t,u,true⟩ :: r) st K = (preD t u d none st /\ stepD P t u ⟨d,none,.pick x y z⟩ r st K) := by rw [d_step _ _ _ _ _ _ _ _ rfl]; simp [sideOK,srcS]
@[push_cast] theorem d_bld (zero : List PV) (parts : List (Nat × Nat × Opd)) : dsK P (⟨⟨d,none,.bld zero parts⟩,t,u,true⟩ :: r) st K = (preD t u d none st /\ stepD P t u ⟨d,none,.bld zero parts⟩ r st K) := by rw [d_step _ _ _ _ _ _ _ _ rfl]; simp [sideOK,srcS]
@[push_cast] theorem d_ld (agg : Bool) (sz : Nat) : dsK P (⟨⟨d,none,.ld agg sz x⟩,t,u,true⟩ :: r) st K = (preD t u d none st /\ refU u (x.ev st) = false /\ stepD P t u ⟨d,none,.ld agg sz x⟩ r st K) := by rw [d_step _ _ _ _ _ _ _ _ rfl]; simp [sideOK,srcS]
@[push_cast] theorem d_ari (op : BinOp) (nw : Bool) (k : IntKind) : dsK P (⟨⟨d,none,.ari op nw k x y⟩,t,u,true⟩ :: r) st K = (preD t u d none st /\ stepD P t u ⟨d,none,.ari op nw k x y⟩ r st K) := by rw [d_step _ _ _ _ _ _ _ _ rfl]; simp [sideOK,srcS]
@[push_cast] theorem d_dvd (op : BinOp) (nw : Bool) (k : IntKind) : dsK P (⟨⟨d,none,.dvd op nw k x y⟩,t,u,true⟩ :: r) st K = (preD t u d none st /\ stepD P t u ⟨d,none,.dvd op nw k x y⟩ r st K) := by rw [d_step _ _ _ _ _ _ _ _ rfl]; simp [sideOK,srcS]
@[push_cast] theorem d_bit (op : BinOp) (k : IntKind) : dsK P (⟨⟨d,none,.bit op k x y⟩,t,u,true⟩ :: r) st K = (preD t u d none st /\ stepD P t u ⟨d,none,.bit op k x y⟩ r st K) := by rw [d_step _ _ _ _ _ _ _ _ rfl]; simp [sideOK,srcS]
@[push_cast] theorem d_shf (op : BinOp) (k : IntKind) : dsK P (⟨⟨d,none,.shf op k x y⟩,t,u,true⟩ :: r) st K = (preD t u d none st /\ stepD P t u ⟨d,none,.shf op k x y⟩ r st K) := by rw [d_step _ _ _ _ _ _ _ _ rfl]; simp [sideOK,srcS]
@[push_cast] theorem d_cmp (op : BinOp) (k : IntKind) : dsK P (⟨⟨d,none,.cmp op k x y⟩,t,u,true⟩ :: r) st K = (preD t u d none st /\ stepD P t u ⟨d,none,.cmp op k x y⟩ r st K) := by rw [d_step _ _ _ _ _ _ _ _ rfl]; simp [sideOK,srcS]
@[push_cast] theorem d_eqb (ng : Bool) : dsK P (⟨⟨d,none,.eqb ng x y⟩,t,u,true⟩ :: r) st K = (preD t u d none st /\ stepD P t u ⟨d,none,.eqb ng x y⟩ r st K) := by rw [d_step _ _ _ _ _ _ _ _ rfl]; simp [sideOK,srcS]
@[push_cast] theorem d_eqa (ng : Bool) (n : Nat) : dsK P (⟨⟨d,none,.eqa ng n x y⟩,t,u,true⟩ :: r) st K = (preD t u d none st /\ stepD P t u ⟨d,none,.eqa ng n x y⟩ r st K) := by rw [d_step _ _ _ _ _ _ _ _ rfl]; simp [sideOK,srcS]
@[push_cast] theorem d_not : dsK P (⟨⟨d,none,.not x⟩,t,u,true⟩ :: r) st K = (preD t u d none st /\ stepD P t u ⟨d,none,.not x⟩ r st K) := by rw [d_step _ _ _ _ _ _ _ _ rfl]; simp [sideOK,srcS]
@[push_cast] theorem d_neg (k : IntKind) : dsK P (⟨⟨d,none,.neg k x⟩,t,u,true⟩ :: r) st K = (preD t u d none st /\ stepD P t u ⟨d,none,.neg k x⟩ r st K) := by rw [d_step _ _ _ _ _ _ _ _ rfl]; simp [sideOK,srcS]
@[push_cast] theorem d_cnv (nw : Bool) (k : IntKind) : dsK P (⟨⟨d,none,.cnv nw k x⟩,t,u,true⟩ :: r) st K = (preD t u d none st /\ stepD P t u ⟨d,none,.cnv nw k x⟩ r st K) := by rw [d_step _ _ _ _ _ _ _ _ rfl]; simp [sideOK,srcS]
@[push_cast] theorem d_len : dsK P (⟨⟨d,none,.len x⟩,t,u,true⟩ :: r) st K = (preD t u d none st /\ stepD P t u ⟨d,none,.len x⟩ r st K) := by rw [d_step _ _ _ _ _ _ _ _ rfl]; simp [sideOK,srcS]
@[push_cast] theorem d_lenA (n : Nat) : dsK P (⟨⟨d,none,.lenA n x⟩,t,u,true⟩ :: r) st K = (preD t u d none st /\ stepD P t u ⟨d,none,.lenA n x⟩ r st K) := by rw [d_step _ _ _ _ _ _ _ _ rfl]; simp [sideOK,srcS]
@[push_cast] theorem d_mn (mx : Bool) : dsK P (⟨⟨d,none,.mn mx x y⟩,t,u,true⟩ :: r) st K = (preD t u d none st /\ stepD P t u ⟨d,none,.mn mx x y⟩ r st K) := by rw [d_step _ _ _ _ _ _ _ _ rfl]; simp [sideOK,srcS]
@[push_cast] theorem d_fa (off : Nat) : dsK P (⟨⟨d,none,.fa off x⟩,t,u,true⟩ :: r) st K = (preD t u d none st /\ stepD P t u ⟨d,none,.fa off x⟩ r st K) := by rw [d_step _ _ _ _ _ _ _ _ rfl]; simp [sideOK,srcS]
@[push_cast] theorem d_fl (agg : Bool) (off sz : Nat) : dsK P (⟨⟨d,none,.fl agg off sz x⟩,t,u,true⟩ :: r) st K = (preD t u d none st /\ stepD P t u ⟨d,none,.fl agg off sz x⟩ r st K) := by rw [d_step _ _ _ _ _ _ _ _ rfl]; simp [sideOK,srcS]
@[push_cast] theorem d_ixs (es : Nat) : dsK P (⟨⟨d,none,.ixs es x y⟩,t,u,true⟩ :: r) st K = (preD t u d none st /\ refU u (x.ev st) = false /\ stepD P t u ⟨d,none,.ixs es x y⟩ r st K) := by rw [d_step _ _ _ _ _ _ _ _ rfl]; simp [sideOK,srcS]
@[push_cast] theorem d_ixa (n es : Nat) : dsK P (⟨⟨d,none,.ixa n es x y⟩,t,u,true⟩ :: r) st K = (preD t u d none st /\ stepD P t u ⟨d,none,.ixa n es x y⟩ r st K) := by rw [d_step _ _ _ _ _ _ _ _ rfl]; simp [sideOK,srcS]
@[push_cast] theorem d_ixv (agg : Bool) (n es : Nat) : dsK P (⟨⟨d,none,.ixv agg n es x y⟩,t,u,true⟩ :: r) st K = (preD t u d none st /\ stepD P t u ⟨d,none,.ixv agg n es x y⟩ r st K) := by rw [d_step _ _ _ _ _ _ _ _ rfl]; simp [sideOK,srcS]
@[push_cast] theorem d_slc (es : Nat) (lo hi : Option Opd) : dsK P (⟨⟨d,none,.slc es x lo hi⟩,t,u,true⟩ :: r) st K = (preD t u d none st /\ refU u (x.ev st) = false /\ stepD P t u ⟨d,none,.slc es x lo hi⟩ r st K) := by rw [d_step _ _ _ _ _ _ _ _ rfl]; simp [sideOK,srcS]
@[push_cast] theorem d_ext (i : Nat) : dsK P (⟨⟨d,none,.ext x i⟩,t,u,true⟩ :: r) st K = (preD t u d none st /\ stepD P t u ⟨d,none,.ext x i⟩ r st K) := by rw [d_step _ _ _ _ _ _ _ _ rfl]; simp [sideOK,srcS]
@[push_cast] theorem d_nck : dsK P (⟨⟨d,none,.nck x⟩,t,u,true⟩ :: r) st K = (preD t u d none st /\ stepD P t u ⟨d,none,.nck x⟩ r st K) := by rw [d_step _ _ _ _ _ _ _ _ rfl]; simp [sideOK,srcS]
@[push_cast] theorem d_alc (zero : List PV) : dsK P (⟨⟨d,none,.alc zero⟩,t,u,true⟩ :: r) st K = (preD t u d none st /\ stepD P t u ⟨d,none,.alc zero⟩ r st K) := by rw [d_step _ _ _ _ _ _ _ _ rfl]; simp [sideOK,srcS]
@[push_cast] theorem d_box : dsK P (⟨⟨d,none,.box x⟩,t,u,true⟩ :: r) st K = (preD t u d none st /\ stepD P t u ⟨d,none,.box x⟩ r st K) := by rw [d_step _ _ _ _ _ _ _ _ rfl]; simp [sideOK,srcS]
@[push_cast] theorem d_mks (es ty by_ : Nat) (zero : List PV) : dsK P (⟨⟨d,none,.mks es ty by_ zero x y⟩,t,u,true⟩ :: r) st K = (preD t u d none st /\ stepD P t u ⟨d,none,.mks es ty by_ zero x y⟩ r st K) := by rw [d_step _ _ _ _ _ _ _ _ rfl]; simp [sideOK,srcS]
@[push_cast] theorem d_bsl (es ty : Nat) (zero : List PV) (n : Nat) (parts : List (Nat × Opd)) : dsK P (⟨⟨d,none,.bsl es ty zero n parts⟩,t,u,true⟩ :: r) st K = (preD t u d none st /\ nvP st parts = true /\ stepD P t u ⟨d,none,.bsl es ty zero n parts⟩ r st K) := by rw [d_step _ _ _ _ _ _ _ _ rfl]; simp only [sideOK,srcS,nvP_eq]
@[push_cast] theorem d_sto (sz : Nat) : dsK P (⟨⟨d,none,.sto sz x y⟩,t,u,true⟩ :: r) st K = (preD t u d none st /\ (nvL (cellsOf (y.ev st)) = true /\ stoT u (x.ev st) = true) /\ stepD P t u ⟨d,none,.sto sz x y⟩ r st K) := by rw [d_step _ _ _ _ _ _ _ _ rfl]; simp only [sideOK,srcS,nvL_eq]
def srcT : Opd -> Option Nat
 | .t s => some s
 | .c _ => none
@[push_cast] theorem srcT_t (s : Nat) : srcT (.t s) = some s := rfl
@[push_cast] theorem srcT_c (p : PV) : srcT (.c p) = none := rfl
@[push_cast] theorem d_app (es ty by_ : Nat) : dsK P (⟨⟨d,none,.app es ty by_ x y⟩,t,u,true⟩ :: r) st K = (preD t u d (srcT x) st /\ appS t (x.ev st) = true /\ stepD P t u ⟨d,none,.app es ty by_ x y⟩ r st K) := by
 rw [d_step _ _ _ _ _ _ _ _ rfl]
 have h1 : srcS (.app es ty by_ x y) = srcT x := by cases x <;> rfl
 have h2 : sideOK st t u (.app es ty by_ x y) = (appS t (x.ev st) = true) := by
  simp only [sideOK]
  cases x.ev st <;> simp [appS]
 rw [h1,h2]
@[push_cast] theorem d_cpy (es : Nat) : dsK P (⟨⟨d,none,.cpy es x y⟩,t,u,true⟩ :: r) st K = (preD t u d none st /\ stepD P t u ⟨d,none,.cpy es x y⟩ r st K) := by rw [d_step _ _ _ _ _ _ _ _ rfl]; simp [sideOK,srcS]
def calDK (P : Env) (u : List Nat) (d : Option Nat) (f : Nat) (args : List PV) (r : List DO) (st : St) (K : St -> Prop) : Prop :=
 ∃ post,FnOK P.p f args post /\ (∃ v,post v) /\ ∀ v,post v -> refU u v = false /\ dsK P r (st.put d v) K
@[congr] theorem calDK_congr {P : Env} {u : List Nat} {d : Option Nat} {f : Nat} {args args' : List PV} {r : List DO} {st st' : St} {K : St -> Prop} (h1 : args = args') (h2 : st = st') : calDK P u d f args r st K = calDK P u d f args' r st' K := by rw [h1,h2]
@[push_cast] theorem d_cal (f : Nat) (args : List Opd) : dsK P (⟨⟨d,none,.cal f args⟩,t,u,true⟩ :: r) st K = (preD t u d none st /\ calDK P u d f (argsV st args) r st K) := by
 simp only [dsK,dopG,if_true,grdK,dopK,calD,calDK,argsV_eq,preOK,preD,srcS,boxA_eq]
def clvDK (P : Env) (u : List Nat) (d : Option Nat) (v : PV) (args : List PV) (r : List DO) (st : St) (K : St -> Prop) : Prop :=
 match v with | .sc (.func (.func f) _ _) => funOk P.p f = true /\ calDK P u d f args r st K | _ => False
@[congr] theorem clvDK_congr {P : Env} {u : List Nat} {d : Option Nat} {v v' : PV} {args args' : List PV} {r : List DO} {st st' : St} {K : St -> Prop} (h0 : v = v') (h1 : args = args') (h2 : st = st') : clvDK P u d v args r st K = clvDK P u d v' args' r st' K := by rw [h0,h1,h2]
@[push_cast] theorem d_clv (y : Opd) (args : List Opd) : dsK P (⟨⟨d,none,.clv y args⟩,t,u,true⟩ :: r) st K = (preD t u d none st /\ clvDK P u d (y.ev st) (argsV st args) r st K) := by
 simp only [dsK,dopG,if_true,grdK,dopK,calD,clvDK,calDK,argsV_eq,preOK,preD,srcS,boxA_eq]
 generalize y.ev st = v
 cases v with
 | sc x => cases x with
   | func c a b => cases c <;> simp [and_assoc]
   | _ => simp
 | _ => simp
@[push_cast] theorem clvDK_fn (f : Nat) (a b : Array Value) (args : List PV) : clvDK P u d (.sc (.func (.func f) a b)) args r st K = (funOk P.p f = true /\ calDK P u d f args r st K) := rfl
end
theorem dcal_eq {P : Env} {u : List Nat} {d : Option Nat} {f : Nat} {args : List PV} {r : List DO} {st : St} {K : St -> Prop} {v : PV} (hc : FnEq P.p f args v) (hu : refU u v = false) (h : dsK P r (st.put d v) K) : calDK P u d f args r st K :=
 ⟨_,hc,⟨v,rfl⟩,fun w hw => by subst hw; exact ⟨hu,h⟩⟩
section
variable {P : Env} {t u : List Nat} {d : Option Nat} {s : Nat} {op : AOp} {r : List DO} {sl : List (Nat × PV)} {bx : List (Nat × List PV)} {ar : List (Nat × Arr)} {mm : List (Nat × Mp)} {K : St -> Prop}
theorem dgrd_gen (b : Bool) {w : Bool} (h : getL sl s = .sc (.bool b)) :
  dsK P (⟨⟨d,some (s,w),op⟩,t,u,true⟩ :: r) ⟨sl,bx,ar,mm⟩ K = (preD t u d (srcS op) ⟨sl,bx,ar,mm⟩ /\ (b = w -> dopK P ⟨⟨d,some (s,w),op⟩,t,u,true⟩ ⟨sl,bx,ar,mm⟩ (fun st' => dsK P r st' K)) /\ (b ≠ w -> dsK P r ((⟨sl,bx,ar,mm⟩ : St).put d (.tup [])) K)) := by
 have hg : (⟨sl,bx,ar,mm⟩ : St).get s = .sc (.bool b) := by rw [get_mk]; exact h
 have e1 : preOK ⟨⟨d,some (s,w),op⟩,t,u,true⟩ ⟨sl,bx,ar,mm⟩ = preD t u d (srcS op) ⟨sl,bx,ar,mm⟩ := by simp only [preOK,preD,boxA_eq]
 simp only [dsK,dopG,if_true,e1,grdK,hg]
theorem dopK_grd (w : Bool) (st : St) (K : St -> Prop) : dopK P ⟨⟨d,some (s,w),op⟩,t,u,true⟩ st K = dopK P ⟨⟨d,none,op⟩,t,u,true⟩ st K := by
 unfold dopK
 cases op <;> rfl
theorem dsK_none (st : St) : dsK P (⟨⟨d,none,op⟩,t,u,true⟩ :: r) st K = (preD t u d (srcS op) st /\ dopK P ⟨⟨d,none,op⟩,t,u,true⟩ st (fun st' => dsK P r st' K)) := by
 have e1 : preOK ⟨⟨d,none,op⟩,t,u,true⟩ st = preD t u d (srcS op) st := by simp only [preOK,preD,boxA_eq]
 simp only [dsK,dopG,if_true,grdK,e1]
@[push_cast] theorem dgrd_tt (h : getL sl s = .sc (.bool true)) : dsK P (⟨⟨d,some (s,true),op⟩,t,u,true⟩ :: r) ⟨sl,bx,ar,mm⟩ K = dsK P (⟨⟨d,none,op⟩,t,u,true⟩ :: r) ⟨sl,bx,ar,mm⟩ K := by
 rw [dgrd_gen true h,dsK_none,dopK_grd]; simp
@[push_cast] theorem dgrd_ff (h : getL sl s = .sc (.bool false)) : dsK P (⟨⟨d,some (s,false),op⟩,t,u,true⟩ :: r) ⟨sl,bx,ar,mm⟩ K = dsK P (⟨⟨d,none,op⟩,t,u,true⟩ :: r) ⟨sl,bx,ar,mm⟩ K := by
 rw [dgrd_gen false h,dsK_none,dopK_grd]; simp
@[push_cast] theorem dgrd_tf (h : getL sl s = .sc (.bool false)) : dsK P (⟨⟨d,some (s,true),op⟩,t,u,true⟩ :: r) ⟨sl,bx,ar,mm⟩ K = (preD t u d (srcS op) ⟨sl,bx,ar,mm⟩ /\ dsK P r ((⟨sl,bx,ar,mm⟩ : St).put d (.tup [])) K) := by
 rw [dgrd_gen false h]; simp
@[push_cast] theorem dgrd_ft (h : getL sl s = .sc (.bool true)) : dsK P (⟨⟨d,some (s,false),op⟩,t,u,true⟩ :: r) ⟨sl,bx,ar,mm⟩ K = (preD t u d (srcS op) ⟨sl,bx,ar,mm⟩ /\ dsK P r ((⟨sl,bx,ar,mm⟩ : St).put d (.tup [])) K) := by
 rw [dgrd_gen true h]; simp
@[push_cast] theorem dgrd_u {w : Bool} (h : getL sl s = .tup []) : dsK P (⟨⟨d,some (s,w),op⟩,t,u,true⟩ :: r) ⟨sl,bx,ar,mm⟩ K = (preD t u d (srcS op) ⟨sl,bx,ar,mm⟩ /\ dsK P r ((⟨sl,bx,ar,mm⟩ : St).put d (.tup [])) K) := by
 have hg : (⟨sl,bx,ar,mm⟩ : St).get s = .tup [] := by rw [get_mk]; exact h
 have e1 : preOK ⟨⟨d,some (s,w),op⟩,t,u,true⟩ ⟨sl,bx,ar,mm⟩ = preD t u d (srcS op) ⟨sl,bx,ar,mm⟩ := by simp only [preOK,preD,boxA_eq]
 simp only [dsK,dopG,if_true,e1,grdK,hg]
theorem dgrd_of {want : Bool} (b : Bool) (h : getL sl s = .sc (.bool b)) (h1 : b = want -> dsK P (⟨⟨d, none, op⟩, t, u, true⟩ :: r) ⟨rp sl s (.sc (.bool want)), bx, ar, mm⟩ K)
  (h2 : b = !want -> preD t u d (srcS op) ⟨rp sl s (.sc (.bool !want)),bx,ar,mm⟩ /\ dsK P r ((⟨rp sl s (.sc (.bool !want)),bx,ar,mm⟩ : St).put d (.tup [])) K) : dsK P (⟨⟨d,some (s,want),op⟩,t,u,true⟩ :: r) ⟨sl,bx,ar,mm⟩ K := by
 have hup := fun c (hc : getL sl s = c) => rp_same sl s c hc
 rw [dgrd_gen b h]
 by_cases e : b = want
 ·have := h1 e
  subst e
  rw [hup _ h,dsK_none] at this
  exact ⟨this.1,fun _ => by rw [dopK_grd]; exact this.2,fun h => absurd rfl h⟩
 ·have e' : b = !want := by cases b <;> cases want <;> simp_all
  have := h2 e'
  rw [<- e',hup _ h] at this
  exact ⟨this.1,fun h => absurd h e,fun _ => this.2⟩
end
section
variable (P : Env) (Q : Exit -> St -> Prop) (st : St)
@[push_cast] theorem a_frz (ts : List Nat) (c : AC) : awp P (.frz ts c) Q st = awp P c Q (frzSl st ts) := rfl
@[push_cast] theorem frzSl_nil : frzSl st [] = st := rfl
@[push_cast] theorem frzSl_cons (t : Nat) (r : List Nat) : frzSl st (t :: r) = frzSl (st.frzs (cellsOf (st.get t))) r := rfl
@[push_cast] theorem a_cut (ks : List Nat) (c : AC) : awp P (.cut ks c) Q st = awp P c Q (st.keepS ks) := rfl
theorem wk_of {P : Env} {Q : Exit -> St -> Prop} {st : St} {c : AC} (st0 : St) (h : Wk st st0) (h2 : awp P c Q st0) : awp P (.wk c) Q st := ⟨st0,h,h2⟩
end
@[push_cast] theorem sub_self (c : PV) : Sub c c ↔ True := ⟨fun _ => trivial,fun _ => .refl c⟩
@[push_cast] theorem sub_bot (c : PV) : Sub c .bot ↔ True := ⟨fun _ => trivial,fun _ => .bot c⟩
@[push_cast] theorem subL_nil : SubL [] [] ↔ True := Iff.rfl
@[push_cast] theorem subL_cons (c d : PV) (cs ds : List PV) : SubL (c :: cs) (d :: ds) ↔ (Sub c d /\ SubL cs ds) := Iff.rfl
@[push_cast] theorem subL_self (cs : List PV) : SubL cs cs ↔ True := ⟨fun _ => trivial,fun _ => SubL.rfl' cs⟩
theorem subL_of : ∀ {cs ds : List PV},cs.length = ds.length -> (∀ (j : Nat) (c d : PV),cs[j]? = some c -> ds[j]? = some d -> Sub c d) -> SubL cs ds
 | [],[],_,_ => trivial
 | c :: cs,d :: ds,hl,h => ⟨h 0 c d rfl rfl,subL_of (by simpa using hl) fun j c' d' h1 h2 => h (j + 1) c' d' (by simpa using h1) (by simpa using h2)⟩
@[push_cast] theorem sub_agg (cs ds : List PV) : Sub (.agg cs) (.agg ds) ↔ SubL cs ds :=
 ⟨fun h => by cases h with | refl => exact SubL.rfl' _ | agg _ _ h1 h2 => exact subL_of h1 h2,Sub.aggL⟩
@[push_cast] theorem sub_tup (cs ds : List PV) : Sub (.tup cs) (.tup ds) ↔ SubL cs ds :=
 ⟨fun h => by cases h with | refl => exact SubL.rfl' _ | tup _ _ h1 h2 => exact subL_of h1 h2,Sub.tupL⟩
@[push_cast] theorem sub_slf (p : Bool) (es : Nat) (xs : List (List PV)) : Sub (.sl p es xs) (.sl false es xs) ↔ True := ⟨fun _ => trivial,fun _ => Sub.slp p es xs false (fun h => by cases h)⟩
@[push_cast] theorem sub_slt (q : Bool) (es : Nat) (xs : List (List PV)) : Sub (.sl true es xs) (.sl q es xs) ↔ True := ⟨fun _ => trivial,fun _ => Sub.slp true es xs q (fun _ => rfl)⟩
@[push_cast] theorem sub_nilsl (p : Bool) (es : Nat) (xs : List (List PV)) : Sub .nil (.sl p es xs) ↔ xs = [] := ⟨fun h => by cases h; rfl,fun h => by subst h; exact .nil p es⟩
@[push_cast] theorem sub_sc (a b : Value) : Sub (.sc a) (.sc b) ↔ a = b := ⟨fun h => by cases h; rfl,fun h => by subst h; exact .refl _⟩
@[push_cast] theorem rows_eq_nil {α : Type} (f : α -> List PV) (l : List α) : rows f l = [] ↔ l = [] := by simp [rows]
@[push_cast] theorem wk_mk (s s' : List (Nat × PV)) (b b' : List (Nat × List PV)) (a a' : List (Nat × Arr)) (m m' : List (Nat × Mp)) : Wk ⟨s,b,a,m⟩ ⟨s',b',a',m'⟩ ↔ (WkS s s' /\ WkB b b' /\ WkA a a' /\ m' = m) := Iff.rfl
@[push_cast] theorem wkS_nil : WkS [] [] ↔ True := Iff.rfl
@[push_cast] theorem wkS_cons (i j : Nat) (c d : PV) (s t : List (Nat × PV)) : WkS ((i,c) :: s) ((j,d) :: t) ↔ (i = j /\ Sub c d /\ WkS s t) := Iff.rfl
@[push_cast] theorem wkB_nil : WkB [] [] ↔ True := Iff.rfl
@[push_cast] theorem wkB_cons (i j : Nat) (c d : List PV) (s t : List (Nat × List PV)) : WkB ((i,c) :: s) ((j,d) :: t) ↔ (i = j /\ SubL c d /\ WkB s t) := Iff.rfl
@[push_cast] theorem wkA_nil : WkA [] [] ↔ True := Iff.rfl
@[push_cast] theorem wkA_cons (i j e e' y y' : Nat) (c d : List (List PV)) (s t : List (Nat × Arr)) : WkA ((i,⟨e,y,c⟩) :: s) ((j,⟨e',y',d⟩) :: t) ↔ ((i = j /\ e' = e /\ y' = y) /\ SubR c d /\ WkA s t) := Iff.rfl
@[push_cast] theorem subR_self (cs : List (List PV)) : SubR cs cs ↔ True := ⟨fun _ => trivial,fun _ => SubR.rfl' cs⟩
theorem cal_sub {P : Env} {d : Option Nat} {f : Nat} {args args' : List PV} {r : List AO} {st : St} {K : St -> Prop} {v : PV} (hc : FnEq P.p f args' v) (hs : SubL args args') (h : opsK P r (st.put d v) K) : calK P d f args r st K := cal_eq (FnOK.sub hc hs) h
theorem dcal_sub {P : Env} {u : List Nat} {d : Option Nat} {f : Nat} {args args' : List PV} {r : List DO} {st : St} {K : St -> Prop} {v : PV} (hc : FnEq P.p f args' v) (hs : SubL args args') (hu : refU u v = false) (h : dsK P r (st.put d v) K) : calDK P u d f args r st K :=
 dcal_eq (FnOK.sub hc hs) hu h
@[push_cast] theorem srcS_app_t (es ty by_ s : Nat) (y : Opd) : srcS (.app es ty by_ (.t s) y) = some s := rfl
end Go.Vc
namespace Go.Vc
open Go Go.RowKit
section
variable {P : Env} {d : Option Nat} {s : Nat} {op : AOp} {r : List AO} {sl : List (Nat × PV)} {bx : List (Nat × List PV)} {ar : List (Nat × Arr)} {mm : List (Nat × Mp)} {K : St -> Prop} {p : Prop} [Decidable p]
theorem grd_dec (h : getL sl s = .sc (.bool (decide p))) (h1 : p -> opsK P (⟨d, none, op⟩ :: r) ⟨rp sl s (.sc (.bool true)), bx, ar, mm⟩ K) (h2 : ¬ p -> opsK P r ((⟨rp sl s (.sc (.bool false)), bx, ar, mm⟩ : St).put d (.tup [])) K) :
  opsK P (⟨d,some (s,true),op⟩ :: r) ⟨sl,bx,ar,mm⟩ K := grd_of (decide p) h (fun e => h1 (of_decide_eq_true e)) (fun e => h2 (of_decide_eq_false e))
theorem grd_decf (h : getL sl s = .sc (.bool (decide p))) (h1 : p -> opsK P r ((⟨rp sl s (.sc (.bool true)), bx, ar, mm⟩ : St).put d (.tup [])) K) (h2 : ¬ p -> opsK P (⟨d, none, op⟩ :: r) ⟨rp sl s (.sc (.bool false)), bx, ar, mm⟩ K) :
  opsK P (⟨d,some (s,false),op⟩ :: r) ⟨sl,bx,ar,mm⟩ K := grd_of (decide p) h (fun e => h2 (of_decide_eq_false e)) (fun e => h1 (of_decide_eq_true e))
theorem grd_b {b : Bool} (h : getL sl s = .sc (.bool b)) (h1 : b = true -> opsK P (⟨d, none, op⟩ :: r) ⟨rp sl s (.sc (.bool true)), bx, ar, mm⟩ K) (h2 : b = false -> opsK P r ((⟨rp sl s (.sc (.bool false)), bx, ar, mm⟩ : St).put d (.tup [])) K) :
  opsK P (⟨d,some (s,true),op⟩ :: r) ⟨sl,bx,ar,mm⟩ K := grd_of b h h1 h2
end
section
variable {P : Env} {t u : List Nat} {d : Option Nat} {s : Nat} {op : AOp} {r : List DO} {sl : List (Nat × PV)} {bx : List (Nat × List PV)} {ar : List (Nat × Arr)} {mm : List (Nat × Mp)} {K : St -> Prop} {p : Prop} [Decidable p]
theorem dgrd_dec (h : getL sl s = .sc (.bool (decide p))) (h1 : p -> dsK P (⟨⟨d, none, op⟩, t, u, true⟩ :: r) ⟨rp sl s (.sc (.bool true)), bx, ar, mm⟩ K)
  (h2 : ¬ p -> preD t u d (srcS op) ⟨rp sl s (.sc (.bool false)),bx,ar,mm⟩ /\ dsK P r ((⟨rp sl s (.sc (.bool false)),bx,ar,mm⟩ : St).put d (.tup [])) K) : dsK P (⟨⟨d,some (s,true),op⟩,t,u,true⟩ :: r) ⟨sl,bx,ar,mm⟩ K :=
 dgrd_of (decide p) h (fun e => h1 (of_decide_eq_true e)) (fun e => h2 (of_decide_eq_false e))
theorem dgrd_decf (h : getL sl s = .sc (.bool (decide p))) (h1 : p -> preD t u d (srcS op) ⟨rp sl s (.sc (.bool true)), bx, ar, mm⟩ /\ dsK P r ((⟨rp sl s (.sc (.bool true)), bx, ar, mm⟩ : St).put d (.tup [])) K)
  (h2 : ¬ p -> dsK P (⟨⟨d,none,op⟩,t,u,true⟩ :: r) ⟨rp sl s (.sc (.bool false)),bx,ar,mm⟩ K) : dsK P (⟨⟨d,some (s,false),op⟩,t,u,true⟩ :: r) ⟨sl,bx,ar,mm⟩ K :=
 dgrd_of (decide p) h (fun e => h2 (of_decide_eq_false e)) (fun e => h1 (of_decide_eq_true e))
theorem dgrd_bf {b : Bool} (h : getL sl s = .sc (.bool b)) (h1 : b = true -> preD t u d (srcS op) ⟨rp sl s (.sc (.bool true)), bx, ar, mm⟩ /\ dsK P r ((⟨rp sl s (.sc (.bool true)), bx, ar, mm⟩ : St).put d (.tup [])) K)
  (h2 : b = false -> dsK P (⟨⟨d,none,op⟩,t,u,true⟩ :: r) ⟨rp sl s (.sc (.bool false)),bx,ar,mm⟩ K) : dsK P (⟨⟨d,some (s,false),op⟩,t,u,true⟩ :: r) ⟨sl,bx,ar,mm⟩ K := dgrd_of b h h2 h1
end
theorem cut_of {P : Env} {ops : List AO} {st : St} {ks : List Nat} {c : AC} {Q : Exit -> St -> Prop} (st1 : St) (h1 : opsK P ops st (fun st' => st'.keepS ks = st1)) (h2 : awp P c Q st1) : opsK P ops st (fun st' => awp P (.cut ks c) Q st') := by
 have mono : ∀ (l : List AO) (st : St) (K K' : St -> Prop),(∀ s,K s -> K' s) -> opsK P l st K -> opsK P l st K' := by
  intro l
  induction l with
  | nil => exact fun st K K' h hk => h st hk
  | cons o r ih => exact fun st K K' h hk => grdK_mono (opK_mono fun s hs => ih s K K' h hs) (ih _ K K' h) hk
 exact mono ops st _ _ (fun s hs => by show awp P c Q (s.keepS ks); rw [hs]; exact h2) h1
theorem dcut_of {P : Env} {ops : List DO} {st : St} {ks : List Nat} {c : AC} {Q : Exit -> St -> Prop} (st1 : St) (h1 : dsK P ops st (fun st' => st'.keepS ks = st1)) (h2 : awp P c Q st1) : dsK P ops st (fun st' => awp P (.cut ks c) Q st') := by
 have dop : ∀ (x : DO) (st : St) (K K' : St -> Prop),(∀ s,K s -> K' s) -> dopG P x st K -> dopG P x st K' := by
  intro x st K K' h hk
  unfold dopG at hk ⊢
  split
  ·rename_i hs
   rw [if_pos hs] at hk
   refine ⟨hk.1,grdK_mono (fun hd => ?_) (h _) hk.2⟩
   unfold dopK at hd ⊢
   split
   ·rename_i hop
    rw [hop] at hd
    obtain ⟨post,a,b,c⟩ := hd
    exact ⟨post,a,b,fun r hr => ⟨(c r hr).1,h _ (c r hr).2⟩⟩
   ·rename_i hop
    rw [hop] at hd
    simp only at hd ⊢
    split at hd
    ·obtain ⟨h0,post,a,b,c⟩ := hd
     exact ⟨h0,post,a,b,fun r hr => ⟨(c r hr).1,h _ (c r hr).2⟩⟩
    ·exact hd.elim
   ·rename_i hop hop3
    have hd : sideOK st x.t x.u x.o.op /\ opK P x.o st (fun st' => postOK x st' /\ K st') := by
     split at hd
     ·rename_i hop2; exact absurd hop2 (hop _ _)
     ·rename_i hop2; exact absurd hop2 (hop3 _ _)
     ·exact hd
    exact ⟨hd.1,opK_mono (fun s hs => ⟨hs.1,h s hs.2⟩) hd.2⟩
  ·rename_i hs
   rw [if_neg hs] at hk
   exact grdK_mono (opK_mono h) (h _) hk
 have mono : ∀ (l : List DO) (st : St) (K K' : St -> Prop),(∀ s,K s -> K' s) -> dsK P l st K -> dsK P l st K' := by
  intro l
  induction l with
  | nil => exact fun st K K' h hk => h st hk
  | cons o r ih => exact fun st K K' h hk => dop o st _ _ (fun s hs => ih s K K' h hs) hk
 exact mono ops st _ _ (fun s hs => by show awp P c Q (s.keepS ks); rw [hs]; exact h2) h1
end Go.Vc
namespace Go.Vc
open Go Go.RowKit
inductive Ty where
 | b
 | i (k : IntKind)
 | sl (es : Nat) (ts : List Ty)
def flatOk (P : Program) : Nat -> TypeId -> List Ty -> Bool
 | 0,_,_ => false
 | n + 1, t, ts => match P.underlying t with
   | some .bool => (match ts with | [.b] => true | _ => false)
   | some (.int k) => (match ts with | [.i k'] => k == k' | _ => false)
   | some (.slice e) => (match ts with | [.sl es us] => us.length == es && P.cellsOf e == es && decide (0 < es) && flatOk P n e us | _ => false)
   | some (.struct fs) => fs.toList.all (fun f => flatOk P n f.type ((ts.drop f.offset).take (P.cellsOf f.type))) && ts.length == P.cellsOf t &&
     (List.range ts.length).all fun j => fs.toList.any fun f => decide (f.offset <= j) && decide (j < f.offset + P.cellsOf f.type)
   | some (.array m e) => (List.range m).all (fun i => flatOk P n e ((ts.drop (i * P.cellsOf e)).take (P.cellsOf e))) && ts.length == P.cellsOf t &&
     (List.range ts.length).all fun j => (List.range m).any fun i => decide (i * P.cellsOf e <= j) && decide (j < i * P.cellsOf e + P.cellsOf e)
   | _ => false
inductive CellB (B : Nat) : Ty -> PV -> Prop
 | b (x) : CellB B .b (.sc (.bool x))
 | i (k n) : k.min <= n -> n <= k.max -> CellB B (.i k) (.sc (.int k n))
 | sl (es ts) (rows : List (List PV)) : rows.length <= B -> (∀ r ∈ rows,r.length = ts.length) -> (∀ r ∈ rows,∀ (j : Nat) (t : Ty) (c : PV),ts[j]? = some t -> r[j]? = some c -> CellB B t c) -> CellB B (.sl es ts) (.sl true es rows)
abbrev CellV : Ty -> PV -> Prop := CellB maxLen
structure Meas {H : Type} (μ : DataW H -> Nat) : Prop where
 len : ∀ l r,l.length <= μ (.slice l r)
 el : ∀ l r,∀ e ∈ l,μ e <= μ (.slice l r)
 agg : ∀ l,∀ e ∈ l,μ e <= μ (.agg l)
def Fits {H : Type} (B : Nat) (d : DataW H) : Prop := maxLen <= B \/ ∃ μ : DataW H -> Nat,Meas μ /\ μ d <= B
theorem Fits.agg {H : Type} {B : Nat} {l : List (DataW H)} {e : DataW H} (h : Fits B (.agg l)) (he : e ∈ l) : Fits B e := h.imp _root_.id fun ⟨μ,h1,h2⟩ => ⟨μ,h1,Nat.le_trans (h1.agg l e he) h2⟩
theorem Fits.el {H : Type} {B : Nat} {l r : List (DataW H)} {e : DataW H} (h : Fits B (.slice l r)) (he : e ∈ l) : Fits B e := h.imp _root_.id fun ⟨μ,h1,h2⟩ => ⟨μ,h1,Nat.le_trans (h1.el l r e he) h2⟩
theorem Fits.len {H : Type} {B : Nat} {l r : List (DataW H)} (h : Fits B (.slice l r)) (hl : l.length <= maxLen) : l.length <= B := by
 rcases h with h | ⟨μ,h1,h2⟩
 ·omega
 ·have := h1.len l r; omega
theorem mapM_len {α β : Type} {f : α -> Option β} : ∀ {l : List α} {r : List β},l.mapM f = some r -> r.length = l.length
 | [],r,h => by simp at h; subst h; rfl
 | a :: l, r, h => by
   rw [List.mapM_cons] at h
   cases ha : f a with
   | none => rw [ha] at h; cases h
   | some y =>
     rw [ha] at h
     cases hl : l.mapM f with
     | none => rw [hl] at h; cases h
     | some ys =>
       rw [hl] at h
       cases h
       simp [mapM_len hl]
theorem mapM_at {α β : Type} {f : α -> Option β} : ∀ {l : List α} {r : List β},l.mapM f = some r -> ∀ x ∈ l,∃ y ∈ r,f x = some y
 | [],_,_,x,hx => by cases hx
 | a :: l, r, h, x, hx => by
   rw [List.mapM_cons] at h
   cases ha : f a with
   | none => rw [ha] at h; cases h
   | some y =>
     rw [ha] at h
     cases hl : l.mapM f with
     | none => rw [hl] at h; cases h
     | some ys =>
       rw [hl] at h
       cases h
       rcases List.mem_cons.1 hx with rfl | hx
       ·exact ⟨y,by simp,ha⟩
       ·obtain ⟨z,h1,h2⟩ := mapM_at hl x hx
        exact ⟨z,by simp [h1],h2⟩
theorem exists_list {α : Type} {Q : Nat -> α -> Prop} : ∀ n : Nat,(∀ j,j < n -> ∃ c,Q j c) -> ∃ l : List α,l.length = n /\ ∀ j c,l[j]? = some c -> Q j c
 | 0,_ => ⟨[],rfl,fun j c h => by simp at h⟩
 | n + 1, h => by
   obtain ⟨l,h1,h2⟩ := exists_list n fun j hj => h j (by omega)
   obtain ⟨c,hc⟩ := h n (by omega)
   refine ⟨l ++ [c],by simp [h1],fun j c' hj => ?_⟩
   by_cases hjn : j < l.length
   ·rw [List.getElem?_append_left hjn] at hj; exact h2 j c' hj
   ·rw [List.getElem?_append_right (by omega)] at hj
    have : j - l.length = 0 := by
     have := (List.getElem?_eq_some_iff.1 hj).1
     simp at this; omega
    rw [this] at hj
    simp at hj
    subst hj
    have : j = n := by omega
    rw [this]; exact hc
theorem addr_add_add (a : Addr) (m n : Nat) : (a.add m).add n = a.add (m + n) := by
 unfold Addr.add
 by_cases hm : m = 0
 ·subst hm; simp
 ·by_cases hn : n = 0
  ·subst hn; simp
  ·simp [hm,hn,show m + n ≠ 0 by omega,Nat.add_assoc]
def ZW (w : World) : Zone := fun _ b => b < w.heap.size
section
variable {H : Type} {enc : TypeId × Value -> H} {P : Program} {w : World} {sp : Nat -> Bool} {hd : Bool}
theorem trod_tr {B : Nat} : ∀ (n fuel : Nat) (t : TypeId) (ts : List Ty) (cs : List Value) (x : DataW H × List MemPlace), flatOk P n t ts = true -> Fits B x.1 -> DataW.trod enc P w 0 sp hd fuel t cs = some x ->
  cs.length = ts.length /\ ∀ (j : Nat) (t' : Ty),ts[j]? = some t' -> ∃ (c : PV) (v : Value),cs[j]? = some v /\ CellB B t' c /\ TR w (ZW w) c v /\ v.oneCell' = true := by
 intro n
 induction n with
 | zero => intro fuel t ts cs x h; simp [flatOk] at h
 | succ n ih =>
   intro fuel t ts cs x h hB hx
   cases fuel with
   | zero => simp [DataW.trod] at hx
   | succ fuel =>
     unfold flatOk at h
     unfold DataW.trod at hx
     split at h
     ·rename_i hu
      rw [hu] at hx
      split at h
      ·split at hx <;> first | (cases hx; done) | skip
       all_goals first
        | (rename_i h1; cases h1; done)
        | skip
       rename_i b _
       refine ⟨rfl,fun j t' hj => ?_⟩
       cases j with
       | zero => simp at hj; subst hj; exact ⟨.sc (.bool b),.bool b,rfl,.b b,.sc _ rfl,rfl⟩
       | succ j => simp at hj
      ·cases h
     ·rename_i k hu
      rw [hu] at hx
      split at h
      ·rename_i k'
       have hk : k = k' := by cases k <;> cases k' <;> first | rfl | (cases h; done)
       subst hk
       split at hx <;> first | (cases hx; done) | skip
       all_goals first
        | (rename_i h1; cases h1; done)
        | skip
       rename_i k2 k1 m h1
       cases h1
       split at hx
       ·rename_i hh
        obtain ⟨rfl,hw⟩ := hh
        simp only [Lit.wf,Bool.and_eq_true,decide_eq_true_eq] at hw
        refine ⟨rfl,fun j t' hj => ?_⟩
        cases j with
        | zero => simp at hj; subst hj; exact ⟨.sc (.int _ m),.int _ m,rfl,.i _ m hw.1 hw.2,.sc _ rfl,rfl⟩
        | succ j => simp at hj
       ·cases hx
      ·cases h
     ·rename_i e hu
      rw [hu] at hx
      split at h
      ·rename_i es us
       simp only [Bool.and_eq_true,beq_iff_eq,decide_eq_true_eq] at h
       obtain ⟨⟨⟨h1,h2⟩,h3⟩,h4⟩ := h
       rcases cs with _ | ⟨v,_ | ⟨v2,r⟩⟩
       ·cases hx
       ·have nilCase : ∀ (p : Option Addr) (cap : Nat), cap <= maxLen -> ([Value.slice p 0 cap] : List Value).length = [Ty.sl es us].length /\ ∀ (j : Nat) (t' : Ty), [Ty.sl es us][j]? = some t' -> ∃ (c : PV) (v' : Value), [Value.slice p 0 cap][j]? = some v' /\ CellB B t' c /\ TR w (ZW w) c v' /\ v'.oneCell' = true := fun p cap hcap => by
         refine ⟨rfl,fun j t' hj => ?_⟩
         cases j with
         | zero =>
           simp at hj; subst hj
           exact ⟨.sl true es [],_,rfl,.sl es us [] (Nat.zero_le _) (fun r hr => by cases hr) (fun r hr => by cases hr),.sl0 true es p cap hcap,rfl⟩
         | succ j => simp at hj
        cases v <;> first | (cases hx; done) | skip
        rename_i p len cap
        cases p with
        | none =>
          cases len with
          | zero => cases cap with
            | zero => exact nilCase none 0 (Nat.zero_le _)
            | succ c => cases hx
          | succ l => cases hx
        | some ad =>
          simp only at hx
          split at hx
          ·rename_i hb
           obtain ⟨_,hlc,hcm⟩ := hb
           cases hm : (List.range len).mapM (fun i => (w.cells? 0 (ad.add (i * P.cellsOf e)) (P.cellsOf e)).bind (DataW.trod enc P w 0 sp hd fuel e)) with
           | none => rw [hm] at hx; cases hx
           | some elems =>
             have hxs : ∃ r,x.1 = .slice (elems.map (·.1)) r := by
              rw [hm] at hx
              obtain ⟨rest,_,hx⟩ := Option.map_eq_some_iff.1 hx
              exact ⟨_,by rw [<- hx]⟩
             obtain ⟨rest,hxs⟩ := hxs
             rw [hxs] at hB
             have hel := mapM_len hm
             rw [List.length_range] at hel
             have hlB : len <= B := by
              have := hB.len (by rw [List.length_map]; omega)
              rw [List.length_map] at this
              omega
             clear hx
             by_cases hl0 : len = 0
             ·subst hl0; exact nilCase (some ad) cap hcm
             have row : ∀ i,i < len -> ∃ rr : List PV,rr.length = es /\ ∀ (j : Nat) (c : PV),rr[j]? = some c -> ∃ v',w.cell? (ad.add (i * es + j)) = some v' /\ (∀ t',us[j]? = some t' -> CellB B t' c) /\ TR w (ZW w) c v' /\ v'.oneCell' = true := fun i hi => by
              obtain ⟨y,hye,hy⟩ := mapM_at hm i (List.mem_range.2 hi)
              cases hc : w.cells? 0 (ad.add (i * P.cellsOf e)) (P.cellsOf e) with
              | none => rw [hc] at hy; cases hy
              | some cs' =>
                rw [hc] at hy
                have hy : DataW.trod enc P w 0 sp hd fuel e cs' = some y := hy
                obtain ⟨g1,g2⟩ := ih fuel e us cs' y h4 (hB.el (List.mem_map_of_mem hye)) hy
                rw [h2] at hc
                obtain ⟨_,hlen,hat⟩ := World.cells?_some hc
                refine exists_list (Q := fun j c => ∃ v',w.cell? (ad.add (i * es + j)) = some v' /\ (∀ t',us[j]? = some t' -> CellB B t' c) /\ TR w (ZW w) c v' /\ v'.oneCell' = true) es fun j hj => ?_
                obtain ⟨c,v',q1,q2,q3,q4⟩ := g2 j us[j] (List.getElem?_eq_getElem (by omega))
                refine ⟨c,v',?_,fun t' ht' => ?_,q3,q4⟩
                ·rw [<- addr_add_add,hat j hj]; exact q1
                ·rw [List.getElem?_eq_getElem (by omega)] at ht'; cases ht'; exact q2
             obtain ⟨rows,hr1,hr2⟩ := exists_list (Q := fun i (rr : List PV) => rr.length = es /\ ∀ (j : Nat) (c : PV),rr[j]? = some c -> ∃ v',w.cell? (ad.add (i * es + j)) = some v' /\ (∀ t',us[j]? = some t' -> CellB B t' c) /\ TR w (ZW w) c v' /\ v'.oneCell' = true) len row
             have hrow : ∀ r ∈ rows,∃ i,i < len /\ rows[i]? = some r := fun r hr => by
              obtain ⟨i,hi,rfl⟩ := List.getElem_of_mem hr
              exact ⟨i,by omega,List.getElem?_eq_getElem hi⟩
             have hspot : ad.spot = none /\ ad.block < w.heap.size := by
              obtain ⟨r0,hr0⟩ : ∃ r0,rows[0]? = some r0 := ⟨rows[0],List.getElem?_eq_getElem (by omega)⟩
              obtain ⟨e1,e2⟩ := hr2 0 r0 hr0
              obtain ⟨v',e3,_⟩ := e2 0 r0[0] (List.getElem?_eq_getElem (by omega))
              simp only [Nat.zero_mul,Nat.zero_add,Addr.add,if_true] at e3
              unfold World.cell? at e3
              split at e3
              ·rename_i hb
               split at e3
               ·cases e3
               ·rename_i hs
                refine ⟨by cases hsp : ad.spot <;> simp_all,?_⟩
                exact (Array.getElem?_eq_some_iff.1 hb).1
              ·cases e3
             have haddr : ∀ k,ad.add k = ⟨ad.block,ad.off + k,none⟩ := fun k => by
              obtain ⟨b0,o0,s0⟩ := ad
              have : s0 = none := hspot.1
              subst this
              unfold Addr.add
              split
              ·rename_i hk; subst hk; rfl
              ·rfl
             refine ⟨rfl,fun j t' hj => ?_⟩
             cases j with
             | succ j => simp at hj
             | zero =>
               simp at hj; subst hj
               refine ⟨.sl true es rows,_,rfl,.sl es us rows (by omega) (fun r hr => ?_) (fun r hr j t'' c ht hc => ?_),?_,rfl⟩
               ·obtain ⟨i,hi,hri⟩ := hrow r hr; rw [(hr2 i r hri).1,h1]
               ·obtain ⟨i,hi,hri⟩ := hrow r hr
                obtain ⟨v',_,q,_⟩ := (hr2 i r hri).2 j c hc
                exact q t'' ht
               ·have had : ad = ⟨ad.block, ad.off, none⟩ := by
                 obtain ⟨b0,o0,s0⟩ := ad
                 have : s0 = none := hspot.1
                 subst this; rfl
                rw [had,<- hr1]
                refine TR.sl true es rows ad.block ad.off cap (fun i j => (w.cell? (ad.add (i * es + j))).getD undef) h3 hspot.2 (by omega) (by omega) hcm (fun r hr => ?_) (fun i j hi hj => ?_) (fun i j r c hi hj => ?_)
                ·obtain ⟨i,hi,hri⟩ := hrow r hr; exact (hr2 i r hri).1
                ·have hri : rows[i]? = some rows[i] := List.getElem?_eq_getElem hi
                 obtain ⟨e1,e2⟩ := hr2 i _ hri
                 obtain ⟨v',e3,_,_,e4⟩ := e2 j rows[i][j] (List.getElem?_eq_getElem (by omega))
                 rw [e3,<- haddr,e3]
                 exact ⟨rfl,e4⟩
                ·obtain ⟨v',e3,_,e5,_⟩ := (hr2 i r hi).2 j c hj
                 rw [e3]; exact e5
          ·cases hx
       ·exfalso
        split at hx <;> first | (cases hx; done) | (rename_i h5 h6; cases h5; done) | (rename_i h5 h6; cases h6; done) | simp_all
      ·cases h
     ·rename_i fs hu
      rw [hu] at hx
      simp only [Bool.and_eq_true,beq_iff_eq,List.all_eq_true,List.any_eq_true,decide_eq_true_eq] at h
      obtain ⟨⟨h1,h2⟩,h3⟩ := h
      have hx : (if cs.length = P.cellsOf t then ((fs.toList.mapM fun f => DataW.trod enc P w 0 sp hd fuel f.type ((cs.drop f.offset).take (P.cellsOf f.type))).map fun xs => (DataW.agg (xs.map (·.1)),xs.flatMap (·.2))) else none) = some x := hx
      split at hx
      ·rename_i hl
       refine ⟨by omega,fun j t' hj => ?_⟩
       have hjl := (List.getElem?_eq_some_iff.1 hj).1
       obtain ⟨f,hf,hf1,hf2⟩ := h3 j (List.mem_range.2 hjl)
       cases hm : fs.toList.mapM (fun f => DataW.trod enc P w 0 sp hd fuel f.type ((cs.drop f.offset).take (P.cellsOf f.type))) with
       | none => rw [hm] at hx; cases hx
       | some ys =>
         obtain ⟨y,hye,hy⟩ := mapM_at hm f hf
         have hxa : x.1 = .agg (ys.map (·.1)) := by
          rw [hm] at hx
          have hx : some (DataW.agg (ys.map (·.1)),ys.flatMap (·.2)) = some x := hx
          cases hx; rfl
         rw [hxa] at hB
         obtain ⟨g1,g2⟩ := ih fuel f.type _ _ y (h1 f hf) (hB.agg (List.mem_map_of_mem hye)) hy
         have hj' : ((ts.drop f.offset).take (P.cellsOf f.type))[j - f.offset]? = some t' := by
          rw [List.getElem?_take,if_pos (by omega),List.getElem?_drop,show f.offset + (j - f.offset) = j from by omega]; exact hj
         obtain ⟨c,v,q1,q2⟩ := g2 _ t' hj'
         refine ⟨c,v,?_,q2⟩
         rw [List.getElem?_take,if_pos (by omega),List.getElem?_drop,show f.offset + (j - f.offset) = j from by omega] at q1
         exact q1
      ·cases hx
     ·rename_i m e hu
      rw [hu] at hx
      simp only [Bool.and_eq_true,beq_iff_eq,List.all_eq_true,List.any_eq_true,decide_eq_true_eq] at h
      obtain ⟨⟨h1,h2⟩,h3⟩ := h
      have hx : (if cs.length = P.cellsOf t then (((List.range m).mapM fun i => DataW.trod enc P w 0 sp hd fuel e ((cs.drop (i * P.cellsOf e)).take (P.cellsOf e))).map fun xs => (DataW.agg (xs.map (·.1)),xs.flatMap (·.2))) else none) = some x := hx
      split at hx
      ·rename_i hl
       refine ⟨by omega,fun j t' hj => ?_⟩
       have hjl := (List.getElem?_eq_some_iff.1 hj).1
       obtain ⟨i,hi,hf1,hf2⟩ := h3 j (List.mem_range.2 hjl)
       cases hm : (List.range m).mapM (fun i => DataW.trod enc P w 0 sp hd fuel e ((cs.drop (i * P.cellsOf e)).take (P.cellsOf e))) with
       | none => rw [hm] at hx; cases hx
       | some ys =>
         obtain ⟨y,hye,hy⟩ := mapM_at hm i hi
         have hxa : x.1 = .agg (ys.map (·.1)) := by
          rw [hm] at hx
          have hx : some (DataW.agg (ys.map (·.1)),ys.flatMap (·.2)) = some x := hx
          cases hx; rfl
         rw [hxa] at hB
         obtain ⟨g1,g2⟩ := ih fuel e _ _ y (h1 i hi) (hB.agg (List.mem_map_of_mem hye)) hy
         have hj' : ((ts.drop (i * P.cellsOf e)).take (P.cellsOf e))[j - i * P.cellsOf e]? = some t' := by
          rw [List.getElem?_take,if_pos (by omega),List.getElem?_drop,show i * P.cellsOf e + (j - i * P.cellsOf e) = j from by omega]; exact hj
         obtain ⟨c,v,q1,q2⟩ := g2 _ t' hj'
         refine ⟨c,v,?_,q2⟩
         rw [List.getElem?_take,if_pos (by omega),List.getElem?_drop,show i * P.cellsOf e + (j - i * P.cellsOf e) = j from by omega] at q1
         exact q1
      ·cases hx
     ·cases h
def aggT (P : Program) (t : TypeId) : Bool := match P.underlying t with | some (.struct _) | some (.array _ _) => true | _ => false
def RowB (B : Nat) (ts : List Ty) (pc : List PV) : Prop := pc.length = ts.length /\ ∀ (j : Nat) (t : Ty) (c : PV),ts[j]? = some t -> pc[j]? = some c -> CellB B t c
abbrev RowV : List Ty -> List PV -> Prop := RowB maxLen
theorem argTyB {B : Nat} {n : Nat} {t : TypeId} {ts : List Ty} {v : Value} {base : Nat} {d : DataW H} {ps : List MemPlace} (hf : flatOk P n t ts = true) (hs : aggT P t = true) (hok : Value.okWide P w .any base t v)
  (hB : Fits B d) (h : DataW.Trod enc P w 0 sp hd t v d ps) : ∃ pc : List PV,RowB B ts pc /\ TV w (ZW w) (.agg pc) v := by
 obtain ⟨fuel,h⟩ := h
 have hv : ∃ cs : Array Value,v = .agg cs := by
  unfold Value.okWide at hok
  unfold aggT at hs
  split at hs
  ·rename_i hu; rw [hu] at hok; obtain ⟨cs,e,_⟩ := hok; exact ⟨cs,e⟩
  ·rename_i hu; rw [hu] at hok; obtain ⟨cs,e,_⟩ := hok; exact ⟨cs,e⟩
  ·cases hs
 obtain ⟨cs,rfl⟩ := hv
 obtain ⟨g1,g2⟩ := trod_tr n fuel t ts cs.toList (d,ps) hf hB h
 obtain ⟨pc,h1,h2⟩ := exists_list (Q := fun j c => ∃ v,cs.toList[j]? = some v /\ (∀ t',ts[j]? = some t' -> CellB B t' c) /\ TR w (ZW w) c v /\ v.oneCell' = true) ts.length fun j hj => by
  obtain ⟨c,v,q1,q2,q3,q4⟩ := g2 j ts[j] (List.getElem?_eq_getElem hj)
  exact ⟨c,v,q1,fun t' ht => by rw [List.getElem?_eq_getElem hj] at ht; cases ht; exact q2,q3,q4⟩
 refine ⟨pc,⟨h1,fun j t' c ht hc => ?_⟩,cs,rfl,by rw [h1,<- g1]; simp,fun j c hc => ?_⟩
 ·obtain ⟨v,_,q,_⟩ := h2 j c hc; exact q t' ht
 ·obtain ⟨v,q1,_,q3,q4⟩ := h2 j c hc
  have : cs.getD j undef = v := by
   rw [Array.getD_eq_getD_getElem?]
   have : cs[j]? = some v := by simpa using q1
   rw [this]; rfl
  rw [this]; exact ⟨q3,q4⟩
theorem argTy {n : Nat} {t : TypeId} {ts : List Ty} {v : Value} {base : Nat} {d : DataW H} {ps : List MemPlace} (hf : flatOk P n t ts = true) (hs : aggT P t = true) (hok : Value.okWide P w .any base t v)
  (h : DataW.Trod enc P w 0 sp hd t v d ps) : ∃ pc : List PV,RowV ts pc /\ TV w (ZW w) (.agg pc) v := argTyB hf hs hok (.inl (Nat.le_refl _)) h
theorem zw_call {f : FuncId} {args : List PV} {vs : Array Value} (hc : FnEq P f args (.bool true)) (hn : vs.size = args.length) (h : ∀ (j : Nat) (c : PV), args[j]? = some c -> TV w (ZW w) c (vs.getD j undef)) :
  Calls P f vs w fun e w' => e = .returned (.bool true) /\ Below w.heap.size w w' := by
 refine (hc w (ZW w) (fun _ h => h) (fun _ _ h => h) vs hn h).mono ?_
 rintro e w' ⟨v,r,rfl,rfl,h1,h2⟩
 cases h1
 exact ⟨rfl,h2⟩
end
end Go.Vc
