/- VcW VcZ VcBr: lemmas for PLayouts -/
import Derived.Test.YtledbjkolidhkaaPart06
import Derived.ProofKit
set_option linter.unusedSimpArgs false
set_option linter.unusedVariables false
namespace Go.Vc
open Go Go.RowKit
@[push_cast] theorem inL_nil' (i : Nat) : inL [] i = false := rfl
@[push_cast] theorem inL_cons (a : Nat) (t : List Nat) (i : Nat) : inL (a :: t) i = if a = i then true else inL t i := by
  unfold inL
  rw [memN_eq, memN_eq]; rfl
def ssIs : Option Nat → Nat → Bool
  | none, _ => false
  | some j, k => if j = k then true else false
@[push_cast] theorem ssIs_none (k : Nat) : ssIs none k = false := rfl
@[push_cast] theorem ssIs_some (j k : Nat) : ssIs (some j) k = if j = k then true else false := rfl
def noS (ss : Option Nat) (t : List Nat) : List (Nat × PV) → Bool
  | [] => true
  | (k, v) :: r => (ssIs ss k || !v.toV (inL t) (inL t)) && noS ss t r
def noB (t : List Nat) : List (Nat × List PV) → Bool
  | [] => true
  | (_, cs) :: r => !anyT (inL t) (inL t) cs && noB t r
@[push_cast] theorem noS_nil (ss : Option Nat) (t : List Nat) : noS ss t [] = true := rfl
@[push_cast] theorem noS_cons (ss : Option Nat) (t : List Nat) (k : Nat) (v : PV) (r : List (Nat × PV)) : noS ss t ((k, v) :: r) = ((ssIs ss k || !v.toV (inL t) (inL t)) && noS ss t r) := rfl
@[push_cast] theorem noB_nil (t : List Nat) : noB t [] = true := rfl
@[push_cast] theorem noB_cons (t : List Nat) (k : Nat) (cs : List PV) (r : List (Nat × List PV)) : noB t ((k, cs) :: r) = (!anyT (inL t) (inL t) cs && noB t r) := rfl
@[push_cast] theorem noX_nil (st : St) (ss : Option Nat) : noX st [] ss = true := rfl
@[push_cast] theorem noX_cons (s : List (Nat × PV)) (b : List (Nat × List PV)) (a : List (Nat × Arr)) (m : List (Nat × Mp)) (i : Nat) (t : List Nat) (ss : Option Nat) : noX ⟨s, b, a, m⟩ (i :: t) ss = (noS ss (i :: t) s && noB (i :: t) b) := by
  simp only [noX]
  congr 1
  · induction s with
    | nil => rfl
    | cons x r ih =>
      obtain ⟨k, v⟩ := x
      simp only [List.all_cons, noS, ih]
      congr 2
      cases ss with
      | none => rfl
      | some j => by_cases h : j = k <;> simp [ssIs, h]
  · induction b with
    | nil => rfl
    | cons x r ih =>
      obtain ⟨k, v⟩ := x
      simp only [anyT_eq] at ih
      simp only [List.all_cons, noB, ih, anyT_eq]
@[push_cast] theorem stoT_nil (v : PV) : stoT [] v = true := rfl
@[push_cast] theorem stoT_ptr (i : Nat) (u : List Nat) (id o : Nat) : stoT (i :: u) (.ptr id o) = inL (i :: u) id := rfl
@[push_cast] theorem stoT_eptr (i : Nat) (u : List Nat) (id j o : Nat) : stoT (i :: u) (.eptr id j o) = inL (i :: u) id := rfl
@[push_cast] theorem refU_nil (v : PV) : refU [] v = false := rfl
@[push_cast] theorem refU_cons (a : Nat) (u : List Nat) (v : PV) : refU (a :: u) v = v.toV (inL (a :: u)) (inL (a :: u)) := rfl
@[push_cast] theorem boxU_nil (o : Option (List PV)) : boxU [] o = false := by cases o <;> rfl
@[push_cast] theorem boxU_none (a : Nat) (u : List Nat) : boxU (a :: u) none = false := rfl
@[push_cast] theorem boxU_some (a : Nat) (u : List Nat) (cs : List PV) : boxU (a :: u) (some cs) = anyT (inL (a :: u)) (inL (a :: u)) cs := anyT_eq _ _ cs
@[push_cast] theorem getO_some (st : St) (i : Nat) : st.getO (some i) = st.get i := rfl
@[push_cast] theorem getO_none (st : St) : st.getO none = .bot := rfl
def boxA (u : List Nat) (b : List (Nat × List PV)) : List Nat → Bool
  | [] => true
  | i :: t => !boxU u (lk b i) && boxA u b t
@[push_cast] theorem boxA_nil (u : List Nat) (b : List (Nat × List PV)) : boxA u b [] = true := rfl
@[push_cast] theorem boxA_cons (u : List Nat) (b : List (Nat × List PV)) (i : Nat) (t : List Nat) : boxA u b (i :: t) = (!boxU u (lk b i) && boxA u b t) := rfl
theorem boxA_eq (u : List Nat) (b : List (Nat × List PV)) (t : List Nat) : t.all (fun i => !boxU u (lk b i)) = boxA u b t := by induction t <;> simp_all [boxA]
def preD (t u : List Nat) (d ss : Option Nat) (st : St) : Prop := noX st t ss = true ∧ refU u (st.getO d) = false ∧ boxA u st.b t = true
def postD (t u : List Nat) (d : Option Nat) (st : St) : Prop := refU u (st.getO d) = false ∧ boxA u st.b t = true
@[congr] theorem preD_congr {t u : List Nat} {d ss : Option Nat} {st st' : St} (h : st = st') : preD t u d ss st = preD t u d ss st' := by rw [h]
@[push_cast] theorem preD_nil (d ss : Option Nat) (st : St) : preD [] [] d ss st = True := by simp [preD, refU_nil, boxA, noX]
@[push_cast] theorem postD_nil (d : Option Nat) (st : St) : postD [] [] d st = True := by simp [postD, refU_nil, boxA]
@[push_cast] theorem preD_t (i : Nat) (t u : List Nat) (d ss : Option Nat) (s : List (Nat × PV)) (b : List (Nat × List PV)) (a : List (Nat × Arr)) (m : List (Nat × Mp)) :
    preD (i :: t) u d ss ⟨s, b, a, m⟩ = (noX ⟨s, b, a, m⟩ (i :: t) ss = true ∧ refU u (St.getO ⟨s, b, a, m⟩ d) = false ∧ boxA u b (i :: t) = true) := rfl
@[push_cast] theorem preD_u (i : Nat) (u : List Nat) (d ss : Option Nat) (s : List (Nat × PV)) (b : List (Nat × List PV)) (a : List (Nat × Arr)) (m : List (Nat × Mp)) :
    preD [] (i :: u) d ss ⟨s, b, a, m⟩ = (refU (i :: u) (St.getO ⟨s, b, a, m⟩ d) = false) := by simp [preD, boxA, noX]
@[push_cast] theorem postD_t (i : Nat) (t u : List Nat) (d : Option Nat) (s : List (Nat × PV)) (b : List (Nat × List PV)) (a : List (Nat × Arr)) (m : List (Nat × Mp)) :
    postD (i :: t) u d ⟨s, b, a, m⟩ = (refU u (St.getO ⟨s, b, a, m⟩ d) = false ∧ boxA u b (i :: t) = true) := rfl
@[push_cast] theorem postD_u (i : Nat) (u : List Nat) (d : Option Nat) (s : List (Nat × PV)) (b : List (Nat × List PV)) (a : List (Nat × Arr)) (m : List (Nat × Mp)) :
    postD [] (i :: u) d ⟨s, b, a, m⟩ = (refU (i :: u) (St.getO ⟨s, b, a, m⟩ d) = false) := by simp [postD, boxA]
def nvL : List PV → Bool
  | [] => true
  | c :: r => (viewIds [c]).isEmpty && nvL r
theorem nvL_eq (cs : List PV) : (viewIds cs = []) ↔ nvL cs = true := by
  induction cs with
  | nil => simp [viewIds, nvL]
  | cons c r ih => cases c <;> simp [viewIds, nvL, ih]
@[push_cast] theorem nvL_nil : nvL [] = true := rfl
@[push_cast] theorem nvL_sc (v : Value) (r : List PV) : nvL (.sc v :: r) = nvL r := rfl
@[push_cast] theorem nvL_nil' (r : List PV) : nvL (.nil :: r) = nvL r := rfl
@[push_cast] theorem nvL_sl (p : Bool) (es : Nat) (xs : List (List PV)) (r : List PV) : nvL (.sl p es xs :: r) = nvL r := rfl
@[push_cast] theorem nvL_iptr (p : Bool) (cs : List PV) (o : Nat) (r : List PV) : nvL (.iptr p cs o :: r) = nvL r := rfl
@[push_cast] theorem nvL_ptr (i o : Nat) (r : List PV) : nvL (.ptr i o :: r) = nvL r := rfl
@[push_cast] theorem nvL_bot (r : List PV) : nvL (.bot :: r) = nvL r := rfl
def nvP (st : St) : List (Nat × Opd) → Bool
  | [] => true
  | (_, x) :: r => nvL (cellsOf (x.ev st)) && nvP st r
@[push_cast] theorem nvP_nil (st : St) : nvP st [] = true := rfl
@[push_cast] theorem nvP_cons (st : St) (j : Nat) (x : Opd) (r : List (Nat × Opd)) : nvP st ((j, x) :: r) = (nvL (cellsOf (x.ev st)) && nvP st r) := rfl
theorem nvP_eq (st : St) (parts : List (Nat × Opd)) : (∀ p ∈ parts, viewIds (cellsOf (p.2.ev st)) = []) ↔ nvP st parts = true := by
  induction parts with
  | nil => simp [nvP]
  | cons p r ih =>
    obtain ⟨j, x⟩ := p
    simp only [nvL_eq] at ih
    simp only [List.forall_mem_cons, ih, nvP, Bool.and_eq_true, nvL_eq]
def appS (t : List Nat) : PV → Bool
  | .view id _ _ => inL t id
  | _ => true
@[push_cast] theorem appS_view (t : List Nat) (id lo n : Nat) : appS t (.view id lo n) = inL t id := rfl
@[push_cast] theorem appS_nil (t : List Nat) : appS t .nil = true := rfl
section
variable (P : Env) (t u : List Nat) (d : Option Nat) (r : List DO) (st : St) (K : St → Prop)
@[congr] theorem dsK_congr {P : Env} {l : List DO} {st st' : St} {K : St → Prop} (h : st = st') : dsK P l st K = dsK P l st' K := by rw [h]
@[push_cast] theorem a_drw (keep : List Nat) (ops : List DO) (Q : Exit → St → Prop) : awp P (.drw keep ops) Q st = dsK P ops (st.keepS keep) (Q .normal) := rfl
@[push_cast] theorem d_nil : dsK P [] st K = K st := rfl
@[push_cast] theorem d_plain (o : AO) : dsK P (⟨o, t, u, false⟩ :: r) st K = opsK P [o] st (fun st' => dsK P r st' K) := by
  simp only [dsK, dopG, Bool.false_eq_true, if_false, opsK]
def stepD (P : Env) (t u : List Nat) (o : AO) (r : List DO) (st : St) (K : St → Prop) : Prop := opsK P [o] st (fun st' => postD t u o.d st' ∧ dsK P r st' K)
@[push_cast] theorem stepD_eq (o : AO) : stepD P t u o r st K = opsK P [o] st (fun st' => postD t u o.d st' ∧ dsK P r st' K) := rfl
theorem d_step (op : AOp) (hc : isCal op = false) : dsK P (⟨⟨d, none, op⟩, t, u, true⟩ :: r) st K = (preD t u d (srcS op) st ∧ sideOK st t u op ∧ stepD P t u ⟨d, none, op⟩ r st K) := by
  have e1 : preOK ⟨⟨d, none, op⟩, t, u, true⟩ st = preD t u d (srcS op) st := by simp only [preOK, preD, boxA_eq]
  have e2 : dopK P ⟨⟨d, none, op⟩, t, u, true⟩ st (fun st' => dsK P r st' K) = (sideOK st t u op ∧ stepD P t u ⟨d, none, op⟩ r st K) := by
    unfold dopK stepD
    cases op <;> first | (cases hc; done) | (simp only [opsK, grdK, postOK, postD, boxA_eq])
  simp only [dsK, dopG, if_true, grdK, e1, e2]
variable (x y z : Opd)
@[push_cast] theorem d_mv : dsK P (⟨⟨d, none, .mv x⟩, t, u, true⟩ :: r) st K = (preD t u d none st ∧ stepD P t u ⟨d, none, .mv x⟩ r st K) := by rw [d_step _ _ _ _ _ _ _ _ rfl]; simp [sideOK, srcS]
@[push_cast] theorem d_pick : dsK P (⟨⟨d, none, .pick x y z⟩, t, u, true⟩ :: r) st K = (preD t u d none st ∧ stepD P t u ⟨d, none, .pick x y z⟩ r st K) := by rw [d_step _ _ _ _ _ _ _ _ rfl]; simp [sideOK, srcS]
@[push_cast] theorem d_bld (zero : List PV) (parts : List (Nat × Nat × Opd)) : dsK P (⟨⟨d, none, .bld zero parts⟩, t, u, true⟩ :: r) st K = (preD t u d none st ∧ stepD P t u ⟨d, none, .bld zero parts⟩ r st K) := by rw [d_step _ _ _ _ _ _ _ _ rfl]; simp [sideOK, srcS]
@[push_cast] theorem d_ld (agg : Bool) (sz : Nat) : dsK P (⟨⟨d, none, .ld agg sz x⟩, t, u, true⟩ :: r) st K = (preD t u d none st ∧ refU u (x.ev st) = false ∧ stepD P t u ⟨d, none, .ld agg sz x⟩ r st K) := by rw [d_step _ _ _ _ _ _ _ _ rfl]; simp [sideOK, srcS]
@[push_cast] theorem d_ari (op : BinOp) (nw : Bool) (k : IntKind) : dsK P (⟨⟨d, none, .ari op nw k x y⟩, t, u, true⟩ :: r) st K = (preD t u d none st ∧ stepD P t u ⟨d, none, .ari op nw k x y⟩ r st K) := by rw [d_step _ _ _ _ _ _ _ _ rfl]; simp [sideOK, srcS]
@[push_cast] theorem d_dvd (op : BinOp) (nw : Bool) (k : IntKind) : dsK P (⟨⟨d, none, .dvd op nw k x y⟩, t, u, true⟩ :: r) st K = (preD t u d none st ∧ stepD P t u ⟨d, none, .dvd op nw k x y⟩ r st K) := by rw [d_step _ _ _ _ _ _ _ _ rfl]; simp [sideOK, srcS]
@[push_cast] theorem d_bit (op : BinOp) (k : IntKind) : dsK P (⟨⟨d, none, .bit op k x y⟩, t, u, true⟩ :: r) st K = (preD t u d none st ∧ stepD P t u ⟨d, none, .bit op k x y⟩ r st K) := by rw [d_step _ _ _ _ _ _ _ _ rfl]; simp [sideOK, srcS]
@[push_cast] theorem d_shf (op : BinOp) (k : IntKind) : dsK P (⟨⟨d, none, .shf op k x y⟩, t, u, true⟩ :: r) st K = (preD t u d none st ∧ stepD P t u ⟨d, none, .shf op k x y⟩ r st K) := by rw [d_step _ _ _ _ _ _ _ _ rfl]; simp [sideOK, srcS]
@[push_cast] theorem d_cmp (op : BinOp) (k : IntKind) : dsK P (⟨⟨d, none, .cmp op k x y⟩, t, u, true⟩ :: r) st K = (preD t u d none st ∧ stepD P t u ⟨d, none, .cmp op k x y⟩ r st K) := by rw [d_step _ _ _ _ _ _ _ _ rfl]; simp [sideOK, srcS]
@[push_cast] theorem d_eqb (ng : Bool) : dsK P (⟨⟨d, none, .eqb ng x y⟩, t, u, true⟩ :: r) st K = (preD t u d none st ∧ stepD P t u ⟨d, none, .eqb ng x y⟩ r st K) := by rw [d_step _ _ _ _ _ _ _ _ rfl]; simp [sideOK, srcS]
@[push_cast] theorem d_eqa (ng : Bool) (n : Nat) : dsK P (⟨⟨d, none, .eqa ng n x y⟩, t, u, true⟩ :: r) st K = (preD t u d none st ∧ stepD P t u ⟨d, none, .eqa ng n x y⟩ r st K) := by rw [d_step _ _ _ _ _ _ _ _ rfl]; simp [sideOK, srcS]
@[push_cast] theorem d_not : dsK P (⟨⟨d, none, .not x⟩, t, u, true⟩ :: r) st K = (preD t u d none st ∧ stepD P t u ⟨d, none, .not x⟩ r st K) := by rw [d_step _ _ _ _ _ _ _ _ rfl]; simp [sideOK, srcS]
@[push_cast] theorem d_neg (k : IntKind) : dsK P (⟨⟨d, none, .neg k x⟩, t, u, true⟩ :: r) st K = (preD t u d none st ∧ stepD P t u ⟨d, none, .neg k x⟩ r st K) := by rw [d_step _ _ _ _ _ _ _ _ rfl]; simp [sideOK, srcS]
@[push_cast] theorem d_cnv (nw : Bool) (k : IntKind) : dsK P (⟨⟨d, none, .cnv nw k x⟩, t, u, true⟩ :: r) st K = (preD t u d none st ∧ stepD P t u ⟨d, none, .cnv nw k x⟩ r st K) := by rw [d_step _ _ _ _ _ _ _ _ rfl]; simp [sideOK, srcS]
@[push_cast] theorem d_len : dsK P (⟨⟨d, none, .len x⟩, t, u, true⟩ :: r) st K = (preD t u d none st ∧ stepD P t u ⟨d, none, .len x⟩ r st K) := by rw [d_step _ _ _ _ _ _ _ _ rfl]; simp [sideOK, srcS]
@[push_cast] theorem d_lenA (n : Nat) : dsK P (⟨⟨d, none, .lenA n x⟩, t, u, true⟩ :: r) st K = (preD t u d none st ∧ stepD P t u ⟨d, none, .lenA n x⟩ r st K) := by rw [d_step _ _ _ _ _ _ _ _ rfl]; simp [sideOK, srcS]
@[push_cast] theorem d_mn (mx : Bool) : dsK P (⟨⟨d, none, .mn mx x y⟩, t, u, true⟩ :: r) st K = (preD t u d none st ∧ stepD P t u ⟨d, none, .mn mx x y⟩ r st K) := by rw [d_step _ _ _ _ _ _ _ _ rfl]; simp [sideOK, srcS]
@[push_cast] theorem d_fa (off : Nat) : dsK P (⟨⟨d, none, .fa off x⟩, t, u, true⟩ :: r) st K = (preD t u d none st ∧ stepD P t u ⟨d, none, .fa off x⟩ r st K) := by rw [d_step _ _ _ _ _ _ _ _ rfl]; simp [sideOK, srcS]
@[push_cast] theorem d_fl (agg : Bool) (off sz : Nat) : dsK P (⟨⟨d, none, .fl agg off sz x⟩, t, u, true⟩ :: r) st K = (preD t u d none st ∧ stepD P t u ⟨d, none, .fl agg off sz x⟩ r st K) := by rw [d_step _ _ _ _ _ _ _ _ rfl]; simp [sideOK, srcS]
@[push_cast] theorem d_ixs (es : Nat) : dsK P (⟨⟨d, none, .ixs es x y⟩, t, u, true⟩ :: r) st K = (preD t u d none st ∧ refU u (x.ev st) = false ∧ stepD P t u ⟨d, none, .ixs es x y⟩ r st K) := by rw [d_step _ _ _ _ _ _ _ _ rfl]; simp [sideOK, srcS]
@[push_cast] theorem d_ixa (n es : Nat) : dsK P (⟨⟨d, none, .ixa n es x y⟩, t, u, true⟩ :: r) st K = (preD t u d none st ∧ stepD P t u ⟨d, none, .ixa n es x y⟩ r st K) := by rw [d_step _ _ _ _ _ _ _ _ rfl]; simp [sideOK, srcS]
@[push_cast] theorem d_ixv (agg : Bool) (n es : Nat) : dsK P (⟨⟨d, none, .ixv agg n es x y⟩, t, u, true⟩ :: r) st K = (preD t u d none st ∧ stepD P t u ⟨d, none, .ixv agg n es x y⟩ r st K) := by rw [d_step _ _ _ _ _ _ _ _ rfl]; simp [sideOK, srcS]
@[push_cast] theorem d_slc (es : Nat) (lo hi : Option Opd) : dsK P (⟨⟨d, none, .slc es x lo hi⟩, t, u, true⟩ :: r) st K = (preD t u d none st ∧ refU u (x.ev st) = false ∧ stepD P t u ⟨d, none, .slc es x lo hi⟩ r st K) := by rw [d_step _ _ _ _ _ _ _ _ rfl]; simp [sideOK, srcS]
@[push_cast] theorem d_ext (i : Nat) : dsK P (⟨⟨d, none, .ext x i⟩, t, u, true⟩ :: r) st K = (preD t u d none st ∧ stepD P t u ⟨d, none, .ext x i⟩ r st K) := by rw [d_step _ _ _ _ _ _ _ _ rfl]; simp [sideOK, srcS]
@[push_cast] theorem d_nck : dsK P (⟨⟨d, none, .nck x⟩, t, u, true⟩ :: r) st K = (preD t u d none st ∧ stepD P t u ⟨d, none, .nck x⟩ r st K) := by rw [d_step _ _ _ _ _ _ _ _ rfl]; simp [sideOK, srcS]
@[push_cast] theorem d_alc (zero : List PV) : dsK P (⟨⟨d, none, .alc zero⟩, t, u, true⟩ :: r) st K = (preD t u d none st ∧ stepD P t u ⟨d, none, .alc zero⟩ r st K) := by rw [d_step _ _ _ _ _ _ _ _ rfl]; simp [sideOK, srcS]
@[push_cast] theorem d_box : dsK P (⟨⟨d, none, .box x⟩, t, u, true⟩ :: r) st K = (preD t u d none st ∧ stepD P t u ⟨d, none, .box x⟩ r st K) := by rw [d_step _ _ _ _ _ _ _ _ rfl]; simp [sideOK, srcS]
@[push_cast] theorem d_mks (es ty by_ : Nat) (zero : List PV) : dsK P (⟨⟨d, none, .mks es ty by_ zero x y⟩, t, u, true⟩ :: r) st K = (preD t u d none st ∧ stepD P t u ⟨d, none, .mks es ty by_ zero x y⟩ r st K) := by rw [d_step _ _ _ _ _ _ _ _ rfl]; simp [sideOK, srcS]
@[push_cast] theorem d_bsl (es ty : Nat) (zero : List PV) (n : Nat) (parts : List (Nat × Opd)) : dsK P (⟨⟨d, none, .bsl es ty zero n parts⟩, t, u, true⟩ :: r) st K = (preD t u d none st ∧ nvP st parts = true ∧ stepD P t u ⟨d, none, .bsl es ty zero n parts⟩ r st K) := by rw [d_step _ _ _ _ _ _ _ _ rfl]; simp only [sideOK, srcS, nvP_eq]
@[push_cast] theorem d_sto (sz : Nat) : dsK P (⟨⟨d, none, .sto sz x y⟩, t, u, true⟩ :: r) st K = (preD t u d none st ∧ (nvL (cellsOf (y.ev st)) = true ∧ stoT u (x.ev st) = true) ∧ stepD P t u ⟨d, none, .sto sz x y⟩ r st K) := by rw [d_step _ _ _ _ _ _ _ _ rfl]; simp only [sideOK, srcS, nvL_eq]
def srcT : Opd → Option Nat
  | .t s => some s
  | .c _ => none
@[push_cast] theorem srcT_t (s : Nat) : srcT (.t s) = some s := rfl
@[push_cast] theorem srcT_c (p : PV) : srcT (.c p) = none := rfl
@[push_cast] theorem d_app (es ty by_ : Nat) : dsK P (⟨⟨d, none, .app es ty by_ x y⟩, t, u, true⟩ :: r) st K = (preD t u d (srcT x) st ∧ appS t (x.ev st) = true ∧ stepD P t u ⟨d, none, .app es ty by_ x y⟩ r st K) := by
  rw [d_step _ _ _ _ _ _ _ _ rfl]
  have h1 : srcS (.app es ty by_ x y) = srcT x := by cases x <;> rfl
  have h2 : sideOK st t u (.app es ty by_ x y) = (appS t (x.ev st) = true) := by
    simp only [sideOK]
    cases x.ev st <;> simp [appS]
  rw [h1, h2]
@[push_cast] theorem d_cpy (es : Nat) : dsK P (⟨⟨d, none, .cpy es x y⟩, t, u, true⟩ :: r) st K = (preD t u d none st ∧ stepD P t u ⟨d, none, .cpy es x y⟩ r st K) := by rw [d_step _ _ _ _ _ _ _ _ rfl]; simp [sideOK, srcS]
def calDK (P : Env) (u : List Nat) (d : Option Nat) (f : Nat) (args : List PV) (r : List DO) (st : St) (K : St → Prop) : Prop :=
  ∃ post, FnOK P.p f args post ∧ (∃ v, post v) ∧ ∀ v, post v → refU u v = false ∧ dsK P r (st.put d v) K
@[congr] theorem calDK_congr {P : Env} {u : List Nat} {d : Option Nat} {f : Nat} {args args' : List PV} {r : List DO} {st st' : St} {K : St → Prop} (h1 : args = args') (h2 : st = st') : calDK P u d f args r st K = calDK P u d f args' r st' K := by rw [h1, h2]
@[push_cast] theorem d_cal (f : Nat) (args : List Opd) : dsK P (⟨⟨d, none, .cal f args⟩, t, u, true⟩ :: r) st K = (preD t u d none st ∧ calDK P u d f (argsV st args) r st K) := by
  simp only [dsK, dopG, if_true, grdK, dopK, calD, calDK, argsV_eq, preOK, preD, srcS, boxA_eq]
end
theorem dcal_eq {P : Env} {u : List Nat} {d : Option Nat} {f : Nat} {args : List PV} {r : List DO} {st : St} {K : St → Prop} {v : PV} (hc : FnEq P.p f args v) (hu : refU u v = false) (h : dsK P r (st.put d v) K) : calDK P u d f args r st K :=
  ⟨_, hc, ⟨v, rfl⟩, fun w hw => by subst hw; exact ⟨hu, h⟩⟩
section
variable {P : Env} {t u : List Nat} {d : Option Nat} {s : Nat} {op : AOp} {r : List DO} {sl : List (Nat × PV)} {bx : List (Nat × List PV)} {ar : List (Nat × Arr)} {mm : List (Nat × Mp)} {K : St → Prop}
theorem dgrd_gen (b : Bool) {w : Bool} (h : getL sl s = .sc (.bool b)) :
    dsK P (⟨⟨d, some (s, w), op⟩, t, u, true⟩ :: r) ⟨sl, bx, ar, mm⟩ K = (preD t u d (srcS op) ⟨sl, bx, ar, mm⟩ ∧ (b = w → dopK P ⟨⟨d, some (s, w), op⟩, t, u, true⟩ ⟨sl, bx, ar, mm⟩ (fun st' => dsK P r st' K)) ∧ (b ≠ w → dsK P r ((⟨sl, bx, ar, mm⟩ : St).put d (.tup [])) K)) := by
  have hg : (⟨sl, bx, ar, mm⟩ : St).get s = .sc (.bool b) := by rw [get_mk]; exact h
  have e1 : preOK ⟨⟨d, some (s, w), op⟩, t, u, true⟩ ⟨sl, bx, ar, mm⟩ = preD t u d (srcS op) ⟨sl, bx, ar, mm⟩ := by simp only [preOK, preD, boxA_eq]
  simp only [dsK, dopG, if_true, e1, grdK, hg]
theorem dopK_grd (w : Bool) (st : St) (K : St → Prop) : dopK P ⟨⟨d, some (s, w), op⟩, t, u, true⟩ st K = dopK P ⟨⟨d, none, op⟩, t, u, true⟩ st K := by
  unfold dopK
  cases op <;> rfl
theorem dsK_none (st : St) : dsK P (⟨⟨d, none, op⟩, t, u, true⟩ :: r) st K = (preD t u d (srcS op) st ∧ dopK P ⟨⟨d, none, op⟩, t, u, true⟩ st (fun st' => dsK P r st' K)) := by
  have e1 : preOK ⟨⟨d, none, op⟩, t, u, true⟩ st = preD t u d (srcS op) st := by simp only [preOK, preD, boxA_eq]
  simp only [dsK, dopG, if_true, grdK, e1]
@[push_cast] theorem dgrd_tt (h : getL sl s = .sc (.bool true)) : dsK P (⟨⟨d, some (s, true), op⟩, t, u, true⟩ :: r) ⟨sl, bx, ar, mm⟩ K = dsK P (⟨⟨d, none, op⟩, t, u, true⟩ :: r) ⟨sl, bx, ar, mm⟩ K := by
  rw [dgrd_gen true h, dsK_none, dopK_grd]; simp
@[push_cast] theorem dgrd_ff (h : getL sl s = .sc (.bool false)) : dsK P (⟨⟨d, some (s, false), op⟩, t, u, true⟩ :: r) ⟨sl, bx, ar, mm⟩ K = dsK P (⟨⟨d, none, op⟩, t, u, true⟩ :: r) ⟨sl, bx, ar, mm⟩ K := by
  rw [dgrd_gen false h, dsK_none, dopK_grd]; simp
@[push_cast] theorem dgrd_tf (h : getL sl s = .sc (.bool false)) : dsK P (⟨⟨d, some (s, true), op⟩, t, u, true⟩ :: r) ⟨sl, bx, ar, mm⟩ K = (preD t u d (srcS op) ⟨sl, bx, ar, mm⟩ ∧ dsK P r ((⟨sl, bx, ar, mm⟩ : St).put d (.tup [])) K) := by
  rw [dgrd_gen false h]; simp
@[push_cast] theorem dgrd_ft (h : getL sl s = .sc (.bool true)) : dsK P (⟨⟨d, some (s, false), op⟩, t, u, true⟩ :: r) ⟨sl, bx, ar, mm⟩ K = (preD t u d (srcS op) ⟨sl, bx, ar, mm⟩ ∧ dsK P r ((⟨sl, bx, ar, mm⟩ : St).put d (.tup [])) K) := by
  rw [dgrd_gen true h]; simp
@[push_cast] theorem dgrd_u {w : Bool} (h : getL sl s = .tup []) : dsK P (⟨⟨d, some (s, w), op⟩, t, u, true⟩ :: r) ⟨sl, bx, ar, mm⟩ K = (preD t u d (srcS op) ⟨sl, bx, ar, mm⟩ ∧ dsK P r ((⟨sl, bx, ar, mm⟩ : St).put d (.tup [])) K) := by
  have hg : (⟨sl, bx, ar, mm⟩ : St).get s = .tup [] := by rw [get_mk]; exact h
  have e1 : preOK ⟨⟨d, some (s, w), op⟩, t, u, true⟩ ⟨sl, bx, ar, mm⟩ = preD t u d (srcS op) ⟨sl, bx, ar, mm⟩ := by simp only [preOK, preD, boxA_eq]
  simp only [dsK, dopG, if_true, e1, grdK, hg]
theorem dgrd_of {want : Bool} (b : Bool) (h : getL sl s = .sc (.bool b)) (h1 : b = want → dsK P (⟨⟨d, none, op⟩, t, u, true⟩ :: r) ⟨rp sl s (.sc (.bool want)), bx, ar, mm⟩ K)
    (h2 : b = !want → preD t u d (srcS op) ⟨rp sl s (.sc (.bool !want)), bx, ar, mm⟩ ∧ dsK P r ((⟨rp sl s (.sc (.bool !want)), bx, ar, mm⟩ : St).put d (.tup [])) K) : dsK P (⟨⟨d, some (s, want), op⟩, t, u, true⟩ :: r) ⟨sl, bx, ar, mm⟩ K := by
  have hup := fun c (hc : getL sl s = c) => rp_same sl s c hc
  rw [dgrd_gen b h]
  by_cases e : b = want
  · have := h1 e
    subst e
    rw [hup _ h, dsK_none] at this
    exact ⟨this.1, fun _ => by rw [dopK_grd]; exact this.2, fun h => absurd rfl h⟩
  · have e' : b = !want := by cases b <;> cases want <;> simp_all
    have := h2 e'
    rw [← e', hup _ h] at this
    exact ⟨this.1, fun h => absurd h e, fun _ => this.2⟩
end
section
variable (P : Env) (Q : Exit → St → Prop) (st : St)
@[push_cast] theorem a_frz (ts : List Nat) (c : AC) : awp P (.frz ts c) Q st = awp P c Q (frzSl st ts) := rfl
@[push_cast] theorem frzSl_nil : frzSl st [] = st := rfl
@[push_cast] theorem frzSl_cons (t : Nat) (r : List Nat) : frzSl st (t :: r) = frzSl (st.frzs (cellsOf (st.get t))) r := rfl
@[push_cast] theorem a_cut (ks : List Nat) (c : AC) : awp P (.cut ks c) Q st = awp P c Q (st.keepS ks) := rfl
end
@[push_cast] theorem sub_self (c : PV) : Sub c c ↔ True := ⟨fun _ => trivial, fun _ => .refl c⟩
@[push_cast] theorem sub_bot (c : PV) : Sub c .bot ↔ True := ⟨fun _ => trivial, fun _ => .bot c⟩
@[push_cast] theorem subL_nil : SubL [] [] ↔ True := Iff.rfl
@[push_cast] theorem subL_cons (c d : PV) (cs ds : List PV) : SubL (c :: cs) (d :: ds) ↔ (Sub c d ∧ SubL cs ds) := Iff.rfl
@[push_cast] theorem subL_self (cs : List PV) : SubL cs cs ↔ True := ⟨fun _ => trivial, fun _ => SubL.rfl' cs⟩
theorem subL_of : ∀ {cs ds : List PV}, cs.length = ds.length → (∀ (j : Nat) (c d : PV), cs[j]? = some c → ds[j]? = some d → Sub c d) → SubL cs ds
  | [], [], _, _ => trivial
  | c :: cs, d :: ds, hl, h => ⟨h 0 c d rfl rfl, subL_of (by simpa using hl) fun j c' d' h1 h2 => h (j + 1) c' d' (by simpa using h1) (by simpa using h2)⟩
@[push_cast] theorem sub_agg (cs ds : List PV) : Sub (.agg cs) (.agg ds) ↔ SubL cs ds :=
  ⟨fun h => by cases h with | refl => exact SubL.rfl' _ | agg _ _ h1 h2 => exact subL_of h1 h2, Sub.aggL⟩
@[push_cast] theorem sub_tup (cs ds : List PV) : Sub (.tup cs) (.tup ds) ↔ SubL cs ds :=
  ⟨fun h => by cases h with | refl => exact SubL.rfl' _ | tup _ _ h1 h2 => exact subL_of h1 h2, Sub.tupL⟩
@[push_cast] theorem sub_slf (p : Bool) (es : Nat) (xs : List (List PV)) : Sub (.sl p es xs) (.sl false es xs) ↔ True := ⟨fun _ => trivial, fun _ => Sub.slp p es xs false (fun h => by cases h)⟩
@[push_cast] theorem sub_slt (q : Bool) (es : Nat) (xs : List (List PV)) : Sub (.sl true es xs) (.sl q es xs) ↔ True := ⟨fun _ => trivial, fun _ => Sub.slp true es xs q (fun _ => rfl)⟩
@[push_cast] theorem sub_nilsl (p : Bool) (es : Nat) (xs : List (List PV)) : Sub .nil (.sl p es xs) ↔ xs = [] := ⟨fun h => by cases h; rfl, fun h => by subst h; exact .nil p es⟩
@[push_cast] theorem sub_sc (a b : Value) : Sub (.sc a) (.sc b) ↔ a = b := ⟨fun h => by cases h; rfl, fun h => by subst h; exact .refl _⟩
@[push_cast] theorem rows_eq_nil {α : Type} (f : α → List PV) (l : List α) : rows f l = [] ↔ l = [] := by simp [rows]
@[push_cast] theorem wk_mk (s s' : List (Nat × PV)) (b b' : List (Nat × List PV)) (a a' : List (Nat × Arr)) (m m' : List (Nat × Mp)) : Wk ⟨s, b, a, m⟩ ⟨s', b', a', m'⟩ ↔ (WkS s s' ∧ WkB b b' ∧ WkA a a' ∧ m' = m) := Iff.rfl
@[push_cast] theorem wkS_nil : WkS [] [] ↔ True := Iff.rfl
@[push_cast] theorem wkS_cons (i j : Nat) (c d : PV) (s t : List (Nat × PV)) : WkS ((i, c) :: s) ((j, d) :: t) ↔ (i = j ∧ Sub c d ∧ WkS s t) := Iff.rfl
@[push_cast] theorem wkB_nil : WkB [] [] ↔ True := Iff.rfl
@[push_cast] theorem wkB_cons (i j : Nat) (c d : List PV) (s t : List (Nat × List PV)) : WkB ((i, c) :: s) ((j, d) :: t) ↔ (i = j ∧ SubL c d ∧ WkB s t) := Iff.rfl
@[push_cast] theorem wkA_nil : WkA [] [] ↔ True := Iff.rfl
@[push_cast] theorem wkA_cons (i j e e' y y' : Nat) (c d : List (List PV)) (s t : List (Nat × Arr)) : WkA ((i, ⟨e, y, c⟩) :: s) ((j, ⟨e', y', d⟩) :: t) ↔ ((i = j ∧ e' = e ∧ y' = y) ∧ SubR c d ∧ WkA s t) := Iff.rfl
@[push_cast] theorem subR_self (cs : List (List PV)) : SubR cs cs ↔ True := ⟨fun _ => trivial, fun _ => SubR.rfl' cs⟩
theorem cal_sub {P : Env} {d : Option Nat} {f : Nat} {args args' : List PV} {r : List AO} {st : St} {K : St → Prop} {v : PV} (hc : FnEq P.p f args' v) (hs : SubL args args') (h : opsK P r (st.put d v) K) : calK P d f args r st K := cal_eq (FnOK.sub hc hs) h
theorem dcal_sub {P : Env} {u : List Nat} {d : Option Nat} {f : Nat} {args args' : List PV} {r : List DO} {st : St} {K : St → Prop} {v : PV} (hc : FnEq P.p f args' v) (hs : SubL args args') (hu : refU u v = false) (h : dsK P r (st.put d v) K) : calDK P u d f args r st K :=
  dcal_eq (FnOK.sub hc hs) hu h
@[push_cast] theorem srcS_app_t (es ty by_ s : Nat) (y : Opd) : srcS (.app es ty by_ (.t s) y) = some s := rfl
end Go.Vc
namespace Go.Vc
open Go Go.RowKit
section
variable {P : Env} {d : Option Nat} {s : Nat} {op : AOp} {r : List AO} {sl : List (Nat × PV)} {bx : List (Nat × List PV)} {ar : List (Nat × Arr)} {mm : List (Nat × Mp)} {K : St → Prop} {p : Prop} [Decidable p]
theorem grd_dec (h : getL sl s = .sc (.bool (decide p))) (h1 : p → opsK P (⟨d, none, op⟩ :: r) ⟨rp sl s (.sc (.bool true)), bx, ar, mm⟩ K) (h2 : ¬ p → opsK P r ((⟨rp sl s (.sc (.bool false)), bx, ar, mm⟩ : St).put d (.tup [])) K) :
    opsK P (⟨d, some (s, true), op⟩ :: r) ⟨sl, bx, ar, mm⟩ K := grd_of (decide p) h (fun e => h1 (of_decide_eq_true e)) (fun e => h2 (of_decide_eq_false e))
theorem grd_decf (h : getL sl s = .sc (.bool (decide p))) (h1 : p → opsK P r ((⟨rp sl s (.sc (.bool true)), bx, ar, mm⟩ : St).put d (.tup [])) K) (h2 : ¬ p → opsK P (⟨d, none, op⟩ :: r) ⟨rp sl s (.sc (.bool false)), bx, ar, mm⟩ K) :
    opsK P (⟨d, some (s, false), op⟩ :: r) ⟨sl, bx, ar, mm⟩ K := grd_of (decide p) h (fun e => h2 (of_decide_eq_false e)) (fun e => h1 (of_decide_eq_true e))
theorem grd_b {b : Bool} (h : getL sl s = .sc (.bool b)) (h1 : b = true → opsK P (⟨d, none, op⟩ :: r) ⟨rp sl s (.sc (.bool true)), bx, ar, mm⟩ K) (h2 : b = false → opsK P r ((⟨rp sl s (.sc (.bool false)), bx, ar, mm⟩ : St).put d (.tup [])) K) :
    opsK P (⟨d, some (s, true), op⟩ :: r) ⟨sl, bx, ar, mm⟩ K := grd_of b h h1 h2
end
section
variable {P : Env} {t u : List Nat} {d : Option Nat} {s : Nat} {op : AOp} {r : List DO} {sl : List (Nat × PV)} {bx : List (Nat × List PV)} {ar : List (Nat × Arr)} {mm : List (Nat × Mp)} {K : St → Prop} {p : Prop} [Decidable p]
theorem dgrd_dec (h : getL sl s = .sc (.bool (decide p))) (h1 : p → dsK P (⟨⟨d, none, op⟩, t, u, true⟩ :: r) ⟨rp sl s (.sc (.bool true)), bx, ar, mm⟩ K)
    (h2 : ¬ p → preD t u d (srcS op) ⟨rp sl s (.sc (.bool false)), bx, ar, mm⟩ ∧ dsK P r ((⟨rp sl s (.sc (.bool false)), bx, ar, mm⟩ : St).put d (.tup [])) K) : dsK P (⟨⟨d, some (s, true), op⟩, t, u, true⟩ :: r) ⟨sl, bx, ar, mm⟩ K :=
  dgrd_of (decide p) h (fun e => h1 (of_decide_eq_true e)) (fun e => h2 (of_decide_eq_false e))
theorem dgrd_decf (h : getL sl s = .sc (.bool (decide p))) (h1 : p → preD t u d (srcS op) ⟨rp sl s (.sc (.bool true)), bx, ar, mm⟩ ∧ dsK P r ((⟨rp sl s (.sc (.bool true)), bx, ar, mm⟩ : St).put d (.tup [])) K)
    (h2 : ¬ p → dsK P (⟨⟨d, none, op⟩, t, u, true⟩ :: r) ⟨rp sl s (.sc (.bool false)), bx, ar, mm⟩ K) : dsK P (⟨⟨d, some (s, false), op⟩, t, u, true⟩ :: r) ⟨sl, bx, ar, mm⟩ K :=
  dgrd_of (decide p) h (fun e => h2 (of_decide_eq_false e)) (fun e => h1 (of_decide_eq_true e))
end
theorem cut_of {P : Env} {ops : List AO} {st : St} {ks : List Nat} {c : AC} {Q : Exit → St → Prop} (st1 : St) (h1 : opsK P ops st (fun st' => st'.keepS ks = st1)) (h2 : awp P c Q st1) : opsK P ops st (fun st' => awp P (.cut ks c) Q st') := by
  have mono : ∀ (l : List AO) (st : St) (K K' : St → Prop), (∀ s, K s → K' s) → opsK P l st K → opsK P l st K' := by
    intro l
    induction l with
    | nil => exact fun st K K' h hk => h st hk
    | cons o r ih => exact fun st K K' h hk => grdK_mono (opK_mono fun s hs => ih s K K' h hs) (ih _ K K' h) hk
  exact mono ops st _ _ (fun s hs => by show awp P c Q (s.keepS ks); rw [hs]; exact h2) h1
theorem dcut_of {P : Env} {ops : List DO} {st : St} {ks : List Nat} {c : AC} {Q : Exit → St → Prop} (st1 : St) (h1 : dsK P ops st (fun st' => st'.keepS ks = st1)) (h2 : awp P c Q st1) : dsK P ops st (fun st' => awp P (.cut ks c) Q st') := by
  have dop : ∀ (x : DO) (st : St) (K K' : St → Prop), (∀ s, K s → K' s) → dopG P x st K → dopG P x st K' := by
    intro x st K K' h hk
    unfold dopG at hk ⊢
    split
    · rename_i hs
      rw [if_pos hs] at hk
      refine ⟨hk.1, grdK_mono (fun hd => ?_) (h _) hk.2⟩
      unfold dopK at hd ⊢
      split
      · rename_i hop
        rw [hop] at hd
        obtain ⟨post, a, b, c⟩ := hd
        exact ⟨post, a, b, fun r hr => ⟨(c r hr).1, h _ (c r hr).2⟩⟩
      · rename_i hop
        have hd : sideOK st x.t x.u x.o.op ∧ opK P x.o st (fun st' => postOK x st' ∧ K st') := by
          split at hd
          · rename_i hop2; exact absurd hop2 (hop _ _)
          · exact hd
        exact ⟨hd.1, opK_mono (fun s hs => ⟨hs.1, h s hs.2⟩) hd.2⟩
    · rename_i hs
      rw [if_neg hs] at hk
      exact grdK_mono (opK_mono h) (h _) hk
  have mono : ∀ (l : List DO) (st : St) (K K' : St → Prop), (∀ s, K s → K' s) → dsK P l st K → dsK P l st K' := by
    intro l
    induction l with
    | nil => exact fun st K K' h hk => h st hk
    | cons o r ih => exact fun st K K' h hk => dop o st _ _ (fun s hs => ih s K K' h hs) hk
  exact mono ops st _ _ (fun s hs => by show awp P c Q (s.keepS ks); rw [hs]; exact h2) h1
end Go.Vc
namespace Go.Vc
open Go Go.RowKit
inductive Ty where
  | b
  | i (k : IntKind)
  | sl (es : Nat) (ts : List Ty)
def flatOk (P : Program) : Nat → TypeId → List Ty → Bool
  | 0, _, _ => false
  | n + 1, t, ts => match P.underlying t with
    | some .bool => (match ts with | [.b] => true | _ => false)
    | some (.int k) => (match ts with | [.i k'] => k == k' | _ => false)
    | some (.slice e) => (match ts with | [.sl es us] => us.length == es && P.cellsOf e == es && decide (0 < es) && flatOk P n e us | _ => false)
    | some (.struct fs) => fs.toList.all (fun f => flatOk P n f.type ((ts.drop f.offset).take (P.cellsOf f.type))) && ts.length == P.cellsOf t &&
        (List.range ts.length).all fun j => fs.toList.any fun f => decide (f.offset ≤ j) && decide (j < f.offset + P.cellsOf f.type)
    | some (.array m e) => (List.range m).all (fun i => flatOk P n e ((ts.drop (i * P.cellsOf e)).take (P.cellsOf e))) && ts.length == P.cellsOf t &&
        (List.range ts.length).all fun j => (List.range m).any fun i => decide (i * P.cellsOf e ≤ j) && decide (j < i * P.cellsOf e + P.cellsOf e)
    | _ => false
inductive CellV : Ty → PV → Prop
  | b (x) : CellV .b (.sc (.bool x))
  | i (k n) : k.min ≤ n → n ≤ k.max → CellV (.i k) (.sc (.int k n))
  | sl (es ts) (rows : List (List PV)) : rows.length ≤ maxLen → (∀ r ∈ rows, r.length = ts.length) → (∀ r ∈ rows, ∀ (j : Nat) (t : Ty) (c : PV), ts[j]? = some t → r[j]? = some c → CellV t c) → CellV (.sl es ts) (.sl true es rows)
theorem mapM_at {α β : Type} {f : α → Option β} : ∀ {l : List α} {r : List β}, l.mapM f = some r → ∀ x ∈ l, ∃ y, f x = some y
  | [], _, _, x, hx => by cases hx
  | a :: l, r, h, x, hx => by
    rw [List.mapM_cons] at h
    cases ha : f a with
    | none => rw [ha] at h; cases h
    | some y =>
      rw [ha] at h
      cases hl : l.mapM f with
      | none => rw [hl] at h; cases h
      | some ys =>
        rcases List.mem_cons.1 hx with rfl | hx
        · exact ⟨y, ha⟩
        · exact mapM_at hl x hx
theorem exists_list {α : Type} {Q : Nat → α → Prop} : ∀ n : Nat, (∀ j, j < n → ∃ c, Q j c) → ∃ l : List α, l.length = n ∧ ∀ j c, l[j]? = some c → Q j c
  | 0, _ => ⟨[], rfl, fun j c h => by simp at h⟩
  | n + 1, h => by
    obtain ⟨l, h1, h2⟩ := exists_list n fun j hj => h j (by omega)
    obtain ⟨c, hc⟩ := h n (by omega)
    refine ⟨l ++ [c], by simp [h1], fun j c' hj => ?_⟩
    by_cases hjn : j < l.length
    · rw [List.getElem?_append_left hjn] at hj; exact h2 j c' hj
    · rw [List.getElem?_append_right (by omega)] at hj
      have : j - l.length = 0 := by
        have := (List.getElem?_eq_some_iff.1 hj).1
        simp at this; omega
      rw [this] at hj
      simp at hj
      subst hj
      have : j = n := by omega
      rw [this]; exact hc
theorem addr_add_add (a : Addr) (m n : Nat) : (a.add m).add n = a.add (m + n) := by
  unfold Addr.add
  by_cases hm : m = 0
  · subst hm; simp
  · by_cases hn : n = 0
    · subst hn; simp
    · simp [hm, hn, show m + n ≠ 0 by omega, Nat.add_assoc]
def ZW (w : World) : Zone := fun _ b => b < w.heap.size
section
variable {H : Type} {enc : TypeId × Value → H} {P : Program} {w : World} {sp : Nat → Bool} {hd : Bool}
theorem trod_tr : ∀ (n fuel : Nat) (t : TypeId) (ts : List Ty) (cs : List Value) (x : DataW H × List MemPlace), flatOk P n t ts = true → DataW.trod enc P w 0 sp hd fuel t cs = some x →
    cs.length = ts.length ∧ ∀ (j : Nat) (t' : Ty), ts[j]? = some t' → ∃ (c : PV) (v : Value), cs[j]? = some v ∧ CellV t' c ∧ TR w (ZW w) c v ∧ v.oneCell' = true := by
  intro n
  induction n with
  | zero => intro fuel t ts cs x h; simp [flatOk] at h
  | succ n ih =>
    intro fuel t ts cs x h hx
    cases fuel with
    | zero => simp [DataW.trod] at hx
    | succ fuel =>
      unfold flatOk at h
      unfold DataW.trod at hx
      split at h
      · rename_i hu
        rw [hu] at hx
        split at h
        · split at hx <;> first | (cases hx; done) | skip
          all_goals first
            | (rename_i h1; cases h1; done)
            | skip
          rename_i b _
          refine ⟨rfl, fun j t' hj => ?_⟩
          cases j with
          | zero => simp at hj; subst hj; exact ⟨.sc (.bool b), .bool b, rfl, .b b, .sc _ rfl, rfl⟩
          | succ j => simp at hj
        · cases h
      · rename_i k hu
        rw [hu] at hx
        split at h
        · rename_i k'
          have hk : k = k' := by cases k <;> cases k' <;> first | rfl | (cases h; done)
          subst hk
          split at hx <;> first | (cases hx; done) | skip
          all_goals first
            | (rename_i h1; cases h1; done)
            | skip
          rename_i k2 k1 m h1
          cases h1
          split at hx
          · rename_i hh
            obtain ⟨rfl, hw⟩ := hh
            simp only [Lit.wf, Bool.and_eq_true, decide_eq_true_eq] at hw
            refine ⟨rfl, fun j t' hj => ?_⟩
            cases j with
            | zero => simp at hj; subst hj; exact ⟨.sc (.int _ m), .int _ m, rfl, .i _ m hw.1 hw.2, .sc _ rfl, rfl⟩
            | succ j => simp at hj
          · cases hx
        · cases h
      · rename_i e hu
        rw [hu] at hx
        split at h
        · rename_i es us
          simp only [Bool.and_eq_true, beq_iff_eq, decide_eq_true_eq] at h
          obtain ⟨⟨⟨h1, h2⟩, h3⟩, h4⟩ := h
          rcases cs with _ | ⟨v, _ | ⟨v2, r⟩⟩
          · cases hx
          · have nilCase : ∀ (p : Option Addr) (cap : Nat), cap ≤ maxLen → ([Value.slice p 0 cap] : List Value).length = [Ty.sl es us].length ∧ ∀ (j : Nat) (t' : Ty), [Ty.sl es us][j]? = some t' → ∃ (c : PV) (v' : Value), [Value.slice p 0 cap][j]? = some v' ∧ CellV t' c ∧ TR w (ZW w) c v' ∧ v'.oneCell' = true := fun p cap hcap => by
              refine ⟨rfl, fun j t' hj => ?_⟩
              cases j with
              | zero =>
                simp at hj; subst hj
                exact ⟨.sl true es [], _, rfl, .sl es us [] (Nat.zero_le _) (fun r hr => by cases hr) (fun r hr => by cases hr), .sl0 true es p cap hcap, rfl⟩
              | succ j => simp at hj
            cases v <;> first | (cases hx; done) | skip
            rename_i p len cap
            cases p with
            | none =>
              cases len with
              | zero => cases cap with
                | zero => exact nilCase none 0 (Nat.zero_le _)
                | succ c => cases hx
              | succ l => cases hx
            | some ad =>
              simp only at hx
              split at hx
              · rename_i hb
                obtain ⟨_, hlc, hcm⟩ := hb
                cases hm : (List.range len).mapM (fun i => (w.cells? 0 (ad.add (i * P.cellsOf e)) (P.cellsOf e)).bind (DataW.trod enc P w 0 sp hd fuel e)) with
                | none => rw [hm] at hx; cases hx
                | some elems =>
                  clear hx
                  by_cases hl0 : len = 0
                  · subst hl0; exact nilCase (some ad) cap hcm
                  have row : ∀ i, i < len → ∃ rr : List PV, rr.length = es ∧ ∀ (j : Nat) (c : PV), rr[j]? = some c → ∃ v', w.cell? (ad.add (i * es + j)) = some v' ∧ (∀ t', us[j]? = some t' → CellV t' c) ∧ TR w (ZW w) c v' ∧ v'.oneCell' = true := fun i hi => by
                    obtain ⟨y, hy⟩ := mapM_at hm i (List.mem_range.2 hi)
                    cases hc : w.cells? 0 (ad.add (i * P.cellsOf e)) (P.cellsOf e) with
                    | none => rw [hc] at hy; cases hy
                    | some cs' =>
                      rw [hc] at hy
                      have hy : DataW.trod enc P w 0 sp hd fuel e cs' = some y := hy
                      obtain ⟨g1, g2⟩ := ih fuel e us cs' y h4 hy
                      rw [h2] at hc
                      obtain ⟨_, hlen, hat⟩ := World.cells?_some hc
                      refine exists_list (Q := fun j c => ∃ v', w.cell? (ad.add (i * es + j)) = some v' ∧ (∀ t', us[j]? = some t' → CellV t' c) ∧ TR w (ZW w) c v' ∧ v'.oneCell' = true) es fun j hj => ?_
                      obtain ⟨c, v', q1, q2, q3, q4⟩ := g2 j us[j] (List.getElem?_eq_getElem (by omega))
                      refine ⟨c, v', ?_, fun t' ht' => ?_, q3, q4⟩
                      · rw [← addr_add_add, hat j hj]; exact q1
                      · rw [List.getElem?_eq_getElem (by omega)] at ht'; cases ht'; exact q2
                  obtain ⟨rows, hr1, hr2⟩ := exists_list (Q := fun i (rr : List PV) => rr.length = es ∧ ∀ (j : Nat) (c : PV), rr[j]? = some c → ∃ v', w.cell? (ad.add (i * es + j)) = some v' ∧ (∀ t', us[j]? = some t' → CellV t' c) ∧ TR w (ZW w) c v' ∧ v'.oneCell' = true) len row
                  have hrow : ∀ r ∈ rows, ∃ i, i < len ∧ rows[i]? = some r := fun r hr => by
                    obtain ⟨i, hi, rfl⟩ := List.getElem_of_mem hr
                    exact ⟨i, by omega, List.getElem?_eq_getElem hi⟩
                  have hspot : ad.spot = none ∧ ad.block < w.heap.size := by
                    obtain ⟨r0, hr0⟩ : ∃ r0, rows[0]? = some r0 := ⟨rows[0], List.getElem?_eq_getElem (by omega)⟩
                    obtain ⟨e1, e2⟩ := hr2 0 r0 hr0
                    obtain ⟨v', e3, _⟩ := e2 0 r0[0] (List.getElem?_eq_getElem (by omega))
                    simp only [Nat.zero_mul, Nat.zero_add, Addr.add, if_true] at e3
                    unfold World.cell? at e3
                    split at e3
                    · rename_i hb
                      split at e3
                      · cases e3
                      · rename_i hs
                        refine ⟨by cases hsp : ad.spot <;> simp_all, ?_⟩
                        exact (Array.getElem?_eq_some_iff.1 hb).1
                    · cases e3
                  have haddr : ∀ k, ad.add k = ⟨ad.block, ad.off + k, none⟩ := fun k => by
                    obtain ⟨b0, o0, s0⟩ := ad
                    have : s0 = none := hspot.1
                    subst this
                    unfold Addr.add
                    split
                    · rename_i hk; subst hk; rfl
                    · rfl
                  refine ⟨rfl, fun j t' hj => ?_⟩
                  cases j with
                  | succ j => simp at hj
                  | zero =>
                    simp at hj; subst hj
                    refine ⟨.sl true es rows, _, rfl, .sl es us rows (by omega) (fun r hr => ?_) (fun r hr j t'' c ht hc => ?_), ?_, rfl⟩
                    · obtain ⟨i, hi, hri⟩ := hrow r hr; rw [(hr2 i r hri).1, h1]
                    · obtain ⟨i, hi, hri⟩ := hrow r hr
                      obtain ⟨v', _, q, _⟩ := (hr2 i r hri).2 j c hc
                      exact q t'' ht
                    · have had : ad = ⟨ad.block, ad.off, none⟩ := by
                        obtain ⟨b0, o0, s0⟩ := ad
                        have : s0 = none := hspot.1
                        subst this; rfl
                      rw [had, ← hr1]
                      refine TR.sl true es rows ad.block ad.off cap (fun i j => (w.cell? (ad.add (i * es + j))).getD undef) h3 hspot.2 (by omega) (by omega) hcm (fun r hr => ?_) (fun i j hi hj => ?_) (fun i j r c hi hj => ?_)
                      · obtain ⟨i, hi, hri⟩ := hrow r hr; exact (hr2 i r hri).1
                      · have hri : rows[i]? = some rows[i] := List.getElem?_eq_getElem hi
                        obtain ⟨e1, e2⟩ := hr2 i _ hri
                        obtain ⟨v', e3, _, _, e4⟩ := e2 j rows[i][j] (List.getElem?_eq_getElem (by omega))
                        rw [e3, ← haddr, e3]
                        exact ⟨rfl, e4⟩
                      · obtain ⟨v', e3, _, e5, _⟩ := (hr2 i r hi).2 j c hj
                        rw [e3]; exact e5
              · cases hx
          · exfalso
            split at hx <;> first | (cases hx; done) | (rename_i h5 h6; cases h5; done) | (rename_i h5 h6; cases h6; done) | simp_all
        · cases h
      · rename_i fs hu
        rw [hu] at hx
        simp only [Bool.and_eq_true, beq_iff_eq, List.all_eq_true, List.any_eq_true, decide_eq_true_eq] at h
        obtain ⟨⟨h1, h2⟩, h3⟩ := h
        have hx : (if cs.length = P.cellsOf t then ((fs.toList.mapM fun f => DataW.trod enc P w 0 sp hd fuel f.type ((cs.drop f.offset).take (P.cellsOf f.type))).map fun xs => (DataW.agg (xs.map (·.1)), xs.flatMap (·.2))) else none) = some x := hx
        split at hx
        · rename_i hl
          refine ⟨by omega, fun j t' hj => ?_⟩
          have hjl := (List.getElem?_eq_some_iff.1 hj).1
          obtain ⟨f, hf, hf1, hf2⟩ := h3 j (List.mem_range.2 hjl)
          cases hm : fs.toList.mapM (fun f => DataW.trod enc P w 0 sp hd fuel f.type ((cs.drop f.offset).take (P.cellsOf f.type))) with
          | none => rw [hm] at hx; cases hx
          | some ys =>
            obtain ⟨y, hy⟩ := mapM_at hm f hf
            obtain ⟨g1, g2⟩ := ih fuel f.type _ _ y (h1 f hf) hy
            have hj' : ((ts.drop f.offset).take (P.cellsOf f.type))[j - f.offset]? = some t' := by
              rw [List.getElem?_take, if_pos (by omega), List.getElem?_drop, show f.offset + (j - f.offset) = j from by omega]; exact hj
            obtain ⟨c, v, q1, q2⟩ := g2 _ t' hj'
            refine ⟨c, v, ?_, q2⟩
            rw [List.getElem?_take, if_pos (by omega), List.getElem?_drop, show f.offset + (j - f.offset) = j from by omega] at q1
            exact q1
        · cases hx
      · rename_i m e hu
        rw [hu] at hx
        simp only [Bool.and_eq_true, beq_iff_eq, List.all_eq_true, List.any_eq_true, decide_eq_true_eq] at h
        obtain ⟨⟨h1, h2⟩, h3⟩ := h
        have hx : (if cs.length = P.cellsOf t then (((List.range m).mapM fun i => DataW.trod enc P w 0 sp hd fuel e ((cs.drop (i * P.cellsOf e)).take (P.cellsOf e))).map fun xs => (DataW.agg (xs.map (·.1)), xs.flatMap (·.2))) else none) = some x := hx
        split at hx
        · rename_i hl
          refine ⟨by omega, fun j t' hj => ?_⟩
          have hjl := (List.getElem?_eq_some_iff.1 hj).1
          obtain ⟨i, hi, hf1, hf2⟩ := h3 j (List.mem_range.2 hjl)
          cases hm : (List.range m).mapM (fun i => DataW.trod enc P w 0 sp hd fuel e ((cs.drop (i * P.cellsOf e)).take (P.cellsOf e))) with
          | none => rw [hm] at hx; cases hx
          | some ys =>
            obtain ⟨y, hy⟩ := mapM_at hm i hi
            obtain ⟨g1, g2⟩ := ih fuel e _ _ y (h1 i hi) hy
            have hj' : ((ts.drop (i * P.cellsOf e)).take (P.cellsOf e))[j - i * P.cellsOf e]? = some t' := by
              rw [List.getElem?_take, if_pos (by omega), List.getElem?_drop, show i * P.cellsOf e + (j - i * P.cellsOf e) = j from by omega]; exact hj
            obtain ⟨c, v, q1, q2⟩ := g2 _ t' hj'
            refine ⟨c, v, ?_, q2⟩
            rw [List.getElem?_take, if_pos (by omega), List.getElem?_drop, show i * P.cellsOf e + (j - i * P.cellsOf e) = j from by omega] at q1
            exact q1
        · cases hx
      · cases h
def aggT (P : Program) (t : TypeId) : Bool := match P.underlying t with | some (.struct _) | some (.array _ _) => true | _ => false
def RowV (ts : List Ty) (pc : List PV) : Prop := pc.length = ts.length ∧ ∀ (j : Nat) (t : Ty) (c : PV), ts[j]? = some t → pc[j]? = some c → CellV t c
theorem argTy {n : Nat} {t : TypeId} {ts : List Ty} {v : Value} {base : Nat} {d : DataW H} {ps : List MemPlace} (hf : flatOk P n t ts = true) (hs : aggT P t = true) (hok : Value.okWide P w .any base t v)
    (h : DataW.Trod enc P w 0 sp hd t v d ps) : ∃ pc : List PV, RowV ts pc ∧ TV w (ZW w) (.agg pc) v := by
  obtain ⟨fuel, h⟩ := h
  have hv : ∃ cs : Array Value, v = .agg cs := by
    unfold Value.okWide at hok
    unfold aggT at hs
    split at hs
    · rename_i hu; rw [hu] at hok; obtain ⟨cs, e, _⟩ := hok; exact ⟨cs, e⟩
    · rename_i hu; rw [hu] at hok; obtain ⟨cs, e, _⟩ := hok; exact ⟨cs, e⟩
    · cases hs
  obtain ⟨cs, rfl⟩ := hv
  obtain ⟨g1, g2⟩ := trod_tr n fuel t ts cs.toList (d, ps) hf h
  obtain ⟨pc, h1, h2⟩ := exists_list (Q := fun j c => ∃ v, cs.toList[j]? = some v ∧ (∀ t', ts[j]? = some t' → CellV t' c) ∧ TR w (ZW w) c v ∧ v.oneCell' = true) ts.length fun j hj => by
    obtain ⟨c, v, q1, q2, q3, q4⟩ := g2 j ts[j] (List.getElem?_eq_getElem hj)
    exact ⟨c, v, q1, fun t' ht => by rw [List.getElem?_eq_getElem hj] at ht; cases ht; exact q2, q3, q4⟩
  refine ⟨pc, ⟨h1, fun j t' c ht hc => ?_⟩, cs, rfl, by rw [h1, ← g1]; simp, fun j c hc => ?_⟩
  · obtain ⟨v, _, q, _⟩ := h2 j c hc; exact q t' ht
  · obtain ⟨v, q1, _, q3, q4⟩ := h2 j c hc
    have : cs.getD j undef = v := by
      rw [Array.getD_eq_getD_getElem?]
      have : cs[j]? = some v := by simpa using q1
      rw [this]; rfl
    rw [this]; exact ⟨q3, q4⟩
theorem zw_call {f : FuncId} {args : List PV} {vs : Array Value} (hc : FnEq P f args (.bool true)) (hn : vs.size = args.length) (h : ∀ (j : Nat) (c : PV), args[j]? = some c → TV w (ZW w) c (vs.getD j undef)) :
    Calls P f vs w fun e w' => e = .returned (.bool true) ∧ Below w.heap.size w w' := by
  refine (hc w (ZW w) (fun _ h => h) (fun _ _ h => h) vs hn h).mono ?_
  rintro e w' ⟨v, r, rfl, rfl, h1, h2⟩
  cases h1
  exact ⟨rfl, h2⟩
end
end Go.Vc
