/- VcW VcZ VcBr VcZm VcZn: lemmas for PRenumbers -/
import Derived.Test.YtbdamnfkgdbidaaPart06
import Derived.ProofKit
set_option linter.unusedSimpArgs false
set_option linter.unusedVariables false
namespace Go.Vc
open Go Go.RowKit
@[push_cast] theorem inL_nil' (i : Nat) : inL [] i = false := rfl
@[push_cast] theorem inL_cons (a : Nat) (t : List Nat) (i : Nat) : inL (a :: t) i = if a = i then true else inL t i := by
  unfold inL
  rw [memN_eq, memN_eq]; rfl
def ssIs : Option Nat → Nat → Bool
  | none, _ => false
  | some j, k => if j = k then true else false
@[push_cast] theorem ssIs_none (k : Nat) : ssIs none k = false := rfl
@[push_cast] theorem ssIs_some (j k : Nat) : ssIs (some j) k = if j = k then true else false := rfl
def noS (ss : Option Nat) (t : List Nat) : List (Nat × PV) → Bool
  | [] => true
  | (k, v) :: r => (ssIs ss k || !v.toV (inL t) (inL t)) && noS ss t r
def noB (t : List Nat) : List (Nat × List PV) → Bool
  | [] => true
  | (_, cs) :: r => !anyT (inL t) (inL t) cs && noB t r
@[push_cast] theorem noS_nil (ss : Option Nat) (t : List Nat) : noS ss t [] = true := rfl
@[push_cast] theorem noS_cons (ss : Option Nat) (t : List Nat) (k : Nat) (v : PV) (r : List (Nat × PV)) : noS ss t ((k, v) :: r) = ((ssIs ss k || !v.toV (inL t) (inL t)) && noS ss t r) := rfl
@[push_cast] theorem noB_nil (t : List Nat) : noB t [] = true := rfl
@[push_cast] theorem noB_cons (t : List Nat) (k : Nat) (cs : List PV) (r : List (Nat × List PV)) : noB t ((k, cs) :: r) = (!anyT (inL t) (inL t) cs && noB t r) := rfl
@[push_cast] theorem noX_nil (st : St) (ss : Option Nat) : noX st [] ss = true := rfl
@[push_cast] theorem noX_cons (s : List (Nat × PV)) (b : List (Nat × List PV)) (a : List (Nat × Arr)) (m : List (Nat × Mp)) (i : Nat) (t : List Nat) (ss : Option Nat) : noX ⟨s, b, a, m⟩ (i :: t) ss = (noS ss (i :: t) s && noB (i :: t) b) := by
  simp only [noX]
  congr 1
  · induction s with
    | nil => rfl
    | cons x r ih =>
      obtain ⟨k, v⟩ := x
      simp only [List.all_cons, noS, ih]
      congr 2
      cases ss with
      | none => rfl
      | some j => by_cases h : j = k <;> simp [ssIs, h]
  · induction b with
    | nil => rfl
    | cons x r ih =>
      obtain ⟨k, v⟩ := x
      simp only [anyT_eq] at ih
      simp only [List.all_cons, noB, ih, anyT_eq]
@[push_cast] theorem stoT_nil (v : PV) : stoT [] v = true := rfl
@[push_cast] theorem stoT_ptr (i : Nat) (u : List Nat) (id o : Nat) : stoT (i :: u) (.ptr id o) = inL (i :: u) id := rfl
@[push_cast] theorem stoT_eptr (i : Nat) (u : List Nat) (id j o : Nat) : stoT (i :: u) (.eptr id j o) = inL (i :: u) id := rfl
@[push_cast] theorem refU_nil (v : PV) : refU [] v = false := rfl
@[push_cast] theorem refU_cons (a : Nat) (u : List Nat) (v : PV) : refU (a :: u) v = v.toV (inL (a :: u)) (inL (a :: u)) := rfl
@[push_cast] theorem boxU_nil (o : Option (List PV)) : boxU [] o = false := by cases o <;> rfl
@[push_cast] theorem boxU_none (a : Nat) (u : List Nat) : boxU (a :: u) none = false := rfl
@[push_cast] theorem boxU_some (a : Nat) (u : List Nat) (cs : List PV) : boxU (a :: u) (some cs) = anyT (inL (a :: u)) (inL (a :: u)) cs := anyT_eq _ _ cs
@[push_cast] theorem getO_some (st : St) (i : Nat) : st.getO (some i) = st.get i := rfl
@[push_cast] theorem getO_none (st : St) : st.getO none = .bot := rfl
def boxA (u : List Nat) (b : List (Nat × List PV)) : List Nat → Bool
  | [] => true
  | i :: t => !boxU u (lk b i) && boxA u b t
@[push_cast] theorem boxA_nil (u : List Nat) (b : List (Nat × List PV)) : boxA u b [] = true := rfl
@[push_cast] theorem boxA_cons (u : List Nat) (b : List (Nat × List PV)) (i : Nat) (t : List Nat) : boxA u b (i :: t) = (!boxU u (lk b i) && boxA u b t) := rfl
theorem boxA_eq (u : List Nat) (b : List (Nat × List PV)) (t : List Nat) : t.all (fun i => !boxU u (lk b i)) = boxA u b t := by induction t <;> simp_all [boxA]
def preD (t u : List Nat) (d ss : Option Nat) (st : St) : Prop := noX st t ss = true ∧ refU u (st.getO d) = false ∧ boxA u st.b t = true
def postD (t u : List Nat) (d : Option Nat) (st : St) : Prop := refU u (st.getO d) = false ∧ boxA u st.b t = true
@[congr] theorem preD_congr {t u : List Nat} {d ss : Option Nat} {st st' : St} (h : st = st') : preD t u d ss st = preD t u d ss st' := by rw [h]
@[push_cast] theorem preD_nil (d ss : Option Nat) (st : St) : preD [] [] d ss st = True := by simp [preD, refU_nil, boxA, noX]
@[push_cast] theorem postD_nil (d : Option Nat) (st : St) : postD [] [] d st = True := by simp [postD, refU_nil, boxA]
@[push_cast] theorem preD_t (i : Nat) (t u : List Nat) (d ss : Option Nat) (s : List (Nat × PV)) (b : List (Nat × List PV)) (a : List (Nat × Arr)) (m : List (Nat × Mp)) :
    preD (i :: t) u d ss ⟨s, b, a, m⟩ = (noX ⟨s, b, a, m⟩ (i :: t) ss = true ∧ refU u (St.getO ⟨s, b, a, m⟩ d) = false ∧ boxA u b (i :: t) = true) := rfl
@[push_cast] theorem preD_u (i : Nat) (u : List Nat) (d ss : Option Nat) (s : List (Nat × PV)) (b : List (Nat × List PV)) (a : List (Nat × Arr)) (m : List (Nat × Mp)) :
    preD [] (i :: u) d ss ⟨s, b, a, m⟩ = (refU (i :: u) (St.getO ⟨s, b, a, m⟩ d) = false) := by simp [preD, boxA, noX]
@[push_cast] theorem postD_t (i : Nat) (t u : List Nat) (d : Option Nat) (s : List (Nat × PV)) (b : List (Nat × List PV)) (a : List (Nat × Arr)) (m : List (Nat × Mp)) :
    postD (i :: t) u d ⟨s, b, a, m⟩ = (refU u (St.getO ⟨s, b, a, m⟩ d) = false ∧ boxA u b (i :: t) = true) := rfl
@[push_cast] theorem postD_u (i : Nat) (u : List Nat) (d : Option Nat) (s : List (Nat × PV)) (b : List (Nat × List PV)) (a : List (Nat × Arr)) (m : List (Nat × Mp)) :
    postD [] (i :: u) d ⟨s, b, a, m⟩ = (refU (i :: u) (St.getO ⟨s, b, a, m⟩ d) = false) := by simp [postD, boxA]
def nvL : List PV → Bool
  | [] => true
  | c :: r => (viewIds [c]).isEmpty && nvL r
theorem nvL_eq (cs : List PV) : (viewIds cs = []) ↔ nvL cs = true := by
  induction cs with
  | nil => simp [viewIds, nvL]
  | cons c r ih => cases c <;> simp [viewIds, nvL, ih]
@[push_cast] theorem nvL_nil : nvL [] = true := rfl
@[push_cast] theorem nvL_sc (v : Value) (r : List PV) : nvL (.sc v :: r) = nvL r := rfl
@[push_cast] theorem nvL_nil' (r : List PV) : nvL (.nil :: r) = nvL r := rfl
@[push_cast] theorem nvL_sl (p : Bool) (es : Nat) (xs : List (List PV)) (r : List PV) : nvL (.sl p es xs :: r) = nvL r := rfl
@[push_cast] theorem nvL_iptr (p : Bool) (cs : List PV) (o : Nat) (r : List PV) : nvL (.iptr p cs o :: r) = nvL r := rfl
@[push_cast] theorem nvL_ptr (i o : Nat) (r : List PV) : nvL (.ptr i o :: r) = nvL r := rfl
@[push_cast] theorem nvL_bot (r : List PV) : nvL (.bot :: r) = nvL r := rfl
def nvP (st : St) : List (Nat × Opd) → Bool
  | [] => true
  | (_, x) :: r => nvL (cellsOf (x.ev st)) && nvP st r
@[push_cast] theorem nvP_nil (st : St) : nvP st [] = true := rfl
@[push_cast] theorem nvP_cons (st : St) (j : Nat) (x : Opd) (r : List (Nat × Opd)) : nvP st ((j, x) :: r) = (nvL (cellsOf (x.ev st)) && nvP st r) := rfl
theorem nvP_eq (st : St) (parts : List (Nat × Opd)) : (∀ p ∈ parts, viewIds (cellsOf (p.2.ev st)) = []) ↔ nvP st parts = true := by
  induction parts with
  | nil => simp [nvP]
  | cons p r ih =>
    obtain ⟨j, x⟩ := p
    simp only [nvL_eq] at ih
    simp only [List.forall_mem_cons, ih, nvP, Bool.and_eq_true, nvL_eq]
def appS (t : List Nat) : PV → Bool
  | .view id _ _ => inL t id
  | _ => true
@[push_cast] theorem appS_view (t : List Nat) (id lo n : Nat) : appS t (.view id lo n) = inL t id := rfl
@[push_cast] theorem appS_nil (t : List Nat) : appS t .nil = true := rfl
section
variable (P : Env) (t u : List Nat) (d : Option Nat) (r : List DO) (st : St) (K : St → Prop)
@[congr] theorem dsK_congr {P : Env} {l : List DO} {st st' : St} {K : St → Prop} (h : st = st') : dsK P l st K = dsK P l st' K := by rw [h]
@[push_cast] theorem a_drw (keep : List Nat) (ops : List DO) (Q : Exit → St → Prop) : awp P (.drw keep ops) Q st = dsK P ops (st.keepS keep) (Q .normal) := rfl
@[push_cast] theorem d_nil : dsK P [] st K = K st := rfl
@[push_cast] theorem d_plain (o : AO) : dsK P (⟨o, t, u, false⟩ :: r) st K = opsK P [o] st (fun st' => dsK P r st' K) := by
  simp only [dsK, dopG, Bool.false_eq_true, if_false, opsK]
def stepD (P : Env) (t u : List Nat) (o : AO) (r : List DO) (st : St) (K : St → Prop) : Prop := opsK P [o] st (fun st' => postD t u o.d st' ∧ dsK P r st' K)
@[push_cast] theorem stepD_eq (o : AO) : stepD P t u o r st K = opsK P [o] st (fun st' => postD t u o.d st' ∧ dsK P r st' K) := rfl
theorem d_step (op : AOp) (hc : isCal op = false) : dsK P (⟨⟨d, none, op⟩, t, u, true⟩ :: r) st K = (preD t u d (srcS op) st ∧ sideOK st t u op ∧ stepD P t u ⟨d, none, op⟩ r st K) := by
  have e1 : preOK ⟨⟨d, none, op⟩, t, u, true⟩ st = preD t u d (srcS op) st := by simp only [preOK, preD, boxA_eq]
  have e2 : dopK P ⟨⟨d, none, op⟩, t, u, true⟩ st (fun st' => dsK P r st' K) = (sideOK st t u op ∧ stepD P t u ⟨d, none, op⟩ r st K) := by
    unfold dopK stepD
    cases op <;> first | (cases hc; done) | (simp only [opsK, grdK, postOK, postD, boxA_eq])
  simp only [dsK, dopG, if_true, grdK, e1, e2]
variable (x y z : Opd)
@[push_cast] theorem d_mv : dsK P (⟨⟨d, none, .mv x⟩, t, u, true⟩ :: r) st K = (preD t u d none st ∧ stepD P t u ⟨d, none, .mv x⟩ r st K) := by rw [d_step _ _ _ _ _ _ _ _ rfl]; simp [sideOK, srcS]
@[push_cast] theorem d_pick : dsK P (⟨⟨d, none, .pick x y z⟩, t, u, true⟩ :: r) st K = (preD t u d none st ∧ stepD P t u ⟨d, none, .pick x y z⟩ r st K) := by rw [d_step _ _ _ _ _ _ _ _ rfl]; simp [sideOK, srcS]
@[push_cast] theorem d_bld (zero : List PV) (parts : List (Nat × Nat × Opd)) : dsK P (⟨⟨d, none, .bld zero parts⟩, t, u, true⟩ :: r) st K = (preD t u d none st ∧ stepD P t u ⟨d, none, .bld zero parts⟩ r st K) := by rw [d_step _ _ _ _ _ _ _ _ rfl]; simp [sideOK, srcS]
@[push_cast] theorem d_ld (agg : Bool) (sz : Nat) : dsK P (⟨⟨d, none, .ld agg sz x⟩, t, u, true⟩ :: r) st K = (preD t u d none st ∧ refU u (x.ev st) = false ∧ stepD P t u ⟨d, none, .ld agg sz x⟩ r st K) := by rw [d_step _ _ _ _ _ _ _ _ rfl]; simp [sideOK, srcS]
@[push_cast] theorem d_ari (op : BinOp) (nw : Bool) (k : IntKind) : dsK P (⟨⟨d, none, .ari op nw k x y⟩, t, u, true⟩ :: r) st K = (preD t u d none st ∧ stepD P t u ⟨d, none, .ari op nw k x y⟩ r st K) := by rw [d_step _ _ _ _ _ _ _ _ rfl]; simp [sideOK, srcS]
@[push_cast] theorem d_dvd (op : BinOp) (nw : Bool) (k : IntKind) : dsK P (⟨⟨d, none, .dvd op nw k x y⟩, t, u, true⟩ :: r) st K = (preD t u d none st ∧ stepD P t u ⟨d, none, .dvd op nw k x y⟩ r st K) := by rw [d_step _ _ _ _ _ _ _ _ rfl]; simp [sideOK, srcS]
@[push_cast] theorem d_bit (op : BinOp) (k : IntKind) : dsK P (⟨⟨d, none, .bit op k x y⟩, t, u, true⟩ :: r) st K = (preD t u d none st ∧ stepD P t u ⟨d, none, .bit op k x y⟩ r st K) := by rw [d_step _ _ _ _ _ _ _ _ rfl]; simp [sideOK, srcS]
@[push_cast] theorem d_shf (op : BinOp) (k : IntKind) : dsK P (⟨⟨d, none, .shf op k x y⟩, t, u, true⟩ :: r) st K = (preD t u d none st ∧ stepD P t u ⟨d, none, .shf op k x y⟩ r st K) := by rw [d_step _ _ _ _ _ _ _ _ rfl]; simp [sideOK, srcS]
@[push_cast] theorem d_cmp (op : BinOp) (k : IntKind) : dsK P (⟨⟨d, none, .cmp op k x y⟩, t, u, true⟩ :: r) st K = (preD t u d none st ∧ stepD P t u ⟨d, none, .cmp op k x y⟩ r st K) := by rw [d_step _ _ _ _ _ _ _ _ rfl]; simp [sideOK, srcS]
@[push_cast] theorem d_eqb (ng : Bool) : dsK P (⟨⟨d, none, .eqb ng x y⟩, t, u, true⟩ :: r) st K = (preD t u d none st ∧ stepD P t u ⟨d, none, .eqb ng x y⟩ r st K) := by rw [d_step _ _ _ _ _ _ _ _ rfl]; simp [sideOK, srcS]
@[push_cast] theorem d_eqa (ng : Bool) (n : Nat) : dsK P (⟨⟨d, none, .eqa ng n x y⟩, t, u, true⟩ :: r) st K = (preD t u d none st ∧ stepD P t u ⟨d, none, .eqa ng n x y⟩ r st K) := by rw [d_step _ _ _ _ _ _ _ _ rfl]; simp [sideOK, srcS]
@[push_cast] theorem d_not : dsK P (⟨⟨d, none, .not x⟩, t, u, true⟩ :: r) st K = (preD t u d none st ∧ stepD P t u ⟨d, none, .not x⟩ r st K) := by rw [d_step _ _ _ _ _ _ _ _ rfl]; simp [sideOK, srcS]
@[push_cast] theorem d_neg (k : IntKind) : dsK P (⟨⟨d, none, .neg k x⟩, t, u, true⟩ :: r) st K = (preD t u d none st ∧ stepD P t u ⟨d, none, .neg k x⟩ r st K) := by rw [d_step _ _ _ _ _ _ _ _ rfl]; simp [sideOK, srcS]
@[push_cast] theorem d_cnv (nw : Bool) (k : IntKind) : dsK P (⟨⟨d, none, .cnv nw k x⟩, t, u, true⟩ :: r) st K = (preD t u d none st ∧ stepD P t u ⟨d, none, .cnv nw k x⟩ r st K) := by rw [d_step _ _ _ _ _ _ _ _ rfl]; simp [sideOK, srcS]
@[push_cast] theorem d_len : dsK P (⟨⟨d, none, .len x⟩, t, u, true⟩ :: r) st K = (preD t u d none st ∧ stepD P t u ⟨d, none, .len x⟩ r st K) := by rw [d_step _ _ _ _ _ _ _ _ rfl]; simp [sideOK, srcS]
@[push_cast] theorem d_lenA (n : Nat) : dsK P (⟨⟨d, none, .lenA n x⟩, t, u, true⟩ :: r) st K = (preD t u d none st ∧ stepD P t u ⟨d, none, .lenA n x⟩ r st K) := by rw [d_step _ _ _ _ _ _ _ _ rfl]; simp [sideOK, srcS]
@[push_cast] theorem d_mn (mx : Bool) : dsK P (⟨⟨d, none, .mn mx x y⟩, t, u, true⟩ :: r) st K = (preD t u d none st ∧ stepD P t u ⟨d, none, .mn mx x y⟩ r st K) := by rw [d_step _ _ _ _ _ _ _ _ rfl]; simp [sideOK, srcS]
@[push_cast] theorem d_fa (off : Nat) : dsK P (⟨⟨d, none, .fa off x⟩, t, u, true⟩ :: r) st K = (preD t u d none st ∧ stepD P t u ⟨d, none, .fa off x⟩ r st K) := by rw [d_step _ _ _ _ _ _ _ _ rfl]; simp [sideOK, srcS]
@[push_cast] theorem d_fl (agg : Bool) (off sz : Nat) : dsK P (⟨⟨d, none, .fl agg off sz x⟩, t, u, true⟩ :: r) st K = (preD t u d none st ∧ stepD P t u ⟨d, none, .fl agg off sz x⟩ r st K) := by rw [d_step _ _ _ _ _ _ _ _ rfl]; simp [sideOK, srcS]
@[push_cast] theorem d_ixs (es : Nat) : dsK P (⟨⟨d, none, .ixs es x y⟩, t, u, true⟩ :: r) st K = (preD t u d none st ∧ refU u (x.ev st) = false ∧ stepD P t u ⟨d, none, .ixs es x y⟩ r st K) := by rw [d_step _ _ _ _ _ _ _ _ rfl]; simp [sideOK, srcS]
@[push_cast] theorem d_ixa (n es : Nat) : dsK P (⟨⟨d, none, .ixa n es x y⟩, t, u, true⟩ :: r) st K = (preD t u d none st ∧ stepD P t u ⟨d, none, .ixa n es x y⟩ r st K) := by rw [d_step _ _ _ _ _ _ _ _ rfl]; simp [sideOK, srcS]
@[push_cast] theorem d_ixv (agg : Bool) (n es : Nat) : dsK P (⟨⟨d, none, .ixv agg n es x y⟩, t, u, true⟩ :: r) st K = (preD t u d none st ∧ stepD P t u ⟨d, none, .ixv agg n es x y⟩ r st K) := by rw [d_step _ _ _ _ _ _ _ _ rfl]; simp [sideOK, srcS]
@[push_cast] theorem d_slc (es : Nat) (lo hi : Option Opd) : dsK P (⟨⟨d, none, .slc es x lo hi⟩, t, u, true⟩ :: r) st K = (preD t u d none st ∧ refU u (x.ev st) = false ∧ stepD P t u ⟨d, none, .slc es x lo hi⟩ r st K) := by rw [d_step _ _ _ _ _ _ _ _ rfl]; simp [sideOK, srcS]
@[push_cast] theorem d_ext (i : Nat) : dsK P (⟨⟨d, none, .ext x i⟩, t, u, true⟩ :: r) st K = (preD t u d none st ∧ stepD P t u ⟨d, none, .ext x i⟩ r st K) := by rw [d_step _ _ _ _ _ _ _ _ rfl]; simp [sideOK, srcS]
@[push_cast] theorem d_nck : dsK P (⟨⟨d, none, .nck x⟩, t, u, true⟩ :: r) st K = (preD t u d none st ∧ stepD P t u ⟨d, none, .nck x⟩ r st K) := by rw [d_step _ _ _ _ _ _ _ _ rfl]; simp [sideOK, srcS]
@[push_cast] theorem d_alc (zero : List PV) : dsK P (⟨⟨d, none, .alc zero⟩, t, u, true⟩ :: r) st K = (preD t u d none st ∧ stepD P t u ⟨d, none, .alc zero⟩ r st K) := by rw [d_step _ _ _ _ _ _ _ _ rfl]; simp [sideOK, srcS]
@[push_cast] theorem d_box : dsK P (⟨⟨d, none, .box x⟩, t, u, true⟩ :: r) st K = (preD t u d none st ∧ stepD P t u ⟨d, none, .box x⟩ r st K) := by rw [d_step _ _ _ _ _ _ _ _ rfl]; simp [sideOK, srcS]
@[push_cast] theorem d_mks (es ty by_ : Nat) (zero : List PV) : dsK P (⟨⟨d, none, .mks es ty by_ zero x y⟩, t, u, true⟩ :: r) st K = (preD t u d none st ∧ stepD P t u ⟨d, none, .mks es ty by_ zero x y⟩ r st K) := by rw [d_step _ _ _ _ _ _ _ _ rfl]; simp [sideOK, srcS]
@[push_cast] theorem d_bsl (es ty : Nat) (zero : List PV) (n : Nat) (parts : List (Nat × Opd)) : dsK P (⟨⟨d, none, .bsl es ty zero n parts⟩, t, u, true⟩ :: r) st K = (preD t u d none st ∧ nvP st parts = true ∧ stepD P t u ⟨d, none, .bsl es ty zero n parts⟩ r st K) := by rw [d_step _ _ _ _ _ _ _ _ rfl]; simp only [sideOK, srcS, nvP_eq]
@[push_cast] theorem d_sto (sz : Nat) : dsK P (⟨⟨d, none, .sto sz x y⟩, t, u, true⟩ :: r) st K = (preD t u d none st ∧ (nvL (cellsOf (y.ev st)) = true ∧ stoT u (x.ev st) = true) ∧ stepD P t u ⟨d, none, .sto sz x y⟩ r st K) := by rw [d_step _ _ _ _ _ _ _ _ rfl]; simp only [sideOK, srcS, nvL_eq]
def srcT : Opd → Option Nat
  | .t s => some s
  | .c _ => none
@[push_cast] theorem srcT_t (s : Nat) : srcT (.t s) = some s := rfl
@[push_cast] theorem srcT_c (p : PV) : srcT (.c p) = none := rfl
@[push_cast] theorem d_app (es ty by_ : Nat) : dsK P (⟨⟨d, none, .app es ty by_ x y⟩, t, u, true⟩ :: r) st K = (preD t u d (srcT x) st ∧ appS t (x.ev st) = true ∧ stepD P t u ⟨d, none, .app es ty by_ x y⟩ r st K) := by
  rw [d_step _ _ _ _ _ _ _ _ rfl]
  have h1 : srcS (.app es ty by_ x y) = srcT x := by cases x <;> rfl
  have h2 : sideOK st t u (.app es ty by_ x y) = (appS t (x.ev st) = true) := by
    simp only [sideOK]
    cases x.ev st <;> simp [appS]
  rw [h1, h2]
@[push_cast] theorem d_cpy (es : Nat) : dsK P (⟨⟨d, none, .cpy es x y⟩, t, u, true⟩ :: r) st K = (preD t u d none st ∧ stepD P t u ⟨d, none, .cpy es x y⟩ r st K) := by rw [d_step _ _ _ _ _ _ _ _ rfl]; simp [sideOK, srcS]
def calDK (P : Env) (u : List Nat) (d : Option Nat) (f : Nat) (args : List PV) (r : List DO) (st : St) (K : St → Prop) : Prop :=
  ∃ post, FnOK P.p f args post ∧ (∃ v, post v) ∧ ∀ v, post v → refU u v = false ∧ dsK P r (st.put d v) K
@[congr] theorem calDK_congr {P : Env} {u : List Nat} {d : Option Nat} {f : Nat} {args args' : List PV} {r : List DO} {st st' : St} {K : St → Prop} (h1 : args = args') (h2 : st = st') : calDK P u d f args r st K = calDK P u d f args' r st' K := by rw [h1, h2]
@[push_cast] theorem d_cal (f : Nat) (args : List Opd) : dsK P (⟨⟨d, none, .cal f args⟩, t, u, true⟩ :: r) st K = (preD t u d none st ∧ calDK P u d f (argsV st args) r st K) := by
  simp only [dsK, dopG, if_true, grdK, dopK, calD, calDK, argsV_eq, preOK, preD, srcS, boxA_eq]
end
theorem dcal_eq {P : Env} {u : List Nat} {d : Option Nat} {f : Nat} {args : List PV} {r : List DO} {st : St} {K : St → Prop} {v : PV} (hc : FnEq P.p f args v) (hu : refU u v = false) (h : dsK P r (st.put d v) K) : calDK P u d f args r st K :=
  ⟨_, hc, ⟨v, rfl⟩, fun w hw => by subst hw; exact ⟨hu, h⟩⟩
theorem dcal_of {P : Env} {u : List Nat} {d : Option Nat} {f : Nat} {args : List PV} {r : List DO} {st : St} {K : St → Prop} {post : PV → Prop} (hc : FnOK P.p f args post) (hn : ∃ v, post v) (h : ∀ v, post v → refU u v = false ∧ dsK P r (st.put d v) K) : calDK P u d f args r st K := ⟨_, hc, hn, h⟩
section
variable {P : Env} {t u : List Nat} {d : Option Nat} {s : Nat} {op : AOp} {r : List DO} {sl : List (Nat × PV)} {bx : List (Nat × List PV)} {ar : List (Nat × Arr)} {mm : List (Nat × Mp)} {K : St → Prop}
theorem dgrd_gen (b : Bool) {w : Bool} (h : getL sl s = .sc (.bool b)) :
    dsK P (⟨⟨d, some (s, w), op⟩, t, u, true⟩ :: r) ⟨sl, bx, ar, mm⟩ K = (preD t u d (srcS op) ⟨sl, bx, ar, mm⟩ ∧ (b = w → dopK P ⟨⟨d, some (s, w), op⟩, t, u, true⟩ ⟨sl, bx, ar, mm⟩ (fun st' => dsK P r st' K)) ∧ (b ≠ w → dsK P r ((⟨sl, bx, ar, mm⟩ : St).put d (.tup [])) K)) := by
  have hg : (⟨sl, bx, ar, mm⟩ : St).get s = .sc (.bool b) := by rw [get_mk]; exact h
  have e1 : preOK ⟨⟨d, some (s, w), op⟩, t, u, true⟩ ⟨sl, bx, ar, mm⟩ = preD t u d (srcS op) ⟨sl, bx, ar, mm⟩ := by simp only [preOK, preD, boxA_eq]
  simp only [dsK, dopG, if_true, e1, grdK, hg]
theorem dopK_grd (w : Bool) (st : St) (K : St → Prop) : dopK P ⟨⟨d, some (s, w), op⟩, t, u, true⟩ st K = dopK P ⟨⟨d, none, op⟩, t, u, true⟩ st K := by
  unfold dopK
  cases op <;> rfl
theorem dsK_none (st : St) : dsK P (⟨⟨d, none, op⟩, t, u, true⟩ :: r) st K = (preD t u d (srcS op) st ∧ dopK P ⟨⟨d, none, op⟩, t, u, true⟩ st (fun st' => dsK P r st' K)) := by
  have e1 : preOK ⟨⟨d, none, op⟩, t, u, true⟩ st = preD t u d (srcS op) st := by simp only [preOK, preD, boxA_eq]
  simp only [dsK, dopG, if_true, grdK, e1]
@[push_cast] theorem dgrd_tt (h : getL sl s = .sc (.bool true)) : dsK P (⟨⟨d, some (s, true), op⟩, t, u, true⟩ :: r) ⟨sl, bx, ar, mm⟩ K = dsK P (⟨⟨d, none, op⟩, t, u, true⟩ :: r) ⟨sl, bx, ar, mm⟩ K := by
  rw [dgrd_gen true h, dsK_none, dopK_grd]; simp
@[push_cast] theorem dgrd_ff (h : getL sl s = .sc (.bool false)) : dsK P (⟨⟨d, some (s, false), op⟩, t, u, true⟩ :: r) ⟨sl, bx, ar, mm⟩ K = dsK P (⟨⟨d, none, op⟩, t, u, true⟩ :: r) ⟨sl, bx, ar, mm⟩ K := by
  rw [dgrd_gen false h, dsK_none, dopK_grd]; simp
@[push_cast] theorem dgrd_tf (h : getL sl s = .sc (.bool false)) : dsK P (⟨⟨d, some (s, true), op⟩, t, u, true⟩ :: r) ⟨sl, bx, ar, mm⟩ K = (preD t u d (srcS op) ⟨sl, bx, ar, mm⟩ ∧ dsK P r ((⟨sl, bx, ar, mm⟩ : St).put d (.tup [])) K) := by
  rw [dgrd_gen false h]; simp
@[push_cast] theorem dgrd_ft (h : getL sl s = .sc (.bool true)) : dsK P (⟨⟨d, some (s, false), op⟩, t, u, true⟩ :: r) ⟨sl, bx, ar, mm⟩ K = (preD t u d (srcS op) ⟨sl, bx, ar, mm⟩ ∧ dsK P r ((⟨sl, bx, ar, mm⟩ : St).put d (.tup [])) K) := by
  rw [dgrd_gen true h]; simp
@[push_cast] theorem dgrd_u {w : Bool} (h : getL sl s = .tup []) : dsK P (⟨⟨d, some (s, w), op⟩, t, u, true⟩ :: r) ⟨sl, bx, ar, mm⟩ K = (preD t u d (srcS op) ⟨sl, bx, ar, mm⟩ ∧ dsK P r ((⟨sl, bx, ar, mm⟩ : St).put d (.tup [])) K) := by
  have hg : (⟨sl, bx, ar, mm⟩ : St).get s = .tup [] := by rw [get_mk]; exact h
  have e1 : preOK ⟨⟨d, some (s, w), op⟩, t, u, true⟩ ⟨sl, bx, ar, mm⟩ = preD t u d (srcS op) ⟨sl, bx, ar, mm⟩ := by simp only [preOK, preD, boxA_eq]
  simp only [dsK, dopG, if_true, e1, grdK, hg]
end
section
variable (P : Env) (Q : Exit → St → Prop) (st : St)
@[push_cast] theorem a_frz (ts : List Nat) (c : AC) : awp P (.frz ts c) Q st = awp P c Q (frzSl st ts) := rfl
@[push_cast] theorem frzSl_nil : frzSl st [] = st := rfl
@[push_cast] theorem frzSl_cons (t : Nat) (r : List Nat) : frzSl st (t :: r) = frzSl (st.frzs (cellsOf (st.get t))) r := rfl
@[push_cast] theorem a_cut (ks : List Nat) (c : AC) : awp P (.cut ks c) Q st = awp P c Q (st.keepS ks) := rfl
theorem wk_of {P : Env} {Q : Exit → St → Prop} {st : St} {c : AC} (st0 : St) (h : Wk st st0) (h2 : awp P c Q st0) : awp P (.wk c) Q st := ⟨st0, h, h2⟩
end
@[push_cast] theorem sub_self (c : PV) : Sub c c ↔ True := ⟨fun _ => trivial, fun _ => .refl c⟩
@[push_cast] theorem sub_bot (c : PV) : Sub c .bot ↔ True := ⟨fun _ => trivial, fun _ => .bot c⟩
@[push_cast] theorem subL_nil : SubL [] [] ↔ True := Iff.rfl
@[push_cast] theorem subL_cons (c d : PV) (cs ds : List PV) : SubL (c :: cs) (d :: ds) ↔ (Sub c d ∧ SubL cs ds) := Iff.rfl
@[push_cast] theorem subL_self (cs : List PV) : SubL cs cs ↔ True := ⟨fun _ => trivial, fun _ => SubL.rfl' cs⟩
theorem subL_of : ∀ {cs ds : List PV}, cs.length = ds.length → (∀ (j : Nat) (c d : PV), cs[j]? = some c → ds[j]? = some d → Sub c d) → SubL cs ds
  | [], [], _, _ => trivial
  | c :: cs, d :: ds, hl, h => ⟨h 0 c d rfl rfl, subL_of (by simpa using hl) fun j c' d' h1 h2 => h (j + 1) c' d' (by simpa using h1) (by simpa using h2)⟩
@[push_cast] theorem sub_agg (cs ds : List PV) : Sub (.agg cs) (.agg ds) ↔ SubL cs ds :=
  ⟨fun h => by cases h with | refl => exact SubL.rfl' _ | agg _ _ h1 h2 => exact subL_of h1 h2, Sub.aggL⟩
@[push_cast] theorem sub_tup (cs ds : List PV) : Sub (.tup cs) (.tup ds) ↔ SubL cs ds :=
  ⟨fun h => by cases h with | refl => exact SubL.rfl' _ | tup _ _ h1 h2 => exact subL_of h1 h2, Sub.tupL⟩
@[push_cast] theorem sub_slf (p : Bool) (es : Nat) (xs : List (List PV)) : Sub (.sl p es xs) (.sl false es xs) ↔ True := ⟨fun _ => trivial, fun _ => Sub.slp p es xs false (fun h => by cases h)⟩
@[push_cast] theorem sub_slt (q : Bool) (es : Nat) (xs : List (List PV)) : Sub (.sl true es xs) (.sl q es xs) ↔ True := ⟨fun _ => trivial, fun _ => Sub.slp true es xs q (fun _ => rfl)⟩
@[push_cast] theorem sub_nilsl (p : Bool) (es : Nat) (xs : List (List PV)) : Sub .nil (.sl p es xs) ↔ xs = [] := ⟨fun h => by cases h; rfl, fun h => by subst h; exact .nil p es⟩
@[push_cast] theorem sub_sc (a b : Value) : Sub (.sc a) (.sc b) ↔ a = b := ⟨fun h => by cases h; rfl, fun h => by subst h; exact .refl _⟩
@[push_cast] theorem rows_eq_nil {α : Type} (f : α → List PV) (l : List α) : rows f l = [] ↔ l = [] := by simp [rows]
@[push_cast] theorem wk_mk (s s' : List (Nat × PV)) (b b' : List (Nat × List PV)) (a a' : List (Nat × Arr)) (m m' : List (Nat × Mp)) : Wk ⟨s, b, a, m⟩ ⟨s', b', a', m'⟩ ↔ (WkS s s' ∧ WkB b b' ∧ WkA a a' ∧ m' = m) := Iff.rfl
@[push_cast] theorem wkS_nil : WkS [] [] ↔ True := Iff.rfl
@[push_cast] theorem wkS_cons (i j : Nat) (c d : PV) (s t : List (Nat × PV)) : WkS ((i, c) :: s) ((j, d) :: t) ↔ (i = j ∧ Sub c d ∧ WkS s t) := Iff.rfl
@[push_cast] theorem wkB_nil : WkB [] [] ↔ True := Iff.rfl
@[push_cast] theorem wkB_cons (i j : Nat) (c d : List PV) (s t : List (Nat × List PV)) : WkB ((i, c) :: s) ((j, d) :: t) ↔ (i = j ∧ SubL c d ∧ WkB s t) := Iff.rfl
@[push_cast] theorem wkA_nil : WkA [] [] ↔ True := Iff.rfl
@[push_cast] theorem wkA_cons (i j e e' y y' : Nat) (c d : List (List PV)) (s t : List (Nat × Arr)) : WkA ((i, ⟨e, y, c⟩) :: s) ((j, ⟨e', y', d⟩) :: t) ↔ ((i = j ∧ e' = e ∧ y' = y) ∧ SubR c d ∧ WkA s t) := Iff.rfl
@[push_cast] theorem subR_self (cs : List (List PV)) : SubR cs cs ↔ True := ⟨fun _ => trivial, fun _ => SubR.rfl' cs⟩
theorem cal_sub {P : Env} {d : Option Nat} {f : Nat} {args args' : List PV} {r : List AO} {st : St} {K : St → Prop} {v : PV} (hc : FnEq P.p f args' v) (hs : SubL args args') (h : opsK P r (st.put d v) K) : calK P d f args r st K := cal_eq (FnOK.sub hc hs) h
theorem cal_subO {P : Env} {d : Option Nat} {f : Nat} {args args' : List PV} {r : List AO} {st : St} {K : St → Prop} {post : PV → Prop} (hc : FnOK P.p f args' post) (hs : SubL args args') (h : ∀ v, post v → opsK P r (st.put d v) K) : calK P d f args r st K := cal_of (FnOK.sub hc hs) h
theorem dcal_sub {P : Env} {u : List Nat} {d : Option Nat} {f : Nat} {args args' : List PV} {r : List DO} {st : St} {K : St → Prop} {v : PV} (hc : FnEq P.p f args' v) (hs : SubL args args') (hu : refU u v = false) (h : dsK P r (st.put d v) K) : calDK P u d f args r st K :=
  dcal_eq (FnOK.sub hc hs) hu h
@[push_cast] theorem srcS_app_t (es ty by_ s : Nat) (y : Opd) : srcS (.app es ty by_ (.t s) y) = some s := rfl
end Go.Vc
namespace Go.Vc
open Go Go.RowKit
section
variable {P : Env} {d : Option Nat} {s : Nat} {op : AOp} {r : List AO} {sl : List (Nat × PV)} {bx : List (Nat × List PV)} {ar : List (Nat × Arr)} {mm : List (Nat × Mp)} {K : St → Prop} {p : Prop} [Decidable p]
theorem grd_dec (h : getL sl s = .sc (.bool (decide p))) (h1 : p → opsK P (⟨d, none, op⟩ :: r) ⟨rp sl s (.sc (.bool true)), bx, ar, mm⟩ K) (h2 : ¬ p → opsK P r ((⟨rp sl s (.sc (.bool false)), bx, ar, mm⟩ : St).put d (.tup [])) K) :
    opsK P (⟨d, some (s, true), op⟩ :: r) ⟨sl, bx, ar, mm⟩ K := grd_of (decide p) h (fun e => h1 (of_decide_eq_true e)) (fun e => h2 (of_decide_eq_false e))
theorem grd_decf (h : getL sl s = .sc (.bool (decide p))) (h1 : p → opsK P r ((⟨rp sl s (.sc (.bool true)), bx, ar, mm⟩ : St).put d (.tup [])) K) (h2 : ¬ p → opsK P (⟨d, none, op⟩ :: r) ⟨rp sl s (.sc (.bool false)), bx, ar, mm⟩ K) :
    opsK P (⟨d, some (s, false), op⟩ :: r) ⟨sl, bx, ar, mm⟩ K := grd_of (decide p) h (fun e => h2 (of_decide_eq_false e)) (fun e => h1 (of_decide_eq_true e))
theorem grd_bf {b : Bool} (h : getL sl s = .sc (.bool b)) (h1 : b = true → opsK P r ((⟨rp sl s (.sc (.bool true)), bx, ar, mm⟩ : St).put d (.tup [])) K) (h2 : b = false → opsK P (⟨d, none, op⟩ :: r) ⟨rp sl s (.sc (.bool false)), bx, ar, mm⟩ K) :
    opsK P (⟨d, some (s, false), op⟩ :: r) ⟨sl, bx, ar, mm⟩ K := grd_of b h h2 h1
end
section
variable {P : Env} {t u : List Nat} {d : Option Nat} {s : Nat} {op : AOp} {r : List DO} {sl : List (Nat × PV)} {bx : List (Nat × List PV)} {ar : List (Nat × Arr)} {mm : List (Nat × Mp)} {K : St → Prop} {p : Prop} [Decidable p]
end
theorem cut_of {P : Env} {ops : List AO} {st : St} {ks : List Nat} {c : AC} {Q : Exit → St → Prop} (st1 : St) (h1 : opsK P ops st (fun st' => st'.keepS ks = st1)) (h2 : awp P c Q st1) : opsK P ops st (fun st' => awp P (.cut ks c) Q st') := by
  have mono : ∀ (l : List AO) (st : St) (K K' : St → Prop), (∀ s, K s → K' s) → opsK P l st K → opsK P l st K' := by
    intro l
    induction l with
    | nil => exact fun st K K' h hk => h st hk
    | cons o r ih => exact fun st K K' h hk => grdK_mono (opK_mono fun s hs => ih s K K' h hs) (ih _ K K' h) hk
  exact mono ops st _ _ (fun s hs => by show awp P c Q (s.keepS ks); rw [hs]; exact h2) h1
end Go.Vc
namespace Go.Vc
open Go Go.RowKit
inductive Ty where
  | b
  | i (k : IntKind)
  | sl (es : Nat) (ts : List Ty)
def flatOk (P : Program) : Nat → TypeId → List Ty → Bool
  | 0, _, _ => false
  | n + 1, t, ts => match P.underlying t with
    | some .bool => (match ts with | [.b] => true | _ => false)
    | some (.int k) => (match ts with | [.i k'] => k == k' | _ => false)
    | some (.slice e) => (match ts with | [.sl es us] => us.length == es && P.cellsOf e == es && decide (0 < es) && flatOk P n e us | _ => false)
    | some (.struct fs) => fs.toList.all (fun f => flatOk P n f.type ((ts.drop f.offset).take (P.cellsOf f.type))) && ts.length == P.cellsOf t &&
        (List.range ts.length).all fun j => fs.toList.any fun f => decide (f.offset ≤ j) && decide (j < f.offset + P.cellsOf f.type)
    | some (.array m e) => (List.range m).all (fun i => flatOk P n e ((ts.drop (i * P.cellsOf e)).take (P.cellsOf e))) && ts.length == P.cellsOf t &&
        (List.range ts.length).all fun j => (List.range m).any fun i => decide (i * P.cellsOf e ≤ j) && decide (j < i * P.cellsOf e + P.cellsOf e)
    | _ => false
inductive CellV : Ty → PV → Prop
  | b (x) : CellV .b (.sc (.bool x))
  | i (k n) : k.min ≤ n → n ≤ k.max → CellV (.i k) (.sc (.int k n))
  | sl (es ts) (rows : List (List PV)) : rows.length ≤ maxLen → (∀ r ∈ rows, r.length = ts.length) → (∀ r ∈ rows, ∀ (j : Nat) (t : Ty) (c : PV), ts[j]? = some t → r[j]? = some c → CellV t c) → CellV (.sl es ts) (.sl true es rows)
theorem mapM_at {α β : Type} {f : α → Option β} : ∀ {l : List α} {r : List β}, l.mapM f = some r → ∀ x ∈ l, ∃ y, f x = some y
  | [], _, _, x, hx => by cases hx
  | a :: l, r, h, x, hx => by
    rw [List.mapM_cons] at h
    cases ha : f a with
    | none => rw [ha] at h; cases h
    | some y =>
      rw [ha] at h
      cases hl : l.mapM f with
      | none => rw [hl] at h; cases h
      | some ys =>
        rcases List.mem_cons.1 hx with rfl | hx
        · exact ⟨y, ha⟩
        · exact mapM_at hl x hx
theorem exists_list {α : Type} {Q : Nat → α → Prop} : ∀ n : Nat, (∀ j, j < n → ∃ c, Q j c) → ∃ l : List α, l.length = n ∧ ∀ j c, l[j]? = some c → Q j c
  | 0, _ => ⟨[], rfl, fun j c h => by simp at h⟩
  | n + 1, h => by
    obtain ⟨l, h1, h2⟩ := exists_list n fun j hj => h j (by omega)
    obtain ⟨c, hc⟩ := h n (by omega)
    refine ⟨l ++ [c], by simp [h1], fun j c' hj => ?_⟩
    by_cases hjn : j < l.length
    · rw [List.getElem?_append_left hjn] at hj; exact h2 j c' hj
    · rw [List.getElem?_append_right (by omega)] at hj
      have : j - l.length = 0 := by
        have := (List.getElem?_eq_some_iff.1 hj).1
        simp at this; omega
      rw [this] at hj
      simp at hj
      subst hj
      have : j = n := by omega
      rw [this]; exact hc
theorem addr_add_add (a : Addr) (m n : Nat) : (a.add m).add n = a.add (m + n) := by
  unfold Addr.add
  by_cases hm : m = 0
  · subst hm; simp
  · by_cases hn : n = 0
    · subst hn; simp
    · simp [hm, hn, show m + n ≠ 0 by omega, Nat.add_assoc]
def ZW (w : World) : Zone := fun _ b => b < w.heap.size
section
variable {H : Type} {enc : TypeId × Value → H} {P : Program} {w : World} {sp : Nat → Bool} {hd : Bool}
theorem trod_tr : ∀ (n fuel : Nat) (t : TypeId) (ts : List Ty) (cs : List Value) (x : DataW H × List MemPlace), flatOk P n t ts = true → DataW.trod enc P w 0 sp hd fuel t cs = some x →
    cs.length = ts.length ∧ ∀ (j : Nat) (t' : Ty), ts[j]? = some t' → ∃ (c : PV) (v : Value), cs[j]? = some v ∧ CellV t' c ∧ TR w (ZW w) c v ∧ v.oneCell' = true := by
  intro n
  induction n with
  | zero => intro fuel t ts cs x h; simp [flatOk] at h
  | succ n ih =>
    intro fuel t ts cs x h hx
    cases fuel with
    | zero => simp [DataW.trod] at hx
    | succ fuel =>
      unfold flatOk at h
      unfold DataW.trod at hx
      split at h
      · rename_i hu
        rw [hu] at hx
        split at h
        · split at hx <;> first | (cases hx; done) | skip
          all_goals first
            | (rename_i h1; cases h1; done)
            | skip
          rename_i b _
          refine ⟨rfl, fun j t' hj => ?_⟩
          cases j with
          | zero => simp at hj; subst hj; exact ⟨.sc (.bool b), .bool b, rfl, .b b, .sc _ rfl, rfl⟩
          | succ j => simp at hj
        · cases h
      · rename_i k hu
        rw [hu] at hx
        split at h
        · rename_i k'
          have hk : k = k' := by cases k <;> cases k' <;> first | rfl | (cases h; done)
          subst hk
          split at hx <;> first | (cases hx; done) | skip
          all_goals first
            | (rename_i h1; cases h1; done)
            | skip
          rename_i k2 k1 m h1
          cases h1
          split at hx
          · rename_i hh
            obtain ⟨rfl, hw⟩ := hh
            simp only [Lit.wf, Bool.and_eq_true, decide_eq_true_eq] at hw
            refine ⟨rfl, fun j t' hj => ?_⟩
            cases j with
            | zero => simp at hj; subst hj; exact ⟨.sc (.int _ m), .int _ m, rfl, .i _ m hw.1 hw.2, .sc _ rfl, rfl⟩
            | succ j => simp at hj
          · cases hx
        · cases h
      · rename_i e hu
        rw [hu] at hx
        split at h
        · rename_i es us
          simp only [Bool.and_eq_true, beq_iff_eq, decide_eq_true_eq] at h
          obtain ⟨⟨⟨h1, h2⟩, h3⟩, h4⟩ := h
          rcases cs with _ | ⟨v, _ | ⟨v2, r⟩⟩
          · cases hx
          · have nilCase : ∀ (p : Option Addr) (cap : Nat), cap ≤ maxLen → ([Value.slice p 0 cap] : List Value).length = [Ty.sl es us].length ∧ ∀ (j : Nat) (t' : Ty), [Ty.sl es us][j]? = some t' → ∃ (c : PV) (v' : Value), [Value.slice p 0 cap][j]? = some v' ∧ CellV t' c ∧ TR w (ZW w) c v' ∧ v'.oneCell' = true := fun p cap hcap => by
              refine ⟨rfl, fun j t' hj => ?_⟩
              cases j with
              | zero =>
                simp at hj; subst hj
                exact ⟨.sl true es [], _, rfl, .sl es us [] (Nat.zero_le _) (fun r hr => by cases hr) (fun r hr => by cases hr), .sl0 true es p cap hcap, rfl⟩
              | succ j => simp at hj
            cases v <;> first | (cases hx; done) | skip
            rename_i p len cap
            cases p with
            | none =>
              cases len with
              | zero => cases cap with
                | zero => exact nilCase none 0 (Nat.zero_le _)
                | succ c => cases hx
              | succ l => cases hx
            | some ad =>
              simp only at hx
              split at hx
              · rename_i hb
                obtain ⟨_, hlc, hcm⟩ := hb
                cases hm : (List.range len).mapM (fun i => (w.cells? 0 (ad.add (i * P.cellsOf e)) (P.cellsOf e)).bind (DataW.trod enc P w 0 sp hd fuel e)) with
                | none => rw [hm] at hx; cases hx
                | some elems =>
                  clear hx
                  by_cases hl0 : len = 0
                  · subst hl0; exact nilCase (some ad) cap hcm
                  have row : ∀ i, i < len → ∃ rr : List PV, rr.length = es ∧ ∀ (j : Nat) (c : PV), rr[j]? = some c → ∃ v', w.cell? (ad.add (i * es + j)) = some v' ∧ (∀ t', us[j]? = some t' → CellV t' c) ∧ TR w (ZW w) c v' ∧ v'.oneCell' = true := fun i hi => by
                    obtain ⟨y, hy⟩ := mapM_at hm i (List.mem_range.2 hi)
                    cases hc : w.cells? 0 (ad.add (i * P.cellsOf e)) (P.cellsOf e) with
                    | none => rw [hc] at hy; cases hy
                    | some cs' =>
                      rw [hc] at hy
                      have hy : DataW.trod enc P w 0 sp hd fuel e cs' = some y := hy
                      obtain ⟨g1, g2⟩ := ih fuel e us cs' y h4 hy
                      rw [h2] at hc
                      obtain ⟨_, hlen, hat⟩ := World.cells?_some hc
                      refine exists_list (Q := fun j c => ∃ v', w.cell? (ad.add (i * es + j)) = some v' ∧ (∀ t', us[j]? = some t' → CellV t' c) ∧ TR w (ZW w) c v' ∧ v'.oneCell' = true) es fun j hj => ?_
                      obtain ⟨c, v', q1, q2, q3, q4⟩ := g2 j us[j] (List.getElem?_eq_getElem (by omega))
                      refine ⟨c, v', ?_, fun t' ht' => ?_, q3, q4⟩
                      · rw [← addr_add_add, hat j hj]; exact q1
                      · rw [List.getElem?_eq_getElem (by omega)] at ht'; cases ht'; exact q2
                  obtain ⟨rows, hr1, hr2⟩ := exists_list (Q := fun i (rr : List PV) => rr.length = es ∧ ∀ (j : Nat) (c : PV), rr[j]? = some c → ∃ v', w.cell? (ad.add (i * es + j)) = some v' ∧ (∀ t', us[j]? = some t' → CellV t' c) ∧ TR w (ZW w) c v' ∧ v'.oneCell' = true) len row
                  have hrow : ∀ r ∈ rows, ∃ i, i < len ∧ rows[i]? = some r := fun r hr => by
                    obtain ⟨i, hi, rfl⟩ := List.getElem_of_mem hr
                    exact ⟨i, by omega, List.getElem?_eq_getElem hi⟩
                  have hspot : ad.spot = none ∧ ad.block < w.heap.size := by
                    obtain ⟨r0, hr0⟩ : ∃ r0, rows[0]? = some r0 := ⟨rows[0], List.getElem?_eq_getElem (by omega)⟩
                    obtain ⟨e1, e2⟩ := hr2 0 r0 hr0
                    obtain ⟨v', e3, _⟩ := e2 0 r0[0] (List.getElem?_eq_getElem (by omega))
                    simp only [Nat.zero_mul, Nat.zero_add, Addr.add, if_true] at e3
                    unfold World.cell? at e3
                    split at e3
                    · rename_i hb
                      split at e3
                      · cases e3
                      · rename_i hs
                        refine ⟨by cases hsp : ad.spot <;> simp_all, ?_⟩
                        exact (Array.getElem?_eq_some_iff.1 hb).1
                    · cases e3
                  have haddr : ∀ k, ad.add k = ⟨ad.block, ad.off + k, none⟩ := fun k => by
                    obtain ⟨b0, o0, s0⟩ := ad
                    have : s0 = none := hspot.1
                    subst this
                    unfold Addr.add
                    split
                    · rename_i hk; subst hk; rfl
                    · rfl
                  refine ⟨rfl, fun j t' hj => ?_⟩
                  cases j with
                  | succ j => simp at hj
                  | zero =>
                    simp at hj; subst hj
                    refine ⟨.sl true es rows, _, rfl, .sl es us rows (by omega) (fun r hr => ?_) (fun r hr j t'' c ht hc => ?_), ?_, rfl⟩
                    · obtain ⟨i, hi, hri⟩ := hrow r hr; rw [(hr2 i r hri).1, h1]
                    · obtain ⟨i, hi, hri⟩ := hrow r hr
                      obtain ⟨v', _, q, _⟩ := (hr2 i r hri).2 j c hc
                      exact q t'' ht
                    · have had : ad = ⟨ad.block, ad.off, none⟩ := by
                        obtain ⟨b0, o0, s0⟩ := ad
                        have : s0 = none := hspot.1
                        subst this; rfl
                      rw [had, ← hr1]
                      refine TR.sl true es rows ad.block ad.off cap (fun i j => (w.cell? (ad.add (i * es + j))).getD undef) h3 hspot.2 (by omega) (by omega) hcm (fun r hr => ?_) (fun i j hi hj => ?_) (fun i j r c hi hj => ?_)
                      · obtain ⟨i, hi, hri⟩ := hrow r hr; exact (hr2 i r hri).1
                      · have hri : rows[i]? = some rows[i] := List.getElem?_eq_getElem hi
                        obtain ⟨e1, e2⟩ := hr2 i _ hri
                        obtain ⟨v', e3, _, _, e4⟩ := e2 j rows[i][j] (List.getElem?_eq_getElem (by omega))
                        rw [e3, ← haddr, e3]
                        exact ⟨rfl, e4⟩
                      · obtain ⟨v', e3, _, e5, _⟩ := (hr2 i r hi).2 j c hj
                        rw [e3]; exact e5
              · cases hx
          · exfalso
            split at hx <;> first | (cases hx; done) | (rename_i h5 h6; cases h5; done) | (rename_i h5 h6; cases h6; done) | simp_all
        · cases h
      · rename_i fs hu
        rw [hu] at hx
        simp only [Bool.and_eq_true, beq_iff_eq, List.all_eq_true, List.any_eq_true, decide_eq_true_eq] at h
        obtain ⟨⟨h1, h2⟩, h3⟩ := h
        have hx : (if cs.length = P.cellsOf t then ((fs.toList.mapM fun f => DataW.trod enc P w 0 sp hd fuel f.type ((cs.drop f.offset).take (P.cellsOf f.type))).map fun xs => (DataW.agg (xs.map (·.1)), xs.flatMap (·.2))) else none) = some x := hx
        split at hx
        · rename_i hl
          refine ⟨by omega, fun j t' hj => ?_⟩
          have hjl := (List.getElem?_eq_some_iff.1 hj).1
          obtain ⟨f, hf, hf1, hf2⟩ := h3 j (List.mem_range.2 hjl)
          cases hm : fs.toList.mapM (fun f => DataW.trod enc P w 0 sp hd fuel f.type ((cs.drop f.offset).take (P.cellsOf f.type))) with
          | none => rw [hm] at hx; cases hx
          | some ys =>
            obtain ⟨y, hy⟩ := mapM_at hm f hf
            obtain ⟨g1, g2⟩ := ih fuel f.type _ _ y (h1 f hf) hy
            have hj' : ((ts.drop f.offset).take (P.cellsOf f.type))[j - f.offset]? = some t' := by
              rw [List.getElem?_take, if_pos (by omega), List.getElem?_drop, show f.offset + (j - f.offset) = j from by omega]; exact hj
            obtain ⟨c, v, q1, q2⟩ := g2 _ t' hj'
            refine ⟨c, v, ?_, q2⟩
            rw [List.getElem?_take, if_pos (by omega), List.getElem?_drop, show f.offset + (j - f.offset) = j from by omega] at q1
            exact q1
        · cases hx
      · rename_i m e hu
        rw [hu] at hx
        simp only [Bool.and_eq_true, beq_iff_eq, List.all_eq_true, List.any_eq_true, decide_eq_true_eq] at h
        obtain ⟨⟨h1, h2⟩, h3⟩ := h
        have hx : (if cs.length = P.cellsOf t then (((List.range m).mapM fun i => DataW.trod enc P w 0 sp hd fuel e ((cs.drop (i * P.cellsOf e)).take (P.cellsOf e))).map fun xs => (DataW.agg (xs.map (·.1)), xs.flatMap (·.2))) else none) = some x := hx
        split at hx
        · rename_i hl
          refine ⟨by omega, fun j t' hj => ?_⟩
          have hjl := (List.getElem?_eq_some_iff.1 hj).1
          obtain ⟨i, hi, hf1, hf2⟩ := h3 j (List.mem_range.2 hjl)
          cases hm : (List.range m).mapM (fun i => DataW.trod enc P w 0 sp hd fuel e ((cs.drop (i * P.cellsOf e)).take (P.cellsOf e))) with
          | none => rw [hm] at hx; cases hx
          | some ys =>
            obtain ⟨y, hy⟩ := mapM_at hm i hi
            obtain ⟨g1, g2⟩ := ih fuel e _ _ y (h1 i hi) hy
            have hj' : ((ts.drop (i * P.cellsOf e)).take (P.cellsOf e))[j - i * P.cellsOf e]? = some t' := by
              rw [List.getElem?_take, if_pos (by omega), List.getElem?_drop, show i * P.cellsOf e + (j - i * P.cellsOf e) = j from by omega]; exact hj
            obtain ⟨c, v, q1, q2⟩ := g2 _ t' hj'
            refine ⟨c, v, ?_, q2⟩
            rw [List.getElem?_take, if_pos (by omega), List.getElem?_drop, show i * P.cellsOf e + (j - i * P.cellsOf e) = j from by omega] at q1
            exact q1
        · cases hx
      · cases h
def aggT (P : Program) (t : TypeId) : Bool := match P.underlying t with | some (.struct _) | some (.array _ _) => true | _ => false
def RowV (ts : List Ty) (pc : List PV) : Prop := pc.length = ts.length ∧ ∀ (j : Nat) (t : Ty) (c : PV), ts[j]? = some t → pc[j]? = some c → CellV t c
theorem argTy {n : Nat} {t : TypeId} {ts : List Ty} {v : Value} {base : Nat} {d : DataW H} {ps : List MemPlace} (hf : flatOk P n t ts = true) (hs : aggT P t = true) (hok : Value.okWide P w .any base t v)
    (h : DataW.Trod enc P w 0 sp hd t v d ps) : ∃ pc : List PV, RowV ts pc ∧ TV w (ZW w) (.agg pc) v := by
  obtain ⟨fuel, h⟩ := h
  have hv : ∃ cs : Array Value, v = .agg cs := by
    unfold Value.okWide at hok
    unfold aggT at hs
    split at hs
    · rename_i hu; rw [hu] at hok; obtain ⟨cs, e, _⟩ := hok; exact ⟨cs, e⟩
    · rename_i hu; rw [hu] at hok; obtain ⟨cs, e, _⟩ := hok; exact ⟨cs, e⟩
    · cases hs
  obtain ⟨cs, rfl⟩ := hv
  obtain ⟨g1, g2⟩ := trod_tr n fuel t ts cs.toList (d, ps) hf h
  obtain ⟨pc, h1, h2⟩ := exists_list (Q := fun j c => ∃ v, cs.toList[j]? = some v ∧ (∀ t', ts[j]? = some t' → CellV t' c) ∧ TR w (ZW w) c v ∧ v.oneCell' = true) ts.length fun j hj => by
    obtain ⟨c, v, q1, q2, q3, q4⟩ := g2 j ts[j] (List.getElem?_eq_getElem hj)
    exact ⟨c, v, q1, fun t' ht => by rw [List.getElem?_eq_getElem hj] at ht; cases ht; exact q2, q3, q4⟩
  refine ⟨pc, ⟨h1, fun j t' c ht hc => ?_⟩, cs, rfl, by rw [h1, ← g1]; simp, fun j c hc => ?_⟩
  · obtain ⟨v, _, q, _⟩ := h2 j c hc; exact q t' ht
  · obtain ⟨v, q1, _, q3, q4⟩ := h2 j c hc
    have : cs.getD j undef = v := by
      rw [Array.getD_eq_getD_getElem?]
      have : cs[j]? = some v := by simpa using q1
      rw [this]; rfl
    rw [this]; exact ⟨q3, q4⟩
theorem zw_call {f : FuncId} {args : List PV} {vs : Array Value} (hc : FnEq P f args (.bool true)) (hn : vs.size = args.length) (h : ∀ (j : Nat) (c : PV), args[j]? = some c → TV w (ZW w) c (vs.getD j undef)) :
    Calls P f vs w fun e w' => e = .returned (.bool true) ∧ Below w.heap.size w w' := by
  refine (hc w (ZW w) (fun _ h => h) (fun _ _ h => h) vs hn h).mono ?_
  rintro e w' ⟨v, r, rfl, rfl, h1, h2⟩
  cases h1
  exact ⟨rfl, h2⟩
end
end Go.Vc
namespace Go.Vc
open Go Go.RowKit
def evL (st : St) : List Opd → List PV
  | [] => []
  | x :: r => x.ev st :: evL st r
theorem evL_eq (st : St) (l : List Opd) : l.map (·.ev st) = evL st l := by induction l <;> simp_all [evL]
@[push_cast] theorem evL_nil (st : St) : evL st [] = [] := rfl
@[push_cast] theorem evL_cons (st : St) (x : Opd) (r : List Opd) : evL st (x :: r) = x.ev st :: evL st r := rfl
def boxI : List PV → List Nat → Option (List Nat)
  | [], acc => some acc
  | .ptr i 0 :: r, acc => boxI r (acc ++ [i])
  | _ :: _, _ => none
theorem boxI_eq : ∀ (l : List PV) (acc : List Nat), boxI l acc = (boxIds l).map (acc ++ ·)
  | [], acc => by simp [boxI, boxIds]
  | c :: r, acc => by
    cases c with
    | ptr i off =>
      cases off with
      | zero =>
        simp only [boxI, boxIds, boxI_eq r]
        cases boxIds r <;> simp
      | succ n => rfl
    | _ => rfl
@[push_cast] theorem boxI_nil (acc : List Nat) : boxI [] acc = some acc := rfl
@[push_cast] theorem boxI_ptr (i : Nat) (r : List PV) (acc : List Nat) : boxI (.ptr i 0 :: r) acc = boxI r (acc ++ [i]) := rfl
attribute [push_cast] List.nil_append List.cons_append
def mkfV (f : Nat) : Option (List Nat) → Prop × PV
  | some [] => (True, .sc (.func (.func f) #[] #[]))
  | some ids => (True, .clo f ids)
  | none => (False, .bot)
@[push_cast] theorem mkfV_nil (f : Nat) : mkfV f (some []) = (True, .sc (.func (.func f) #[] #[])) := rfl
@[push_cast] theorem mkfV_cons (f i : Nat) (r : List Nat) : mkfV f (some (i :: r)) = (True, .clo f (i :: r)) := rfl
def mlkT (ok : Bool) (zero : PV) (o : Option PV) : PV := bif ok then (match o with | some v => .tup [v, .sc (.bool true)] | none => .tup [zero, .sc (.bool false)]) else o.getD zero
@[push_cast] theorem mlkT_tn (zero : PV) : mlkT true zero none = .tup [zero, .sc (.bool false)] := rfl
@[push_cast] theorem mlkT_ts (zero v : PV) : mlkT true zero (some v) = .tup [v, .sc (.bool true)] := rfl
@[push_cast] theorem mlkT_fn (zero : PV) : mlkT false zero none = zero := rfl
@[push_cast] theorem mlkT_fs (zero v : PV) : mlkT false zero (some v) = v := rfl
def mlkM (kd : KD) (ok : Bool) (zero : PV) (kv : Value) : Option Mp → Prop × PV
  | some M => (M.kd = kd ∧ kd.has kv = true, mlkT ok zero (mget M.es kv))
  | none => (False, .bot)
def mlkV (st : St) (kd : KD) (ok : Bool) (zero : PV) : PV → PV → Prop × PV
  | .mp id, .sc kv => mlkM kd ok zero kv (lk st.m id)
  | _, _ => (False, .bot)
@[push_cast] theorem mlkM_some (kd kd' : KD) (ok : Bool) (zero : PV) (kv : Value) (es : List (Value × PV)) (it : Option (Nat × List (Value × PV) × Option (Value × PV))) : mlkM kd ok zero kv (some ⟨kd', es, it⟩) = (kd' = kd ∧ kd.has kv = true, mlkT ok zero (mget es kv)) := rfl
@[push_cast] theorem mlkV_mp (s : List (Nat × PV)) (b : List (Nat × List PV)) (a : List (Nat × Arr)) (m : List (Nat × Mp)) (kd : KD) (ok : Bool) (zero : PV) (id : Nat) (kv : Value) : mlkV ⟨s, b, a, m⟩ kd ok zero (.mp id) (.sc kv) = mlkM kd ok zero kv (lk m id) := rfl
@[push_cast] theorem has_int (k l : IntKind) (n : Int) : KD.has (.int k) (.int l n) = (k == l) := rfl
@[push_cast] theorem has_str (s : ByteArray) : KD.has .str (.string s) = true := rfl
@[push_cast] theorem has_bol (b : Bool) : KD.has .bol (.bool b) = true := rfl
@[push_cast] theorem mget_nil (k : Value) : mget [] k = none := rfl
@[push_cast] theorem mput_nil (k : Value) (v : PV) : mput [] k v = [(k, v)] := rfl
def entO (it : Nat) : Option (Nat × List (Value × PV) × Option (Value × PV)) → Prop × PV
  | some (it', _, some (k, v)) => (it' = it, .tup [.sc k, v])
  | _ => (False, .bot)
def entM (it : Nat) : Option Mp → Prop × PV
  | some M => entO it M.it
  | none => (False, .bot)
def entV (st : St) : PV → Prop × PV
  | .itr id it => entM it (lk st.m id)
  | _ => (False, .bot)
@[push_cast] theorem entM_some (it it' : Nat) (kd : KD) (es l : List (Value × PV)) (k : Value) (v : PV) : entM it (some ⟨kd, es, some (it', l, some (k, v))⟩) = (it' = it, .tup [.sc k, v]) := rfl
@[push_cast] theorem entV_itr (s : List (Nat × PV)) (b : List (Nat × List PV)) (a : List (Nat × Arr)) (m : List (Nat × Mp)) (id it : Nat) : entV ⟨s, b, a, m⟩ (.itr id it) = entM it (lk m id) := rfl
def mlnM : Option Mp → Prop × PV
  | some M => (True, .int M.es.length)
  | none => (False, .bot)
def mlnV (st : St) : PV → Prop × PV
  | .mp id => mlnM (lk st.m id)
  | _ => (False, .bot)
@[push_cast] theorem mlnM_some (kd : KD) (es : List (Value × PV)) (it : Option (Nat × List (Value × PV) × Option (Value × PV))) : mlnM (some ⟨kd, es, it⟩) = (True, .int es.length) := rfl
@[push_cast] theorem mlnV_mp (s : List (Nat × PV)) (b : List (Nat × List PV)) (a : List (Nat × Arr)) (m : List (Nat × Mp)) (id : Nat) : mlnV ⟨s, b, a, m⟩ (.mp id) = mlnM (lk m id) := rfl
def pureVB : PV → Bool
  | .agg cs => pureL cs
  | .sc _ | .nil | .sl .. | .iptr .. => true
  | _ => false
theorem pureVB_eq (v : PV) : pureV v = pureVB v := by cases v <;> first | rfl | simp only [pureV, pureVB, pureL_eq]
@[push_cast] theorem pureVB_agg (cs : List PV) : pureVB (.agg cs) = pureL cs := rfl
@[push_cast] theorem pureVB_sc (v : Value) : pureVB (.sc v) = true := rfl
@[push_cast] theorem pureVB_nil : pureVB .nil = true := rfl
@[push_cast] theorem pureVB_sl (p : Bool) (es : Nat) (xs : List (List PV)) : pureVB (.sl p es xs) = true := rfl
def mupM (s : List (Nat × PV)) (b : List (Nat × List PV)) (a : List (Nat × Arr)) (m : List (Nat × Mp)) (id : Nat) (kd : KD) (kv : Value) (v : PV) : Option Mp → Prop × St
  | some M => ((M.kd = kd ∧ kd.has kv = true) ∧ pureVB v = true, ⟨s, b, a, up m id ⟨kd, mput M.es kv v, none⟩⟩)
  | none => (False, ⟨s, b, a, m⟩)
def mupH (st : St) (kd : KD) (v : PV) : PV → PV → Prop × St
  | .mp id, .sc kv => mupM st.s st.b st.a st.m id kd kv v (lk st.m id)
  | _, _ => (False, st)
@[push_cast] theorem mupM_some (s : List (Nat × PV)) (b : List (Nat × List PV)) (a : List (Nat × Arr)) (m : List (Nat × Mp)) (id : Nat) (kd kd' : KD) (kv : Value) (v : PV) (es : List (Value × PV)) (it : Option (Nat × List (Value × PV) × Option (Value × PV))) :
    mupM s b a m id kd kv v (some ⟨kd', es, it⟩) = ((kd' = kd ∧ kd.has kv = true) ∧ pureVB v = true, ⟨s, b, a, up m id ⟨kd, mput es kv v, none⟩⟩) := rfl
@[push_cast] theorem mupH_mp (s : List (Nat × PV)) (b : List (Nat × List PV)) (a : List (Nat × Arr)) (m : List (Nat × Mp)) (kd : KD) (v : PV) (id : Nat) (kv : Value) : mupH ⟨s, b, a, m⟩ kd v (.mp id) (.sc kv) = mupM s b a m id kd kv v (lk m id) := rfl
def rngM (s : List (Nat × PV)) (b : List (Nat × List PV)) (a : List (Nat × Arr)) (m : List (Nat × Mp)) (i id : Nat) : Option Mp → Prop × St
  | some M => (True, ⟨up s i (.itr id i), b, a, up m id { M with it := some (i, M.es, none) }⟩)
  | none => (False, ⟨s, b, a, m⟩)
def rngH (st : St) (i : Nat) : PV → Prop × St
  | .mp id => rngM (killS (isId i) nul st.s) (rm (killB (isId i) nul st.b) i) st.a (killM (isId i) st.m st.m) i id (lk (killM (isId i) st.m st.m) id)
  | _ => (False, st)
@[push_cast] theorem rngM_some (s : List (Nat × PV)) (b : List (Nat × List PV)) (a : List (Nat × Arr)) (m : List (Nat × Mp)) (i id : Nat) (kd : KD) (es : List (Value × PV)) (it : Option (Nat × List (Value × PV) × Option (Value × PV))) :
    rngM s b a m i id (some ⟨kd, es, it⟩) = (True, ⟨up s i (.itr id i), b, a, up m id ⟨kd, es, some (i, es, none)⟩⟩) := rfl
@[push_cast] theorem rngH_mp (s : List (Nat × PV)) (b : List (Nat × List PV)) (a : List (Nat × Arr)) (m : List (Nat × Mp)) (i id : Nat) : rngH ⟨s, b, a, m⟩ i (.mp id) = rngM (killS (isId i) nul s) (rm (killB (isId i) nul b) i) a (killM (isId i) m m) i id (lk (killM (isId i) m m) id) := rfl
def clmK (P : Env) (d : Option Nat) (f : Nat) (args : List PV) (r : List AO) (st : St) (K : St → Prop) : Prop := FnM P f args st fun rv st' => opsK P r (st'.put d rv) K
@[congr] theorem clmK_congr {P : Env} {d : Option Nat} {f : Nat} {args args' : List PV} {r : List AO} {st st' : St} {K : St → Prop} (h1 : args = args') (h2 : st = st') : clmK P d f args r st K = clmK P d f args' r st' K := by rw [h1, h2]
theorem clm_of {P : Env} {d : Option Nat} {f : Nat} {args : List PV} {r : List AO} {st : St} {K : St → Prop} {Q : PV → St → Prop} (h : FnM P f args st Q) (hk : ∀ rv st', Q rv st' → opsK P r (st'.put d rv) K) : clmK P d f args r st K := FnM.mono h hk
theorem clm_eq {P : Env} {d : Option Nat} {f : Nat} {args : List PV} {r : List AO} {st : St} {K : St → Prop} {v : PV} {st1 : St} (h : FnM P f args st (fun rv st' => rv = v ∧ st' = st1)) (hk : opsK P r (st1.put d v) K) : clmK P d f args r st K :=
  FnM.mono h fun _ _ ⟨e1, e2⟩ => by subst e1; subst e2; exact hk
def pclK (P : Env) (d : Option Nat) (f : Nat) (args : List PV) (r : List AO) (st : St) (K : St → Prop) : Prop := funOk P.p f = true ∧ ∃ post, FnOK P.p f args post ∧ ∀ v, post v → opsK P r (st.put d v) K
@[congr] theorem pclK_congr {P : Env} {d : Option Nat} {f : Nat} {args args' : List PV} {r : List AO} {st st' : St} {K : St → Prop} (h1 : args = args') (h2 : st = st') : pclK P d f args r st K = pclK P d f args' r st' K := by rw [h1, h2]
theorem pcl_of {P : Env} {d : Option Nat} {f : Nat} {args : List PV} {r : List AO} {st : St} {K : St → Prop} {v : PV} (hf : funOk P.p f = true) (hc : FnEq P.p f args v) (h : opsK P r (st.put d v) K) : pclK P d f args r st K :=
  ⟨hf, _, hc, fun u hu => by subst hu; exact h⟩
theorem pcl_sub {P : Env} {d : Option Nat} {f : Nat} {args args' : List PV} {r : List AO} {st : St} {K : St → Prop} {v : PV} (hf : funOk P.p f = true) (hc : FnEq P.p f args' v) (hs : SubL args args') (h : opsK P r (st.put d v) K) : pclK P d f args r st K := pcl_of hf (FnOK.sub hc hs) h
def ylK (P : Env) (d : Option Nat) (id : Nat) (args : List PV) (r : List AO) (st : St) (K : St → Prop) : Prop := ∃ K', P.Y id args st K' ∧ ∀ st', K' st' → opsK P r (st'.put d (.sc (.bool true))) K
@[congr] theorem ylK_congr {P : Env} {d : Option Nat} {id : Nat} {args args' : List PV} {r : List AO} {st st' : St} {K : St → Prop} (h1 : args = args') (h2 : st = st') : ylK P d id args r st K = ylK P d id args' r st' K := by rw [h1, h2]
def clvS (P : Env) (d : Option Nat) (v : PV) (args : List PV) (r : List AO) (st : St) (K : St → Prop) : Prop := clvK P st d v args fun st' => opsK P r st' K
@[congr] theorem clvS_congr {P : Env} {d : Option Nat} {v v' : PV} {args args' : List PV} {r : List AO} {st st' : St} {K : St → Prop} (h0 : v = v') (h1 : args = args') (h2 : st = st') : clvS P d v args r st K = clvS P d v' args' r st' K := by rw [h0, h1, h2]
def nxtS (P : Env) (d : Option Nat) (r : List AO) (K : St → Prop) (st : St) (v : PV) : Prop := nxtK st d v fun st' => opsK P r st' K
@[congr] theorem nxtS_congr {P : Env} {d : Option Nat} {r : List AO} {st st' : St} {K : St → Prop} {v v' : PV} (h1 : st = st') (h2 : v = v') : nxtS P d r K st v = nxtS P d r K st' v' := by rw [h1, h2]
def rsAL (st : St) : List PV → List PV
  | [] => []
  | c :: r => c.rsA st :: rsAL st r
theorem rsAL_eq (st : St) (l : List PV) : l.map (PV.rsA st) = rsAL st l := by induction l <;> simp_all [rsAL]
@[push_cast] theorem rsAL_nil (st : St) : rsAL st [] = [] := rfl
@[push_cast] theorem rsAL_cons (st : St) (c : PV) (r : List PV) : rsAL st (c :: r) = c.rsA st :: rsAL st r := rfl
@[push_cast] theorem rsA_pcl (st : St) (f : Nat) (caps : List PV) : (PV.pcl f caps).rsA st = .pcl f caps := rfl
def rsBL (st : St) : List Nat → List PV
  | [] => []
  | i :: r => rsB st 0 (lk st.b i) :: rsBL st r
@[push_cast] theorem rsBL_nil (st : St) : rsBL st [] = [] := rfl
@[push_cast] theorem rsBL_cons (s : List (Nat × PV)) (b : List (Nat × List PV)) (a : List (Nat × Arr)) (m : List (Nat × Mp)) (i : Nat) (r : List Nat) : rsBL ⟨s, b, a, m⟩ (i :: r) = rsB ⟨s, b, a, m⟩ 0 (lk b i) :: rsBL ⟨s, b, a, m⟩ r := rfl
@[push_cast] theorem rsA_clo (st : St) (f : Nat) (ids : List Nat) : (PV.clo f ids).rsA st = .pcl f (rsBL st ids) := by
  show PV.pcl f (ids.map (rsBox st)) = _
  congr 1
  induction ids with
  | nil => rfl
  | cons i r ih =>
    simp only [List.map_cons, ih, rsBL, rsBox, rs0L_eq]
    cases lk st.b i <;> rfl
section
variable (P : Env) (i : Nat) (d : Option Nat) (r : List AO) (st : St) (K : St → Prop)
@[push_cast] theorem o_mkf (f : Nat) (caps : List Opd) : opsK P (⟨d, none, .mkf f caps⟩ :: r) st K = qS P d (mkfV f (boxI (evL st caps) [])) r st K := by
  have : aev st (.mkf f caps) = mkfV f (boxI (evL st caps) []) := by
    simp only [aev, boxI_eq, evL_eq]
    cases boxIds (evL st caps) with
    | none => rfl
    | some l => cases l <;> rfl
  simp only [opsK, grdK, opK, isHeavy, Bool.false_eq_true, if_false, qS, this]
@[push_cast] theorem o_mlk (kd : KD) (ok : Bool) (zero : PV) (x k : Opd) : opsK P (⟨d, none, .mlk kd ok zero x k⟩ :: r) st K = qS P d (mlkV st kd ok zero (x.ev st) (k.ev st)) r st K := by
  have : aev st (.mlk kd ok zero x k) = mlkV st kd ok zero (x.ev st) (k.ev st) := by
    simp only [aev]
    generalize x.ev st = u
    generalize k.ev st = v
    cases u <;> first | (cases v <;> first | rfl | (simp only [mlkV]; cases lk st.m _ <;> rfl)) | rfl
  simp only [opsK, grdK, opK, isHeavy, Bool.false_eq_true, if_false, qS, this]
@[push_cast] theorem o_ent (x : Opd) : opsK P (⟨d, none, .ent x⟩ :: r) st K = qS P d (entV st (x.ev st)) r st K := by
  have : aev st (.ent x) = entV st (x.ev st) := by
    simp only [aev]
    generalize x.ev st = u
    cases u <;> rfl
  simp only [opsK, grdK, opK, isHeavy, Bool.false_eq_true, if_false, qS, this]
@[push_cast] theorem o_mln (x : Opd) : opsK P (⟨d, none, .mln x⟩ :: r) st K = qS P d (mlnV st (x.ev st)) r st K := by
  have : aev st (.mln x) = mlnV st (x.ev st) := by
    simp only [aev]
    generalize x.ev st = u
    cases u <;> first | rfl | (simp only [mlnV]; cases lk st.m _ <;> rfl)
  simp only [opsK, grdK, opK, isHeavy, Bool.false_eq_true, if_false, qS, this]
@[push_cast] theorem o_mkm (kd : KD) : opsK P (⟨some i, none, .mkm kd⟩ :: r) st K = opsK P r (st.newMap i ⟨kd, [], none⟩) K := by
  simp only [opsK, grdK, opK, hev, isHeavy, if_true, true_and]
@[push_cast] theorem o_mup (kd : KD) (x k v : Opd) : opsK P (⟨none, none, .mup kd x k v⟩ :: r) st K = hS P (mupH st kd (v.ev st) (x.ev st) (k.ev st)) r K := by
  have : hev st none (.mup kd x k v) = mupH st kd (v.ev st) (x.ev st) (k.ev st) := by
    simp only [hev, pureVB_eq]
    generalize x.ev st = u
    generalize k.ev st = q
    cases u <;> first | rfl | (cases q <;> rfl)
  simp only [opsK, grdK, opK, isHeavy, if_true, hS, this]
@[push_cast] theorem o_rng (x : Opd) : opsK P (⟨some i, none, .rng x⟩ :: r) st K = hS P (rngH st i (x.ev st)) r K := by
  have : (hev st (some i) (.rng x)).1 = (rngH st i (x.ev st)).1 ∧ ((hev st (some i) (.rng x)).1 → (hev st (some i) (.rng x)).2 = (rngH st i (x.ev st)).2) := by
    simp only [hev]
    generalize x.ev st = u
    cases u <;> first | exact ⟨rfl, fun _ => rfl⟩ | skip
    rename_i id
    have hkm : (st.kill (fun j => j == i) nul).m = killM (isId i) st.m st.m := by
      simp only [St.kill]
      rw [show (fun x : Nat × Mp => !(fun j => j == i) x.1 && !mpTo st.m (fun j => j == i) x.1) = fun x => !isId i x.1 && !mpTo st.m (isId i) x.1 from rfl, killM_eq]
    have hks : (st.kill (fun j => j == i) nul).s = killS (isId i) nul st.s := by simp only [St.kill, killS_eq]; rfl
    have hkb : (st.kill (fun j => j == i) nul).b = killB (isId i) nul st.b := by simp only [St.kill, killB_eq]; rfl
    simp only [hkm, hks, hkb, rngH]
    cases lk (killM (isId i) st.m st.m) id with
    | none => exact ⟨rfl, fun h => h.elim⟩
    | some M => exact ⟨rfl, fun _ => rfl⟩
  simp only [opsK, grdK, opK, isHeavy, if_true, hS]
  exact propext ⟨fun h => ⟨this.1 ▸ h.1, by rw [← this.2 h.1]; exact h.2⟩, fun h => ⟨this.1 ▸ h.1, by rw [this.2 (this.1 ▸ h.1)]; exact h.2⟩⟩
@[push_cast] theorem o_nxt (x : Opd) : opsK P (⟨d, none, .nxt x⟩ :: r) st K = nxtS P d r K st (x.ev st) := rfl
@[push_cast] theorem o_clm (f : Nat) (args : List Opd) : opsK P (⟨d, none, .clm f args⟩ :: r) st K = clmK P d f (evL st args) r st K := by
  rw [← evL_eq]; rfl
@[push_cast] theorem o_clv (x : Opd) (args : List Opd) : opsK P (⟨d, none, .clv x args⟩ :: r) st K = clvS P d (x.ev st) (evL st args) r st K := by
  rw [← evL_eq]; rfl
@[push_cast] theorem o_niq (neg : Bool) (x : Opd) : opsK P (⟨d, none, .niq neg x⟩ :: r) st K = niqK (x.ev st) (fun b => opsK P r (st.put d (.sc (.bool (bif neg then !b else b)))) K) := rfl
end
section
variable (K : Bool → Prop)
@[push_cast] theorem niqK_nil : niqK .nil K = K true := rfl
@[push_cast] theorem niqK_view (id lo n : Nat) : niqK (.view id lo n) K = K false := rfl
@[push_cast] theorem niqK_cons (p : Bool) (es : Nat) (x : List PV) (xs : List (List PV)) : niqK (.sl p es (x :: xs)) K = K false := rfl
theorem niqK_any {p : Bool} {es : Nat} {xs : List (List PV)} (h : ∀ b, (b = true → xs = []) → K b) : niqK (.sl p es xs) K := by
  cases xs with
  | nil => exact fun b => h b fun _ => rfl
  | cons y r => exact h false fun e => by cases e
end
section
variable (s : List (Nat × PV)) (b : List (Nat × List PV)) (a : List (Nat × Arr)) (m : List (Nat × Mp)) (d : Option Nat) (K : St → Prop)
def nxtM (P : Env) (s : List (Nat × PV)) (b : List (Nat × List PV)) (a : List (Nat × Arr)) (m : List (Nat × Mp)) (d : Option Nat) (r : List AO) (id it : Nat) (K : St → Prop) : Option Mp → Prop
  | some ⟨kd, es, some (it', left, _)⟩ => it' = it ∧ (left = [] → opsK P r ((⟨s, b, a, m⟩ : St).put d (.tup [.sc (.bool false)])) K) ∧
      ∀ (i : Nat) (z : Value × PV), left[i]? = some z → opsK P r ((⟨s, b, a, up m id ⟨kd, es, some (it', left.eraseIdx i, some z)⟩⟩ : St).put d (.tup [.sc (.bool true), .sc z.1, z.2])) K
  | _ => False
@[push_cast] theorem nxtS_itr (P : Env) (r : List AO) (id it : Nat) : nxtS P d r K ⟨s, b, a, m⟩ (.itr id it) = nxtM P s b a m d r id it K (lk m id) := by
  simp only [nxtS, nxtK]
  cases lk m id with
  | none => rfl
  | some M => obtain ⟨kd, es, i⟩ := M; rcases i with _ | ⟨i, l, c⟩ <;> rfl
end
def ptrs : List Nat → List PV
  | [] => []
  | i :: r => .ptr i 0 :: ptrs r
theorem ptrs_eq (l : List Nat) : (l.map fun i => PV.ptr i 0) = ptrs l := by induction l <;> simp_all [ptrs]
@[push_cast] theorem ptrs_nil : ptrs [] = [] := rfl
@[push_cast] theorem ptrs_cons (i : Nat) (r : List Nat) : ptrs (i :: r) = .ptr i 0 :: ptrs r := rfl
section
variable (P : Env) (st : St) (d : Option Nat) (args : List PV) (r : List AO) (K : St → Prop)
@[push_cast] theorem clvS_clo (f : Nat) (ids : List Nat) : clvS P d (.clo f ids) args r st K = clmK P d f (args ++ ptrs ids) r st K := by rw [← ptrs_eq]; rfl
@[push_cast] theorem clvS_fn (f : Nat) (u v : Array Value) : clvS P d (.sc (.func (.func f) u v)) args r st K = clmK P d f args r st K := rfl
@[push_cast] theorem clvS_yl (id : Nat) : clvS P d (.yl id) args r st K = ylK P d id args r st K := rfl
@[push_cast] theorem clvS_pcl (f : Nat) (caps : List PV) : clvS P d (.pcl f caps) args r st K = pclK P d f (rsAL st args ++ caps) r st K := by rw [← rsAL_eq]; rfl
end
section
variable (P : Env) (Q : Exit → St → Prop) (st : St)
@[push_cast] theorem a_scope (c : AC) : awp P (.scope c) Q st = awp P c Q st := rfl
@[push_cast] theorem a_label : awp P .label Q st = Q .normal st := rfl
end
@[push_cast] theorem cellsOf_clo (f : Nat) (ids : List Nat) : cellsOf (.clo f ids) = [.clo f ids] := rfl
@[push_cast] theorem cellsOk_clo (f : Nat) (ids : List Nat) : cellsOk (.clo f ids) = true := rfl
@[push_cast] theorem flatB_clo (f : Nat) (ids : List Nat) : flatB (.clo f ids) = true := rfl
@[push_cast] theorem cellsOf_mp (i : Nat) : cellsOf (.mp i) = [.mp i] := rfl
@[push_cast] theorem cellsOk_mp (i : Nat) : cellsOk (.mp i) = true := rfl
@[push_cast] theorem flatB_mp (i : Nat) : flatB (.mp i) = true := rfl
@[push_cast] theorem cellsOf_yl (i : Nat) : cellsOf (.yl i) = [.yl i] := rfl
@[push_cast] theorem flatB_yl (i : Nat) : flatB (.yl i) = true := rfl
@[push_cast] theorem cellsOf_itr (i j : Nat) : cellsOf (.itr i j) = [.itr i j] := rfl
@[push_cast] theorem flatB_itr (i j : Nat) : flatB (.itr i j) = true := rfl
@[push_cast] theorem cellsOf_pcl (f : Nat) (cs : List PV) : cellsOf (.pcl f cs) = [.pcl f cs] := rfl
@[push_cast] theorem flatB_pcl (f : Nat) (cs : List PV) : flatB (.pcl f cs) = true := rfl
def lowL (k : Nat) : List (Nat × PV) → List (Nat × PV)
  | [] => []
  | (i, v) :: r => if i < k then (i, v) :: lowL k r else lowL k r
theorem lowL_eq (k : Nat) (s : List (Nat × PV)) : s.filter (fun x => decide (x.1 < k)) = lowL k s := by
  induction s with
  | nil => rfl
  | cons x r ih =>
    obtain ⟨i, v⟩ := x
    simp only [List.filter_cons, lowL, ih, decide_eq_true_eq]
@[push_cast] theorem lowL_nil (k : Nat) : lowL k [] = [] := rfl
@[push_cast] theorem lowL_cons (k i : Nat) (v : PV) (r : List (Nat × PV)) : lowL k ((i, v) :: r) = if i < k then (i, v) :: lowL k r else lowL k r := rfl
@[push_cast] theorem low_mk (s : List (Nat × PV)) (b : List (Nat × List PV)) (a : List (Nat × Arr)) (m : List (Nat × Mp)) (k : Nat) : St.low ⟨s, b, a, m⟩ k = ⟨lowL k s, b, a, m⟩ := by simp only [St.low, lowL_eq]
@[push_cast] theorem argS_nil (K : Nat) (s : List (Nat × PV)) : argS K [] s = s := rfl
@[push_cast] theorem argS_cons (K : Nat) (c : PV) (r : List PV) (s : List (Nat × PV)) : argS K (c :: r) s = argS (K + 1) r (up s K c) := rfl
@[push_cast] theorem noId_mk (s : List (Nat × PV)) (b : List (Nat × List PV)) (a : List (Nat × Arr)) (m : List (Nat × Mp)) (i : Nat) : St.noId ⟨s, b, a, m⟩ i = ⟨killS (isId i) nul s, rm (killB (isId i) nul b) i, a, killM (isId i) m m⟩ := by
  simp only [St.noId, St.kill, killS_eq, killB_eq]
  rw [show (fun x : Nat × Mp => !(fun j => j == i) x.1 && !mpTo m (fun j => j == i) x.1) = fun x => !isId i x.1 && !mpTo m (isId i) x.1 from rfl, killM_eq]; rfl
@[push_cast] theorem setPs_nil (vs : List PV) (s : List (Nat × PV)) : setPs [] vs s = s := by cases vs <;> rfl
@[push_cast] theorem setPs_cons (p : Nat) (ps : List Nat) (v : PV) (vs : List PV) (s : List (Nat × PV)) : setPs (p :: ps) (v :: vs) s = setPs ps vs (up s p v) := rfl
def midL (k n : Nat) : List (Nat × PV) → List (Nat × PV)
  | [] => []
  | (i, v) :: r => if k ≤ i ∧ i < k + n then (i, v) :: midL k n r else midL k n r
theorem midL_eq (k n : Nat) (s : List (Nat × PV)) : s.filter (fun x => decide (k ≤ x.1 ∧ x.1 < k + n)) = midL k n s := by
  induction s with
  | nil => rfl
  | cons x r ih =>
    obtain ⟨i, v⟩ := x
    simp only [List.filter_cons, midL, ih, decide_eq_true_eq]
@[push_cast] theorem midL_nil (k n : Nat) : midL k n [] = [] := rfl
@[push_cast] theorem midL_cons (k n i : Nat) (v : PV) (r : List (Nat × PV)) : midL k n ((i, v) :: r) = if k ≤ i ∧ i < k + n then (i, v) :: midL k n r else midL k n r := rfl
@[push_cast] theorem copyS_nil (K K2 : Nat) (src s : List (Nat × PV)) : copyS K K2 src [] s = s := rfl
@[push_cast] theorem copyS_cons (K K2 i : Nat) (v : PV) (src r s : List (Nat × PV)) : copyS K K2 src ((i, v) :: r) s = copyS K K2 src r (up s (K2 + (i - K)) (getL src i)) := by
  rw [copyS, getL_eq]
def allLt (k : Nat) : List (Nat × PV) → Bool
  | [] => true
  | (i, _) :: r => if i < k then allLt k r else false
theorem allLt_eq (k : Nat) (s : List (Nat × PV)) : s.all (fun x => decide (x.1 < k)) = allLt k s := by
  induction s with
  | nil => rfl
  | cons x r ih =>
    obtain ⟨i, v⟩ := x
    simp only [List.all_cons, allLt, ih]
    by_cases h : i < k <;> simp [h]
@[push_cast] theorem allLt_nil (k : Nat) : allLt k [] = true := rfl
@[push_cast] theorem allLt_cons (k i : Nat) (v : PV) (r : List (Nat × PV)) : allLt k ((i, v) :: r) = if i < k then allLt k r else false := rfl
@[push_cast] theorem resM_one (st : St) (x : RV) : resM st [x] = x.val st := rfl
@[push_cast] theorem resM_nil (st : St) : resM st [] = (True, .tup []) := by simp [resM]
@[push_cast] theorem resM_two (st : St) (x y : RV) : resM st [x, y] = ((x.val st).1 ∧ (y.val st).1, .tup [(x.val st).2, (y.val st).2]) := by simp [resM]
@[push_cast] theorem resM_three (st : St) (x y z : RV) : resM st [x, y, z] = ((x.val st).1 ∧ (y.val st).1 ∧ (z.val st).1, .tup [(x.val st).2, (y.val st).2, (z.val st).2]) := by simp [resM]
@[push_cast] theorem rv_tmp (st : St) (t : Nat) : RV.val st (.tmp t) = (True, st.get t) := rfl
@[push_cast] theorem retM_r (K : Nat) (rvs : List RV) (Q : PV → St → Prop) (st : St) : retM K rvs Q .ret st = ((resM st rvs).1 ∧ flatB (resM st rvs).2 = true ∧ Q (resM st rvs).2 (st.low K)) := by simp [retM, isEnd]
@[push_cast] theorem retM_n (K : Nat) (rvs : List RV) (Q : PV → St → Prop) (st : St) : retM K rvs Q .normal st = ((resM st rvs).1 ∧ flatB (resM st rvs).2 = true ∧ Q (resM st rvs).2 (st.low K)) := by simp [retM, isEnd]
def bodyK (P : Env) (ass body : AC) (st : St) (K : St → Prop) : Prop := awp P ass (Exit.thn (awp P body fun e st'' => e = .normal ∧ K st'') fun _ _ => False) st
def rngC (P : Env) (ρ : RF) (ps : List Nat) (ass body : AC) (Q : Exit → St → Prop) (st : St) (v : PV) : Prop :=
  match v with
  | .clo f ids => (P.noY ∧ ids.contains ρ.id = false) ∧ FnM ⟨P.p, ρ.K + ρ.n, rngY ρ ps (bodyK P ass body)⟩ f (.yl ρ.id :: ids.map fun i => .ptr i 0) (st.noId ρ.id) fun _ st' => Q .normal ((st'.low (ρ.K + ρ.n)).noId ρ.id)
  | _ => False
@[congr] theorem rngC_congr {P : Env} {ρ : RF} {ps : List Nat} {ass body : AC} {Q : Exit → St → Prop} {st st' : St} {v v' : PV} (h1 : st = st') (h2 : v = v') : rngC P ρ ps ass body Q st v = rngC P ρ ps ass body Q st' v' := by rw [h1, h2]
@[push_cast] theorem a_rngf (P : Env) (Q : Exit → St → Prop) (st : St) (f : Opd) (K n K2 : Nat) (ks : List Nat) (id : Nat) (ps : List Nat) (ass body : AC) :
    awp P (.rngf ⟨f, K, n, K2, ks, id⟩ ps ass body) Q st = (allLt (K + n) st.s = true ∧ rngC P ⟨f, K, n, K2, ks, id⟩ ps ass body Q (st.keepS ks) (f.ev (st.keepS ks))) := by
  simp only [awp, allLt_eq]; rfl
theorem rng_of {P : Env} {ρ : RF} {ps : List Nat} {ass body : AC} {Q : Exit → St → Prop} {st st1 : St} {f : Nat} {ids : List Nat} (hn : P.noY) (hi : ids.contains ρ.id = false) (hst : st.noId ρ.id = st1) {R : PV → St → Prop}
    (h : FnM ⟨P.p, ρ.K + ρ.n, rngY ρ ps (bodyK P ass body)⟩ f (.yl ρ.id :: ptrs ids) st1 R) (hk : ∀ rv st', R rv st' → Q .normal ((st'.low (ρ.K + ρ.n)).noId ρ.id)) : rngC P ρ ps ass body Q st (.clo f ids) := by
  subst hst
  refine ⟨⟨hn, hi⟩, ?_⟩
  rw [ptrs_eq]
  exact FnM.mono h hk
theorem Env.of_noY (P : Program) : (Env.of P).noY := fun _ _ _ _ h => h
theorem rngY_of {ρ : RF} {ps : List Nat} {B : St → (St → Prop) → Prop} {id : Nat} {args : List PV} {s : List (Nat × PV)} {b : List (Nat × List PV)} {a : List (Nat × Arr)} {m : List (Nat × Mp)} {K : St → Prop} (hid : id = ρ.id) (hl : args.length = ps.length) (ha : allLt ρ.K2 s = true)
    (hb : B ⟨setPs ps args (copyS ρ.K ρ.K2 s (midL ρ.K ρ.n s) s), b, a, m⟩ fun st2 => K ((st2.low ρ.K2).gc [0, 0])) : rngY ρ ps B id args ⟨s, b, a, m⟩ K :=
  ⟨hid, hl, by rw [allLt_eq]; exact ha, by simp only [midL_eq]; exact hb⟩
theorem fnM_of {E : Env} {f : Nat} {fn : Func} {ac : AC} {rvs : List RV} {args : List PV} {Q : PV → St → Prop} {s : List (Nat × PV)} {b : List (Nat × List PV)} {a : List (Nat × Arr)} {m : List (Nat × Mp)} (K : Nat) (hf : E.p.funcs[f]? = some fn) (hok : fnOkK E.p K ac rvs fn = true) (hn : args.length ≤ fn.ntmps)
    (hlow : allLt K s = true) (hkk : E.kk ≤ K) (h : awp E ac (retM K rvs Q) ⟨argS K args s, b, a, m⟩) : FnM E f args ⟨s, b, a, m⟩ Q :=
  FnM.of_awp K hf hok hn (by rw [allLt_eq]; exact hlow) hkk h
def onlyL {α : Type} (ks : List Nat) : List (Nat × α) → List (Nat × α)
  | [] => []
  | (i, v) :: r => if inL ks i = true then (i, v) :: onlyL ks r else onlyL ks r
@[push_cast] theorem onlyL_nil {α : Type} (ks : List Nat) : onlyL ks ([] : List (Nat × α)) = [] := rfl
@[push_cast] theorem onlyL_cons {α : Type} (ks : List Nat) (i : Nat) (v : α) (r : List (Nat × α)) : onlyL ks ((i, v) :: r) = if inL ks i = true then (i, v) :: onlyL ks r else onlyL ks r := rfl
theorem onlyL_eq {α : Type} (ks : List Nat) (l : List (Nat × α)) : onlyL ks l = l.filter fun x => inL ks x.1 := by
  induction l with
  | nil => rfl
  | cons x r ih =>
    obtain ⟨i, v⟩ := x
    simp only [onlyL, List.filter_cons, ih]
theorem lk_only {α : Type} {ks : List Nat} {l : List (Nat × α)} {i : Nat} {v : α} (h : lk (onlyL ks l) i = some v) : lk l i = some v := by
  rw [onlyL_eq] at h
  exact lk_filter_le l (fun x => inL ks x.1) (fun _ _ => rfl) i v h
def St.only (st : St) (ks bs ar ms : List Nat) : St := ⟨onlyL ks st.s, onlyL bs st.b, onlyL ar st.a, onlyL ms st.m⟩
@[push_cast] theorem only_mk (s : List (Nat × PV)) (b : List (Nat × List PV)) (a : List (Nat × Arr)) (m : List (Nat × Mp)) (ks bs ar ms : List Nat) : St.only ⟨s, b, a, m⟩ ks bs ar ms = ⟨onlyL ks s, onlyL bs b, onlyL ar a, onlyL ms m⟩ := rfl
theorem FnM.only {E : Env} {f : Nat} {args : List PV} {st : St} {Q : PV → St → Prop} (ks bs ar ms : List Nat) (h : FnM E f args (st.only ks bs ar ms) Q) : FnM E f args st Q :=
  ⟨h.1, fun w0 Z0 X G Z L w vs h1 h2 h3 => h.2 w0 Z0 X G Z L w vs h1 (h2.forget (fun _ _ h => .inl (lk_only h)) (fun _ _ h => lk_only h) (fun _ _ h => lk_only h) (fun _ _ h => lk_only h)) h3⟩
def St.onlyB (st : St) (bs : List Nat) : St := ⟨st.s, onlyL bs st.b, st.a, st.m⟩
@[push_cast] theorem onlyB_mk (s : List (Nat × PV)) (b : List (Nat × List PV)) (a : List (Nat × Arr)) (m : List (Nat × Mp)) (bs : List Nat) : St.onlyB ⟨s, b, a, m⟩ bs = ⟨s, onlyL bs b, a, m⟩ := rfl
theorem FnM.postB {E : Env} {f : Nat} {args : List PV} {st : St} {Q : PV → St → Prop} (bs : PV → List Nat) (h : FnM E f args st fun rv st' => Q rv st') : FnM E f args st fun rv st' => ∃ st1, Q rv st1 ∧ st' = st1.onlyB (bs rv) :=
  ⟨h.1, fun w0 Z0 X G Z L w vs h1 h2 h3 => (h.2 w0 Z0 X G Z L w vs h1 h2 h3).mono fun _ _ ⟨v, r, st', Z', L', e1, e2, e3, e4⟩ =>
    ⟨v, r, st'.onlyB (bs r), Z', L', e1, ⟨st', e2, rfl⟩, e3.forget (fun _ _ h => .inl h) (fun _ _ h => lk_only h) (fun _ _ h => h) (fun _ _ h => h), e4⟩⟩
end Go.Vc
attribute [push_cast] ite_true ite_false Bool.false_eq_true Bool.or_false Bool.false_or Bool.or_true Bool.true_or Bool.and_true Bool.true_and Bool.and_false Bool.false_and cond_true cond_false Nat.zero_add Nat.add_zero Nat.zero_mul Nat.mul_zero Nat.succ_ne_self beq_self_eq_true true_and and_true Int.toNat_natCast Int.cast_ofNat_Int decide_true decide_false Nat.zero_le
namespace Go.Vc
open Go Go.RowKit
def stkC (ls : List (Nat × List (List PV))) : PV := .tup (ls.map fun x => .sl false x.1 x.2)
@[push_cast] theorem toV_stk (pb pa : Nat → Bool) (ls : List (Nat × List (List PV))) : PV.toV pb pa (stkC ls) = false := by
  show (ls.map fun x => PV.sl false x.1 x.2).any (PV.toA pb pa) = false
  rw [List.any_eq_false]
  intro x hx
  obtain ⟨y, _, rfl⟩ := List.mem_map.1 hx
  simp [PV.toA, PV.to]
theorem stk_vr {w : World} {Z : Zone} {L : Lay} {ls : List (Nat × List (List PV))} {v : Value} : VR w Z L (stkC ls) v ↔ ∃ vs : Array Value, v = .tuple vs ∧ vs.size = ls.length ∧ ∀ j x, ls[j]? = some x → TR w Z (.sl false x.1 x.2) (vs.getD j undef) := by
  show (∃ vs : Array Value, v = .tuple vs ∧ vs.size = (ls.map fun x => PV.sl false x.1 x.2).length ∧ ∀ j c, (ls.map fun x => PV.sl false x.1 x.2)[j]? = some c → AR w Z L c (vs.getD j undef)) ↔ _
  constructor
  · rintro ⟨vs, h1, h2, h3⟩
    exact ⟨vs, h1, by simpa using h2, fun j x hx => h3 j (.sl false x.1 x.2) (by rw [List.getElem?_map, hx]; rfl)⟩
  · rintro ⟨vs, h1, h2, h3⟩
    refine ⟨vs, h1, by simpa using h2, fun j c hc => ?_⟩
    rw [List.getElem?_map] at hc
    cases hx : ls[j]? with
    | none => rw [hx] at hc; cases hc
    | some x =>
      rw [hx] at hc
      cases hc
      exact h3 j x hx
theorem Inv.slotG {w0 : World} {Z0 : Zone} {X : Gh} {G : Nat → Value} {Z : Zone} {L : Lay} {st : St} {w : World} (h : Mem w0 Z0 X G Z L st w) {i : Nat} {v : PV} (hl : lk st.s i = some v) : VR w Z L v (G i) := by
  have := h.slots i v hl
  rwa [show Fr.val ⟨0, 0, G, X, false⟩ ⟨#[], []⟩ i = G i from by unfold Fr.val; rw [if_neg (by simp only; omega)]] at this
theorem Inv.setG {w0 : World} {Z0 : Zone} {X : Gh} {G G' : Nat → Value} {Z : Zone} {L : Lay} {s s' : List (Nat × PV)} {b : List (Nat × List PV)} {a : List (Nat × Arr)} {m : List (Nat × Mp)} {w : World}
    (h : Mem w0 Z0 X G Z L ⟨s, b, a, m⟩ w) (hs : ∀ i v, lk s' i = some v → VR w Z L v (G' i)) : Mem w0 Z0 X G' Z L ⟨s', b, a, m⟩ w := by
  refine ⟨h.zt, h.z0, h.zn, h.zb, h.below, h.ownb, h.owna, h.injb, h.inja, h.injx, h.boxes, h.arrs, h.ownm, h.injm, h.maps, h.oth, h.yb, h.size, h.defers, fun i v hl => ?_⟩
  rw [show Fr.val ⟨0, 0, G', X, false⟩ ⟨#[], []⟩ i = G' i from by unfold Fr.val; rw [if_neg (by simp only; omega)]]
  exact hs i v hl
def ptrOf (L : Lay) : PV → Value
  | .ptr id _ => .pointer (some ⟨L.bx id, 0, none⟩)
  | _ => undef
theorem FnM.stk {P : Program} {f : Nat} {args : List PV} {s ps t : List (Nat × PV)} {b : List (Nat × List PV)} {a : List (Nat × Arr)} {m : List (Nat × Mp)} {Q : PV → St → Prop}
    (ls : List (Nat × List (List PV))) (l : Nat × List (List PV)) (i0 : Nat) (h0 : lk s 0 = some (stkC ls)) (h1 : lk s i0 = some (.sl false l.1 l.2)) (hps : ∀ i v, lk ps i = some v → i ≠ 0 ∧ ∃ id, v = .ptr id 0)
    (ht : ∀ i v, lk t i = some v → lk s i = some v ∧ ((∃ x, v = .sc x) ∨ i = 0 ∨ i = i0 ∨ ∃ id k, v = .ptr id 0 ∧ lk ps k = some v))
    (h : FnM (Env.of P) f args ⟨(0, stkC (l :: ls)) :: ps, b, a, m⟩ fun r st' => ∃ b' a' m', st' = ⟨(0, stkC (l :: ls)) :: ps, b', a', m'⟩ ∧ Q r ⟨t, b', a', m'⟩) : FnM (Env.of P) f args ⟨s, b, a, m⟩ Q := by
  refine ⟨h.1, fun w0 Z0 X G Z L w vs h2 h3 h4 => ?_⟩
  obtain ⟨vs0, e0, z0, c0⟩ := stk_vr.1 (Inv.slotG h3 h0)
  have c1 : TR w Z (.sl false l.1 l.2) (G i0) := Inv.slotG h3 h1
  have hz : vs0.size = ls.length := z0
  let G' : Nat → Value := fun i => if i = 0 then .tuple (#[G i0] ++ vs0) else ptrOf L ((lk ps i).getD .bot)
  have hG0 : G' 0 = .tuple (#[G i0] ++ vs0) := if_pos rfl
  have hGi : ∀ i v, lk ps i = some v → G' i = ptrOf L v := fun i v hi => by
    show (if i = 0 then _ else _) = _
    rw [if_neg (hps i v hi).1, hi]
    rfl
  have hm : Mem w0 Z0 X G' Z L ⟨(0, stkC (l :: ls)) :: ps, b, a, m⟩ w := Inv.setG h3 fun i v hl => by
    simp only [lk] at hl
    split at hl
    · rename_i e
      cases hl
      subst e
      rw [hG0]
      refine stk_vr.2 ⟨_, rfl, by simp [hz]; omega, fun j x hx => ?_⟩
      cases j with
      | zero =>
        simp at hx
        subst hx
        rw [Array.getD_eq_getD_getElem?, Array.getElem?_append_left (by simp)]
        exact c1
      | succ j =>
        simp at hx
        have := c0 j x hx
        rw [Array.getD_eq_getD_getElem?] at this ⊢
        rw [Array.getElem?_append_right (by simp)]
        simpa using this
    · obtain ⟨e1, id, rfl⟩ := hps i v hl
      rw [hGi i _ hl]
      rfl
  refine (h.2 w0 Z0 X G' Z L w vs (EnvOK.of P w0 Z0 X G') hm h4).mono ?_
  rintro e w' ⟨v, r, st', Z', L', e1, ⟨b', a', m', rfl, hq⟩, h5, h6⟩
  refine ⟨v, r, _, Z', L', e1, hq, Inv.setG h5 fun i u hl => ?_, h6⟩
  obtain ⟨g1, g2⟩ := ht i u hl
  have hstk : VR w' Z' L' (stkC (l :: ls)) (G' 0) := Inv.slotG h5 (by simp [lk])
  rw [hG0] at hstk
  obtain ⟨vs1, e2, z1, c2⟩ := stk_vr.1 hstk
  injection e2 with e2
  subst e2
  rcases g2 with ⟨x, rfl⟩ | rfl | rfl | ⟨id, k, rfl, hk⟩
  · have := Inv.slotG h3 g1
    have : TR w Z (.sc x) (G i) := this
    show TR w' Z' (.sc x) (G i)
    cases this with
    | sc _ hx => exact .sc _ hx
  · rw [h0] at g1
    cases g1
    rw [e0]
    refine stk_vr.2 ⟨_, rfl, hz, fun j x hx => ?_⟩
    have := c2 (j + 1) x (by simpa using hx)
    rw [Array.getD_eq_getD_getElem?] at this ⊢
    rw [Array.getElem?_append_right (by simp)] at this
    simpa using this
  · rw [h1] at g1
    cases g1
    have := c2 0 l rfl
    rw [Array.getD_eq_getD_getElem?, Array.getElem?_append_left (by simp)] at this
    exact this
  · have p2 : G i = .pointer (some ⟨L.bx id, 0, none⟩) := Inv.slotG h3 g1
    have p3 : VR w' Z' L' (.ptr id 0) (G' k) := Inv.slotG h5 (by simp only [lk]; rw [if_neg (fun e => (hps k _ hk).1 e.symm)]; exact hk)
    rw [hGi k _ hk, show ptrOf L (.ptr id 0) = .pointer (some ⟨L.bx id, 0, none⟩) from rfl, ← p2] at p3
    exact p3
theorem FnM.stk0 {P : Program} {f : Nat} {args : List PV} {s ps t : List (Nat × PV)} {b : List (Nat × List PV)} {a : List (Nat × Arr)} {m : List (Nat × Mp)} {Q : PV → St → Prop}
    (hps : ∀ i v, lk ps i = some v → i ≠ 0 ∧ ∃ id, v = .ptr id 0)
    (ht : ∀ i v, lk t i = some v → lk s i = some v ∧ ((∃ x, v = .sc x) ∨ ∃ id k, v = .ptr id 0 ∧ lk ps k = some v))
    (h : FnM (Env.of P) f args ⟨(0, stkC []) :: ps, b, a, m⟩ fun r st' => ∃ b' a' m', st' = ⟨(0, stkC []) :: ps, b', a', m'⟩ ∧ Q r ⟨t, b', a', m'⟩) : FnM (Env.of P) f args ⟨s, b, a, m⟩ Q := by
  refine ⟨h.1, fun w0 Z0 X G Z L w vs h2 h3 h4 => ?_⟩
  let G' : Nat → Value := fun i => if i = 0 then .tuple #[] else ptrOf L ((lk ps i).getD .bot)
  have hG0 : G' 0 = .tuple #[] := if_pos rfl
  have hGi : ∀ i v, lk ps i = some v → G' i = ptrOf L v := fun i v hi => by
    show (if i = 0 then _ else _) = _
    rw [if_neg (hps i v hi).1, hi]
    rfl
  have hm : Mem w0 Z0 X G' Z L ⟨(0, stkC []) :: ps, b, a, m⟩ w := Inv.setG h3 fun i v hl => by
    simp only [lk] at hl
    split at hl
    · rename_i e
      cases hl
      subst e
      rw [hG0]
      exact stk_vr.2 ⟨_, rfl, rfl, fun j x hx => by simp at hx⟩
    · obtain ⟨e1, id, rfl⟩ := hps i v hl
      rw [hGi i _ hl]
      rfl
  refine (h.2 w0 Z0 X G' Z L w vs (EnvOK.of P w0 Z0 X G') hm h4).mono ?_
  rintro e w' ⟨v, r, st', Z', L', e1, ⟨b', a', m', rfl, hq⟩, h5, h6⟩
  refine ⟨v, r, _, Z', L', e1, hq, Inv.setG h5 fun i u hl => ?_, h6⟩
  obtain ⟨g1, g2⟩ := ht i u hl
  rcases g2 with ⟨x, rfl⟩ | ⟨id, k, rfl, hk⟩
  · have := Inv.slotG h3 g1
    have : TR w Z (.sc x) (G i) := this
    show TR w' Z' (.sc x) (G i)
    cases this with
    | sc _ hx => exact .sc _ hx
  · have p2 : G i = .pointer (some ⟨L.bx id, 0, none⟩) := Inv.slotG h3 g1
    have p3 : VR w' Z' L' (.ptr id 0) (G' k) := Inv.slotG h5 (by simp only [lk]; rw [if_neg (fun e => (hps k _ hk).1 e.symm)]; exact hk)
    rw [hGi k _ hk, show ptrOf L (.ptr id 0) = .pointer (some ⟨L.bx id, 0, none⟩) from rfl, ← p2] at p3
    exact p3
end Go.Vc
