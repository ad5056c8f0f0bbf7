/- VcZm A B C D E: lemmas for PLegal -/
import Derived.Test.YtbdamnfkgdbidaaPart07
import Derived.Test.YtbdamnfkgdbidaaPart08
set_option linter.unusedSimpArgs false
set_option linter.unusedVariables false
/- Vc, part Zm: simp's rules for closures, maps, calls that use the caller's memory. -/
namespace Go.Vc
open Go Go.RowKit

def evL (st : St) : List Opd → List PV
  | [] => []
  | x :: r => x.ev st :: evL st r
theorem evL_eq (st : St) (l : List Opd) : l.map (·.ev st) = evL st l := by induction l <;> simp_all [evL]
@[push_cast] theorem evL_nil (st : St) : evL st [] = [] := rfl
@[push_cast] theorem evL_cons (st : St) (x : Opd) (r : List Opd) : evL st (x :: r) = x.ev st :: evL st r := rfl

def boxI : List PV → List Nat → Option (List Nat)
  | [], acc => some acc
  | .ptr i 0 :: r, acc => boxI r (acc ++ [i])
  | _ :: _, _ => none
theorem boxI_eq : ∀ (l : List PV) (acc : List Nat), boxI l acc = (boxIds l).map (acc ++ ·)
  | [], acc => by simp [boxI, boxIds]
  | c :: r, acc => by
    cases c with
    | ptr i off =>
      cases off with
      | zero =>
        simp only [boxI, boxIds, boxI_eq r]
        cases boxIds r <;> simp
      | succ n => rfl
    | _ => rfl
@[push_cast] theorem boxI_nil (acc : List Nat) : boxI [] acc = some acc := rfl
@[push_cast] theorem boxI_ptr (i : Nat) (r : List PV) (acc : List Nat) : boxI (.ptr i 0 :: r) acc = boxI r (acc ++ [i]) := rfl
attribute [push_cast] List.nil_append List.cons_append
def mkfV (f : Nat) : Option (List Nat) → Prop × PV
  | some [] => (True, .sc (.func (.func f) #[] #[]))
  | some ids => (True, .clo f ids)
  | none => (False, .bot)
@[push_cast] theorem mkfV_nil (f : Nat) : mkfV f (some []) = (True, .sc (.func (.func f) #[] #[])) := rfl
@[push_cast] theorem mkfV_cons (f i : Nat) (r : List Nat) : mkfV f (some (i :: r)) = (True, .clo f (i :: r)) := rfl

def mlkT (ok : Bool) (zero : PV) (o : Option PV) : PV := bif ok then (match o with | some v => .tup [v, .sc (.bool true)] | none => .tup [zero, .sc (.bool false)]) else o.getD zero
@[push_cast] theorem mlkT_tn (zero : PV) : mlkT true zero none = .tup [zero, .sc (.bool false)] := rfl
@[push_cast] theorem mlkT_ts (zero v : PV) : mlkT true zero (some v) = .tup [v, .sc (.bool true)] := rfl
@[push_cast] theorem mlkT_fn (zero : PV) : mlkT false zero none = zero := rfl
@[push_cast] theorem mlkT_fs (zero v : PV) : mlkT false zero (some v) = v := rfl
def mlkM (kd : KD) (ok : Bool) (zero : PV) (kv : Value) : Option Mp → Prop × PV
  | some M => (M.kd = kd ∧ kd.has kv = true, mlkT ok zero (mget M.es kv))
  | none => (False, .bot)
def mlkV (st : St) (kd : KD) (ok : Bool) (zero : PV) : PV → PV → Prop × PV
  | .mp id, .sc kv => mlkM kd ok zero kv (lk st.m id)
  | _, _ => (False, .bot)
@[push_cast] theorem mlkM_some (kd kd' : KD) (ok : Bool) (zero : PV) (kv : Value) (es : List (Value × PV)) (it : Option (Nat × List (Value × PV) × Option (Value × PV))) : mlkM kd ok zero kv (some ⟨kd', es, it⟩) = (kd' = kd ∧ kd.has kv = true, mlkT ok zero (mget es kv)) := rfl
@[push_cast] theorem mlkV_mp (s : List (Nat × PV)) (b : List (Nat × List PV)) (a : List (Nat × Arr)) (m : List (Nat × Mp)) (kd : KD) (ok : Bool) (zero : PV) (id : Nat) (kv : Value) : mlkV ⟨s, b, a, m⟩ kd ok zero (.mp id) (.sc kv) = mlkM kd ok zero kv (lk m id) := rfl
@[push_cast] theorem has_int (k l : IntKind) (n : Int) : KD.has (.int k) (.int l n) = (k == l) := rfl
@[push_cast] theorem has_str (s : ByteArray) : KD.has .str (.string s) = true := rfl
@[push_cast] theorem has_bol (b : Bool) : KD.has .bol (.bool b) = true := rfl
@[push_cast] theorem mget_nil (k : Value) : mget [] k = none := rfl
@[push_cast] theorem mput_nil (k : Value) (v : PV) : mput [] k v = [(k, v)] := rfl

def entO (it : Nat) : Option (Nat × List (Value × PV) × Option (Value × PV)) → Prop × PV
  | some (it', _, some (k, v)) => (it' = it, .tup [.sc k, v])
  | _ => (False, .bot)
def entM (it : Nat) : Option Mp → Prop × PV
  | some M => entO it M.it
  | none => (False, .bot)
def entV (st : St) : PV → Prop × PV
  | .itr id it => entM it (lk st.m id)
  | _ => (False, .bot)
@[push_cast] theorem entM_some (it it' : Nat) (kd : KD) (es l : List (Value × PV)) (k : Value) (v : PV) : entM it (some ⟨kd, es, some (it', l, some (k, v))⟩) = (it' = it, .tup [.sc k, v]) := rfl
@[push_cast] theorem entV_itr (s : List (Nat × PV)) (b : List (Nat × List PV)) (a : List (Nat × Arr)) (m : List (Nat × Mp)) (id it : Nat) : entV ⟨s, b, a, m⟩ (.itr id it) = entM it (lk m id) := rfl
def mlnM : Option Mp → Prop × PV
  | some M => (True, .int M.es.length)
  | none => (False, .bot)
def mlnV (st : St) : PV → Prop × PV
  | .mp id => mlnM (lk st.m id)
  | _ => (False, .bot)
@[push_cast] theorem mlnM_some (kd : KD) (es : List (Value × PV)) (it : Option (Nat × List (Value × PV) × Option (Value × PV))) : mlnM (some ⟨kd, es, it⟩) = (True, .int es.length) := rfl
@[push_cast] theorem mlnV_mp (s : List (Nat × PV)) (b : List (Nat × List PV)) (a : List (Nat × Arr)) (m : List (Nat × Mp)) (id : Nat) : mlnV ⟨s, b, a, m⟩ (.mp id) = mlnM (lk m id) := rfl

def pureVB : PV → Bool
  | .agg cs => pureL cs
  | .sc _ | .nil | .sl .. | .iptr .. => true
  | _ => false
theorem pureVB_eq (v : PV) : pureV v = pureVB v := by cases v <;> first | rfl | simp only [pureV, pureVB, pureL_eq]
@[push_cast] theorem pureVB_agg (cs : List PV) : pureVB (.agg cs) = pureL cs := rfl
@[push_cast] theorem pureVB_sc (v : Value) : pureVB (.sc v) = true := rfl
@[push_cast] theorem pureVB_nil : pureVB .nil = true := rfl
@[push_cast] theorem pureVB_sl (p : Bool) (es : Nat) (xs : List (List PV)) : pureVB (.sl p es xs) = true := rfl
def mupM (s : List (Nat × PV)) (b : List (Nat × List PV)) (a : List (Nat × Arr)) (m : List (Nat × Mp)) (id : Nat) (kd : KD) (kv : Value) (v : PV) : Option Mp → Prop × St
  | some M => ((M.kd = kd ∧ kd.has kv = true) ∧ pureVB v = true, ⟨s, b, a, up m id ⟨kd, mput M.es kv v, none⟩⟩)
  | none => (False, ⟨s, b, a, m⟩)
def mupH (st : St) (kd : KD) (v : PV) : PV → PV → Prop × St
  | .mp id, .sc kv => mupM st.s st.b st.a st.m id kd kv v (lk st.m id)
  | _, _ => (False, st)
@[push_cast] theorem mupM_some (s : List (Nat × PV)) (b : List (Nat × List PV)) (a : List (Nat × Arr)) (m : List (Nat × Mp)) (id : Nat) (kd kd' : KD) (kv : Value) (v : PV) (es : List (Value × PV)) (it : Option (Nat × List (Value × PV) × Option (Value × PV))) :
    mupM s b a m id kd kv v (some ⟨kd', es, it⟩) = ((kd' = kd ∧ kd.has kv = true) ∧ pureVB v = true, ⟨s, b, a, up m id ⟨kd, mput es kv v, none⟩⟩) := rfl
@[push_cast] theorem mupH_mp (s : List (Nat × PV)) (b : List (Nat × List PV)) (a : List (Nat × Arr)) (m : List (Nat × Mp)) (kd : KD) (v : PV) (id : Nat) (kv : Value) : mupH ⟨s, b, a, m⟩ kd v (.mp id) (.sc kv) = mupM s b a m id kd kv v (lk m id) := rfl

def rngM (s : List (Nat × PV)) (b : List (Nat × List PV)) (a : List (Nat × Arr)) (m : List (Nat × Mp)) (i id : Nat) : Option Mp → Prop × St
  | some M => (True, ⟨up s i (.itr id i), b, a, up m id { M with it := some (i, M.es, none) }⟩)
  | none => (False, ⟨s, b, a, m⟩)
def rngH (st : St) (i : Nat) : PV → Prop × St
  | .mp id => rngM (killS (isId i) nul st.s) (rm (killB (isId i) nul st.b) i) st.a (killM (isId i) st.m st.m) i id (lk (killM (isId i) st.m st.m) id)
  | _ => (False, st)
@[push_cast] theorem rngM_some (s : List (Nat × PV)) (b : List (Nat × List PV)) (a : List (Nat × Arr)) (m : List (Nat × Mp)) (i id : Nat) (kd : KD) (es : List (Value × PV)) (it : Option (Nat × List (Value × PV) × Option (Value × PV))) :
    rngM s b a m i id (some ⟨kd, es, it⟩) = (True, ⟨up s i (.itr id i), b, a, up m id ⟨kd, es, some (i, es, none)⟩⟩) := rfl
@[push_cast] theorem rngH_mp (s : List (Nat × PV)) (b : List (Nat × List PV)) (a : List (Nat × Arr)) (m : List (Nat × Mp)) (i id : Nat) : rngH ⟨s, b, a, m⟩ i (.mp id) = rngM (killS (isId i) nul s) (rm (killB (isId i) nul b) i) a (killM (isId i) m m) i id (lk (killM (isId i) m m) id) := rfl

/-! ### Calls: what comes behind them is not turned before the call is known -/
def clmK (P : Env) (d : Option Nat) (f : Nat) (args : List PV) (r : List AO) (st : St) (K : St → Prop) : Prop := FnM P f args st fun rv st' => opsK P r (st'.put d rv) K
@[congr] theorem clmK_congr {P : Env} {d : Option Nat} {f : Nat} {args args' : List PV} {r : List AO} {st st' : St} {K : St → Prop} (h1 : args = args') (h2 : st = st') : clmK P d f args r st K = clmK P d f args' r st' K := by rw [h1, h2]
theorem clm_of {P : Env} {d : Option Nat} {f : Nat} {args : List PV} {r : List AO} {st : St} {K : St → Prop} {Q : PV → St → Prop} (h : FnM P f args st Q) (hk : ∀ rv st', Q rv st' → opsK P r (st'.put d rv) K) : clmK P d f args r st K := FnM.mono h hk
theorem clm_eq {P : Env} {d : Option Nat} {f : Nat} {args : List PV} {r : List AO} {st : St} {K : St → Prop} {v : PV} {st1 : St} (h : FnM P f args st (fun rv st' => rv = v ∧ st' = st1)) (hk : opsK P r (st1.put d v) K) : clmK P d f args r st K :=
  FnM.mono h fun _ _ ⟨e1, e2⟩ => by subst e1; subst e2; exact hk
def pclK (P : Env) (d : Option Nat) (f : Nat) (args : List PV) (r : List AO) (st : St) (K : St → Prop) : Prop := funOk P.p f = true ∧ ∃ post, FnOK P.p f args post ∧ ∀ v, post v → opsK P r (st.put d v) K
@[congr] theorem pclK_congr {P : Env} {d : Option Nat} {f : Nat} {args args' : List PV} {r : List AO} {st st' : St} {K : St → Prop} (h1 : args = args') (h2 : st = st') : pclK P d f args r st K = pclK P d f args' r st' K := by rw [h1, h2]
theorem pcl_of {P : Env} {d : Option Nat} {f : Nat} {args : List PV} {r : List AO} {st : St} {K : St → Prop} {v : PV} (hf : funOk P.p f = true) (hc : FnEq P.p f args v) (h : opsK P r (st.put d v) K) : pclK P d f args r st K :=
  ⟨hf, _, hc, fun u hu => by subst hu; exact h⟩
theorem pcl_sub {P : Env} {d : Option Nat} {f : Nat} {args args' : List PV} {r : List AO} {st : St} {K : St → Prop} {v : PV} (hf : funOk P.p f = true) (hc : FnEq P.p f args' v) (hs : SubL args args') (h : opsK P r (st.put d v) K) : pclK P d f args r st K := pcl_of hf (FnOK.sub hc hs) h
def ylK (P : Env) (d : Option Nat) (id : Nat) (args : List PV) (r : List AO) (st : St) (K : St → Prop) : Prop := ∃ K', P.Y id args st K' ∧ ∀ st', K' st' → opsK P r (st'.put d (.sc (.bool true))) K
@[congr] theorem ylK_congr {P : Env} {d : Option Nat} {id : Nat} {args args' : List PV} {r : List AO} {st st' : St} {K : St → Prop} (h1 : args = args') (h2 : st = st') : ylK P d id args r st K = ylK P d id args' r st' K := by rw [h1, h2]
def clvS (P : Env) (d : Option Nat) (v : PV) (args : List PV) (r : List AO) (st : St) (K : St → Prop) : Prop := clvK P st d v args fun st' => opsK P r st' K
@[congr] theorem clvS_congr {P : Env} {d : Option Nat} {v v' : PV} {args args' : List PV} {r : List AO} {st st' : St} {K : St → Prop} (h0 : v = v') (h1 : args = args') (h2 : st = st') : clvS P d v args r st K = clvS P d v' args' r st' K := by rw [h0, h1, h2]
def nxtS (P : Env) (d : Option Nat) (r : List AO) (K : St → Prop) (st : St) (v : PV) : Prop := nxtK st d v fun st' => opsK P r st' K
@[congr] theorem nxtS_congr {P : Env} {d : Option Nat} {r : List AO} {st st' : St} {K : St → Prop} {v v' : PV} (h1 : st = st') (h2 : v = v') : nxtS P d r K st v = nxtS P d r K st' v' := by rw [h1, h2]
def rsAL (st : St) : List PV → List PV
  | [] => []
  | c :: r => c.rsA st :: rsAL st r
theorem rsAL_eq (st : St) (l : List PV) : l.map (PV.rsA st) = rsAL st l := by induction l <;> simp_all [rsAL]
@[push_cast] theorem rsAL_nil (st : St) : rsAL st [] = [] := rfl
@[push_cast] theorem rsAL_cons (st : St) (c : PV) (r : List PV) : rsAL st (c :: r) = c.rsA st :: rsAL st r := rfl
@[push_cast] theorem rsA_pcl (st : St) (f : Nat) (caps : List PV) : (PV.pcl f caps).rsA st = .pcl f caps := rfl
def rsBL (st : St) : List Nat → List PV
  | [] => []
  | i :: r => rsB st 0 (lk st.b i) :: rsBL st r
@[push_cast] theorem rsBL_nil (st : St) : rsBL st [] = [] := rfl
@[push_cast] theorem rsBL_cons (s : List (Nat × PV)) (b : List (Nat × List PV)) (a : List (Nat × Arr)) (m : List (Nat × Mp)) (i : Nat) (r : List Nat) : rsBL ⟨s, b, a, m⟩ (i :: r) = rsB ⟨s, b, a, m⟩ 0 (lk b i) :: rsBL ⟨s, b, a, m⟩ r := rfl
@[push_cast] theorem rsA_clo (st : St) (f : Nat) (ids : List Nat) : (PV.clo f ids).rsA st = .pcl f (rsBL st ids) := by
  show PV.pcl f (ids.map (rsBox st)) = _
  congr 1
  induction ids with
  | nil => rfl
  | cons i r ih =>
    simp only [List.map_cons, ih, rsBL, rsBox, rs0L_eq]
    cases lk st.b i <;> rfl

section
variable (P : Env) (i : Nat) (d : Option Nat) (r : List AO) (st : St) (K : St → Prop)
@[push_cast] theorem o_mkf (f : Nat) (caps : List Opd) : opsK P (⟨d, none, .mkf f caps⟩ :: r) st K = qS P d (mkfV f (boxI (evL st caps) [])) r st K := by
  have : aev st (.mkf f caps) = mkfV f (boxI (evL st caps) []) := by
    simp only [aev, boxI_eq, evL_eq]
    cases boxIds (evL st caps) with
    | none => rfl
    | some l => cases l <;> rfl
  simp only [opsK, grdK, opK, isHeavy, Bool.false_eq_true, if_false, qS, this]
@[push_cast] theorem o_mlk (kd : KD) (ok : Bool) (zero : PV) (x k : Opd) : opsK P (⟨d, none, .mlk kd ok zero x k⟩ :: r) st K = qS P d (mlkV st kd ok zero (x.ev st) (k.ev st)) r st K := by
  have : aev st (.mlk kd ok zero x k) = mlkV st kd ok zero (x.ev st) (k.ev st) := by
    simp only [aev]
    generalize x.ev st = u
    generalize k.ev st = v
    cases u <;> first | (cases v <;> first | rfl | (simp only [mlkV]; cases lk st.m _ <;> rfl)) | rfl
  simp only [opsK, grdK, opK, isHeavy, Bool.false_eq_true, if_false, qS, this]
@[push_cast] theorem o_ent (x : Opd) : opsK P (⟨d, none, .ent x⟩ :: r) st K = qS P d (entV st (x.ev st)) r st K := by
  have : aev st (.ent x) = entV st (x.ev st) := by
    simp only [aev]
    generalize x.ev st = u
    cases u <;> rfl
  simp only [opsK, grdK, opK, isHeavy, Bool.false_eq_true, if_false, qS, this]
@[push_cast] theorem o_mln (x : Opd) : opsK P (⟨d, none, .mln x⟩ :: r) st K = qS P d (mlnV st (x.ev st)) r st K := by
  have : aev st (.mln x) = mlnV st (x.ev st) := by
    simp only [aev]
    generalize x.ev st = u
    cases u <;> first | rfl | (simp only [mlnV]; cases lk st.m _ <;> rfl)
  simp only [opsK, grdK, opK, isHeavy, Bool.false_eq_true, if_false, qS, this]
@[push_cast] theorem o_mkm (kd : KD) : opsK P (⟨some i, none, .mkm kd⟩ :: r) st K = opsK P r (st.newMap i ⟨kd, [], none⟩) K := by
  simp only [opsK, grdK, opK, hev, isHeavy, if_true, true_and]
@[push_cast] theorem o_mup (kd : KD) (x k v : Opd) : opsK P (⟨none, none, .mup kd x k v⟩ :: r) st K = hS P (mupH st kd (v.ev st) (x.ev st) (k.ev st)) r K := by
  have : hev st none (.mup kd x k v) = mupH st kd (v.ev st) (x.ev st) (k.ev st) := by
    simp only [hev, pureVB_eq]
    generalize x.ev st = u
    generalize k.ev st = q
    cases u <;> first | rfl | (cases q <;> rfl)
  simp only [opsK, grdK, opK, isHeavy, if_true, hS, this]
@[push_cast] theorem o_rng (x : Opd) : opsK P (⟨some i, none, .rng x⟩ :: r) st K = hS P (rngH st i (x.ev st)) r K := by
  have : (hev st (some i) (.rng x)).1 = (rngH st i (x.ev st)).1 ∧ ((hev st (some i) (.rng x)).1 → (hev st (some i) (.rng x)).2 = (rngH st i (x.ev st)).2) := by
    simp only [hev]
    generalize x.ev st = u
    cases u <;> first | exact ⟨rfl, fun _ => rfl⟩ | skip
    rename_i id
    have hkm : (st.kill (fun j => j == i) nul).m = killM (isId i) st.m st.m := by
      simp only [St.kill]
      rw [show (fun x : Nat × Mp => !(fun j => j == i) x.1 && !mpTo st.m (fun j => j == i) x.1) = fun x => !isId i x.1 && !mpTo st.m (isId i) x.1 from rfl, killM_eq]
    have hks : (st.kill (fun j => j == i) nul).s = killS (isId i) nul st.s := by simp only [St.kill, killS_eq]; rfl
    have hkb : (st.kill (fun j => j == i) nul).b = killB (isId i) nul st.b := by simp only [St.kill, killB_eq]; rfl
    simp only [hkm, hks, hkb, rngH]
    cases lk (killM (isId i) st.m st.m) id with
    | none => exact ⟨rfl, fun h => h.elim⟩
    | some M => exact ⟨rfl, fun _ => rfl⟩
  simp only [opsK, grdK, opK, isHeavy, if_true, hS]
  exact propext ⟨fun h => ⟨this.1 ▸ h.1, by rw [← this.2 h.1]; exact h.2⟩, fun h => ⟨this.1 ▸ h.1, by rw [this.2 (this.1 ▸ h.1)]; exact h.2⟩⟩
@[push_cast] theorem o_nxt (x : Opd) : opsK P (⟨d, none, .nxt x⟩ :: r) st K = nxtS P d r K st (x.ev st) := rfl
@[push_cast] theorem o_clm (f : Nat) (args : List Opd) : opsK P (⟨d, none, .clm f args⟩ :: r) st K = clmK P d f (evL st args) r st K := by
  rw [← evL_eq]; rfl
@[push_cast] theorem o_clv (x : Opd) (args : List Opd) : opsK P (⟨d, none, .clv x args⟩ :: r) st K = clvS P d (x.ev st) (evL st args) r st K := by
  rw [← evL_eq]; rfl
@[push_cast] theorem o_niq (neg : Bool) (x : Opd) : opsK P (⟨d, none, .niq neg x⟩ :: r) st K = niqK (x.ev st) (fun b => opsK P r (st.put d (.sc (.bool (bif neg then !b else b)))) K) := rfl
end
section
variable (K : Bool → Prop)
@[push_cast] theorem niqK_nil : niqK .nil K = K true := rfl
@[push_cast] theorem niqK_view (id lo n : Nat) : niqK (.view id lo n) K = K false := rfl
@[push_cast] theorem niqK_cons (p : Bool) (es : Nat) (x : List PV) (xs : List (List PV)) : niqK (.sl p es (x :: xs)) K = K false := rfl
theorem niqK_any {p : Bool} {es : Nat} {xs : List (List PV)} (h : ∀ b, (b = true → xs = []) → K b) : niqK (.sl p es xs) K := by
  cases xs with
  | nil => exact fun b => h b fun _ => rfl
  | cons y r => exact h false fun e => by cases e
end
section
variable (s : List (Nat × PV)) (b : List (Nat × List PV)) (a : List (Nat × Arr)) (m : List (Nat × Mp)) (d : Option Nat) (K : St → Prop)
def nxtM (P : Env) (s : List (Nat × PV)) (b : List (Nat × List PV)) (a : List (Nat × Arr)) (m : List (Nat × Mp)) (d : Option Nat) (r : List AO) (id it : Nat) (K : St → Prop) : Option Mp → Prop
  | some ⟨kd, es, some (it', left, _)⟩ => it' = it ∧ (left = [] → opsK P r ((⟨s, b, a, m⟩ : St).put d (.tup [.sc (.bool false)])) K) ∧
      ∀ (i : Nat) (z : Value × PV), left[i]? = some z → opsK P r ((⟨s, b, a, up m id ⟨kd, es, some (it', left.eraseIdx i, some z)⟩⟩ : St).put d (.tup [.sc (.bool true), .sc z.1, z.2])) K
  | _ => False
@[push_cast] theorem nxtS_itr (P : Env) (r : List AO) (id it : Nat) : nxtS P d r K ⟨s, b, a, m⟩ (.itr id it) = nxtM P s b a m d r id it K (lk m id) := by
  simp only [nxtS, nxtK]
  cases lk m id with
  | none => rfl
  | some M => obtain ⟨kd, es, i⟩ := M; rcases i with _ | ⟨i, l, c⟩ <;> rfl
theorem nxtM_some (P : Env) (r : List AO) (id it it' : Nat) (kd : KD) (es left : List (Value × PV)) (c : Option (Value × PV)) : nxtM P s b a m d r id it K (some ⟨kd, es, some (it', left, c)⟩) = (it' = it ∧ (left = [] → opsK P r ((⟨s, b, a, m⟩ : St).put d (.tup [.sc (.bool false)])) K) ∧
      ∀ (i : Nat) (z : Value × PV), left[i]? = some z → opsK P r ((⟨s, b, a, up m id ⟨kd, es, some (it', left.eraseIdx i, some z)⟩⟩ : St).put d (.tup [.sc (.bool true), .sc z.1, z.2])) K) := rfl
end
def ptrs : List Nat → List PV
  | [] => []
  | i :: r => .ptr i 0 :: ptrs r
theorem ptrs_eq (l : List Nat) : (l.map fun i => PV.ptr i 0) = ptrs l := by induction l <;> simp_all [ptrs]
@[push_cast] theorem ptrs_nil : ptrs [] = [] := rfl
@[push_cast] theorem ptrs_cons (i : Nat) (r : List Nat) : ptrs (i :: r) = .ptr i 0 :: ptrs r := rfl
section
variable (P : Env) (st : St) (d : Option Nat) (args : List PV) (r : List AO) (K : St → Prop)
@[push_cast] theorem clvS_clo (f : Nat) (ids : List Nat) : clvS P d (.clo f ids) args r st K = clmK P d f (args ++ ptrs ids) r st K := by rw [← ptrs_eq]; rfl
@[push_cast] theorem clvS_fn (f : Nat) (u v : Array Value) : clvS P d (.sc (.func (.func f) u v)) args r st K = clmK P d f args r st K := rfl
@[push_cast] theorem clvS_yl (id : Nat) : clvS P d (.yl id) args r st K = ylK P d id args r st K := rfl
@[push_cast] theorem clvS_pcl (f : Nat) (caps : List PV) : clvS P d (.pcl f caps) args r st K = pclK P d f (rsAL st args ++ caps) r st K := by rw [← rsAL_eq]; rfl
end
section
variable (P : Env) (Q : Exit → St → Prop) (st : St)
@[push_cast] theorem a_scope (c : AC) : awp P (.scope c) Q st = awp P c Q st := rfl
@[push_cast] theorem a_label : awp P .label Q st = Q .normal st := rfl
end

/-! ### Cells -/
@[push_cast] theorem cellsOf_clo (f : Nat) (ids : List Nat) : cellsOf (.clo f ids) = [.clo f ids] := rfl
@[push_cast] theorem cellsOk_clo (f : Nat) (ids : List Nat) : cellsOk (.clo f ids) = true := rfl
@[push_cast] theorem flatB_clo (f : Nat) (ids : List Nat) : flatB (.clo f ids) = true := rfl
@[push_cast] theorem cellsOf_mp (i : Nat) : cellsOf (.mp i) = [.mp i] := rfl
@[push_cast] theorem cellsOk_mp (i : Nat) : cellsOk (.mp i) = true := rfl
@[push_cast] theorem flatB_mp (i : Nat) : flatB (.mp i) = true := rfl
@[push_cast] theorem cellsOf_yl (i : Nat) : cellsOf (.yl i) = [.yl i] := rfl
@[push_cast] theorem flatB_yl (i : Nat) : flatB (.yl i) = true := rfl
@[push_cast] theorem cellsOf_itr (i j : Nat) : cellsOf (.itr i j) = [.itr i j] := rfl
@[push_cast] theorem flatB_itr (i j : Nat) : flatB (.itr i j) = true := rfl
@[push_cast] theorem cellsOf_pcl (f : Nat) (cs : List PV) : cellsOf (.pcl f cs) = [.pcl f cs] := rfl
@[push_cast] theorem flatB_pcl (f : Nat) (cs : List PV) : flatB (.pcl f cs) = true := rfl

/-! ### Frames -/
def lowL (k : Nat) : List (Nat × PV) → List (Nat × PV)
  | [] => []
  | (i, v) :: r => if i < k then (i, v) :: lowL k r else lowL k r
theorem lowL_eq (k : Nat) (s : List (Nat × PV)) : s.filter (fun x => decide (x.1 < k)) = lowL k s := by
  induction s with
  | nil => rfl
  | cons x r ih =>
    obtain ⟨i, v⟩ := x
    simp only [List.filter_cons, lowL, ih, decide_eq_true_eq]
@[push_cast] theorem lowL_nil (k : Nat) : lowL k [] = [] := rfl
@[push_cast] theorem lowL_cons (k i : Nat) (v : PV) (r : List (Nat × PV)) : lowL k ((i, v) :: r) = if i < k then (i, v) :: lowL k r else lowL k r := rfl
@[push_cast] theorem low_mk (s : List (Nat × PV)) (b : List (Nat × List PV)) (a : List (Nat × Arr)) (m : List (Nat × Mp)) (k : Nat) : St.low ⟨s, b, a, m⟩ k = ⟨lowL k s, b, a, m⟩ := by simp only [St.low, lowL_eq]
@[push_cast] theorem argS_nil (K : Nat) (s : List (Nat × PV)) : argS K [] s = s := rfl
@[push_cast] theorem argS_cons (K : Nat) (c : PV) (r : List PV) (s : List (Nat × PV)) : argS K (c :: r) s = argS (K + 1) r (up s K c) := rfl
@[push_cast] theorem noId_mk (s : List (Nat × PV)) (b : List (Nat × List PV)) (a : List (Nat × Arr)) (m : List (Nat × Mp)) (i : Nat) : St.noId ⟨s, b, a, m⟩ i = ⟨killS (isId i) nul s, rm (killB (isId i) nul b) i, a, killM (isId i) m m⟩ := by
  simp only [St.noId, St.kill, killS_eq, killB_eq]
  rw [show (fun x : Nat × Mp => !(fun j => j == i) x.1 && !mpTo m (fun j => j == i) x.1) = fun x => !isId i x.1 && !mpTo m (isId i) x.1 from rfl, killM_eq]; rfl
@[push_cast] theorem setPs_nil (vs : List PV) (s : List (Nat × PV)) : setPs [] vs s = s := by cases vs <;> rfl
@[push_cast] theorem setPs_cons (p : Nat) (ps : List Nat) (v : PV) (vs : List PV) (s : List (Nat × PV)) : setPs (p :: ps) (v :: vs) s = setPs ps vs (up s p v) := rfl
def midL (k n : Nat) : List (Nat × PV) → List (Nat × PV)
  | [] => []
  | (i, v) :: r => if k ≤ i ∧ i < k + n then (i, v) :: midL k n r else midL k n r
theorem midL_eq (k n : Nat) (s : List (Nat × PV)) : s.filter (fun x => decide (k ≤ x.1 ∧ x.1 < k + n)) = midL k n s := by
  induction s with
  | nil => rfl
  | cons x r ih =>
    obtain ⟨i, v⟩ := x
    simp only [List.filter_cons, midL, ih, decide_eq_true_eq]
@[push_cast] theorem midL_nil (k n : Nat) : midL k n [] = [] := rfl
@[push_cast] theorem midL_cons (k n i : Nat) (v : PV) (r : List (Nat × PV)) : midL k n ((i, v) :: r) = if k ≤ i ∧ i < k + n then (i, v) :: midL k n r else midL k n r := rfl
@[push_cast] theorem copyS_nil (K K2 : Nat) (src s : List (Nat × PV)) : copyS K K2 src [] s = s := rfl
@[push_cast] theorem copyS_cons (K K2 i : Nat) (v : PV) (src r s : List (Nat × PV)) : copyS K K2 src ((i, v) :: r) s = copyS K K2 src r (up s (K2 + (i - K)) (getL src i)) := by
  rw [copyS, getL_eq]
def allLt (k : Nat) : List (Nat × PV) → Bool
  | [] => true
  | (i, _) :: r => if i < k then allLt k r else false
theorem allLt_eq (k : Nat) (s : List (Nat × PV)) : s.all (fun x => decide (x.1 < k)) = allLt k s := by
  induction s with
  | nil => rfl
  | cons x r ih =>
    obtain ⟨i, v⟩ := x
    simp only [List.all_cons, allLt, ih]
    by_cases h : i < k <;> simp [h]
@[push_cast] theorem allLt_nil (k : Nat) : allLt k [] = true := rfl
@[push_cast] theorem allLt_cons (k i : Nat) (v : PV) (r : List (Nat × PV)) : allLt k ((i, v) :: r) = if i < k then allLt k r else false := rfl
def resL (st : St) : List RV → Prop × List PV
  | [] => (True, [])
  | x :: r => ((x.val st).1 ∧ (resL st r).1, (x.val st).2 :: (resL st r).2)
theorem resM_many (st : St) (x y : RV) (r : List RV) : resM st (x :: y :: r) = ((∀ z ∈ x :: y :: r, (z.val st).1), .tup ((x :: y :: r).map fun z => (z.val st).2)) := rfl
@[push_cast] theorem resM_one (st : St) (x : RV) : resM st [x] = x.val st := rfl
@[push_cast] theorem resM_nil (st : St) : resM st [] = (True, .tup []) := by simp [resM]
@[push_cast] theorem resM_two (st : St) (x y : RV) : resM st [x, y] = ((x.val st).1 ∧ (y.val st).1, .tup [(x.val st).2, (y.val st).2]) := by simp [resM]
@[push_cast] theorem resM_three (st : St) (x y z : RV) : resM st [x, y, z] = ((x.val st).1 ∧ (y.val st).1 ∧ (z.val st).1, .tup [(x.val st).2, (y.val st).2, (z.val st).2]) := by simp [resM]
@[push_cast] theorem rv_tmp (st : St) (t : Nat) : RV.val st (.tmp t) = (True, st.get t) := rfl
theorem retM_ret {K : Nat} {rvs : List RV} {Q : PV → St → Prop} {st : St} (h : (resM st rvs).1 ∧ flatB (resM st rvs).2 = true ∧ Q (resM st rvs).2 (st.low K)) : retM K rvs Q .ret st := ⟨rfl, h⟩
@[push_cast] theorem retM_r (K : Nat) (rvs : List RV) (Q : PV → St → Prop) (st : St) : retM K rvs Q .ret st = ((resM st rvs).1 ∧ flatB (resM st rvs).2 = true ∧ Q (resM st rvs).2 (st.low K)) := by simp [retM, isEnd]
@[push_cast] theorem retM_n (K : Nat) (rvs : List RV) (Q : PV → St → Prop) (st : St) : retM K rvs Q .normal st = ((resM st rvs).1 ∧ flatB (resM st rvs).2 = true ∧ Q (resM st rvs).2 (st.low K)) := by simp [retM, isEnd]
/-! ### Ranges over functions -/
def bodyK (P : Env) (ass body : AC) (st : St) (K : St → Prop) : Prop := awp P ass (Exit.thn (awp P body fun e st'' => e = .normal ∧ K st'') fun _ _ => False) st
def rngC (P : Env) (ρ : RF) (ps : List Nat) (ass body : AC) (Q : Exit → St → Prop) (st : St) (v : PV) : Prop :=
  match v with
  | .clo f ids => (P.noY ∧ ids.contains ρ.id = false) ∧ FnM ⟨P.p, ρ.K + ρ.n, rngY ρ ps (bodyK P ass body)⟩ f (.yl ρ.id :: ids.map fun i => .ptr i 0) (st.noId ρ.id) fun _ st' => Q .normal ((st'.low (ρ.K + ρ.n)).noId ρ.id)
  | _ => False
@[congr] theorem rngC_congr {P : Env} {ρ : RF} {ps : List Nat} {ass body : AC} {Q : Exit → St → Prop} {st st' : St} {v v' : PV} (h1 : st = st') (h2 : v = v') : rngC P ρ ps ass body Q st v = rngC P ρ ps ass body Q st' v' := by rw [h1, h2]
@[push_cast] theorem a_rngf (P : Env) (Q : Exit → St → Prop) (st : St) (f : Opd) (K n K2 : Nat) (ks : List Nat) (id : Nat) (ps : List Nat) (ass body : AC) :
    awp P (.rngf ⟨f, K, n, K2, ks, id⟩ ps ass body) Q st = (allLt (K + n) st.s = true ∧ rngC P ⟨f, K, n, K2, ks, id⟩ ps ass body Q (st.keepS ks) (f.ev (st.keepS ks))) := by
  simp only [awp, allLt_eq]; rfl
theorem rng_of {P : Env} {ρ : RF} {ps : List Nat} {ass body : AC} {Q : Exit → St → Prop} {st st1 : St} {f : Nat} {ids : List Nat} (hn : P.noY) (hi : ids.contains ρ.id = false) (hst : st.noId ρ.id = st1) {R : PV → St → Prop}
    (h : FnM ⟨P.p, ρ.K + ρ.n, rngY ρ ps (bodyK P ass body)⟩ f (.yl ρ.id :: ptrs ids) st1 R) (hk : ∀ rv st', R rv st' → Q .normal ((st'.low (ρ.K + ρ.n)).noId ρ.id)) : rngC P ρ ps ass body Q st (.clo f ids) := by
  subst hst
  refine ⟨⟨hn, hi⟩, ?_⟩
  rw [ptrs_eq]
  exact FnM.mono h hk
theorem Env.of_noY (P : Program) : (Env.of P).noY := fun _ _ _ _ h => h
theorem yl_of {P P0 : Env} {kk : Nat} {ρ : RF} {ps : List Nat} {ass body : AC} {d : Option Nat} {args : List PV} {r : List AO} {s : List (Nat × PV)} {b : List (Nat × List PV)} {a : List (Nat × Arr)} {m : List (Nat × Mp)} {K : St → Prop}
    (hP : P = ⟨P0.p, kk, rngY ρ ps (bodyK P0 ass body)⟩) {id : Nat} (hid : id = ρ.id) (hl : args.length = ps.length) (ha : allLt ρ.K2 s = true) {K' : St → Prop}
    (hb : bodyK P0 ass body ⟨setPs ps args (copyS ρ.K ρ.K2 s (midL ρ.K ρ.n s) s), b, a, m⟩ fun st2 => K' ((st2.low ρ.K2).gc [0, 0])) (hk : ∀ st', K' st' → opsK P r (st'.put d (.sc (.bool true))) K) : ylK P d id args r ⟨s, b, a, m⟩ K := by
  subst hP
  subst hid
  refine ⟨K', ⟨rfl, hl, by rw [allLt_eq]; exact ha, ?_⟩, hk⟩
  simp only [midL_eq]
  exact hb
theorem rngY_of {ρ : RF} {ps : List Nat} {B : St → (St → Prop) → Prop} {id : Nat} {args : List PV} {s : List (Nat × PV)} {b : List (Nat × List PV)} {a : List (Nat × Arr)} {m : List (Nat × Mp)} {K : St → Prop} (hid : id = ρ.id) (hl : args.length = ps.length) (ha : allLt ρ.K2 s = true)
    (hb : B ⟨setPs ps args (copyS ρ.K ρ.K2 s (midL ρ.K ρ.n s) s), b, a, m⟩ fun st2 => K ((st2.low ρ.K2).gc [0, 0])) : rngY ρ ps B id args ⟨s, b, a, m⟩ K :=
  ⟨hid, hl, by rw [allLt_eq]; exact ha, by simp only [midL_eq]; exact hb⟩
/-- A contract with memory, from the text. -/
theorem fnM_of {E : Env} {f : Nat} {fn : Func} {ac : AC} {rvs : List RV} {args : List PV} {Q : PV → St → Prop} {s : List (Nat × PV)} {b : List (Nat × List PV)} {a : List (Nat × Arr)} {m : List (Nat × Mp)} (K : Nat) (hf : E.p.funcs[f]? = some fn) (hok : fnOkK E.p K ac rvs fn = true) (hn : args.length ≤ fn.ntmps)
    (hlow : allLt K s = true) (hkk : E.kk ≤ K) (h : awp E ac (retM K rvs Q) ⟨argS K args s, b, a, m⟩) : FnM E f args ⟨s, b, a, m⟩ Q :=
  FnM.of_awp K hf hok hn (by rw [allLt_eq]; exact hlow) hkk h

/-! ### Saying less of a state at a call -/
def onlyL {α : Type} (ks : List Nat) : List (Nat × α) → List (Nat × α)
  | [] => []
  | (i, v) :: r => if inL ks i = true then (i, v) :: onlyL ks r else onlyL ks r
@[push_cast] theorem onlyL_nil {α : Type} (ks : List Nat) : onlyL ks ([] : List (Nat × α)) = [] := rfl
@[push_cast] theorem onlyL_cons {α : Type} (ks : List Nat) (i : Nat) (v : α) (r : List (Nat × α)) : onlyL ks ((i, v) :: r) = if inL ks i = true then (i, v) :: onlyL ks r else onlyL ks r := rfl
theorem onlyL_eq {α : Type} (ks : List Nat) (l : List (Nat × α)) : onlyL ks l = l.filter fun x => inL ks x.1 := by
  induction l with
  | nil => rfl
  | cons x r ih =>
    obtain ⟨i, v⟩ := x
    simp only [onlyL, List.filter_cons, ih]
theorem lk_only {α : Type} {ks : List Nat} {l : List (Nat × α)} {i : Nat} {v : α} (h : lk (onlyL ks l) i = some v) : lk l i = some v := by
  rw [onlyL_eq] at h
  exact lk_filter_le l (fun x => inL ks x.1) (fun _ _ => rfl) i v h
/-- Of a state, some slots, boxes, arrays and maps alone. -/
def St.only (st : St) (ks bs ar ms : List Nat) : St := ⟨onlyL ks st.s, onlyL bs st.b, onlyL ar st.a, onlyL ms st.m⟩
@[push_cast] theorem only_mk (s : List (Nat × PV)) (b : List (Nat × List PV)) (a : List (Nat × Arr)) (m : List (Nat × Mp)) (ks bs ar ms : List Nat) : St.only ⟨s, b, a, m⟩ ks bs ar ms = ⟨onlyL ks s, onlyL bs b, onlyL ar a, onlyL ms m⟩ := rfl
theorem FnM.only {E : Env} {f : Nat} {args : List PV} {st : St} {Q : PV → St → Prop} (ks bs ar ms : List Nat) (h : FnM E f args (st.only ks bs ar ms) Q) : FnM E f args st Q :=
  ⟨h.1, fun w0 Z0 X G Z L w vs h1 h2 h3 => h.2 w0 Z0 X G Z L w vs h1 (h2.forget (fun _ _ h => .inl (lk_only h)) (fun _ _ h => lk_only h) (fun _ _ h => lk_only h) (fun _ _ h => lk_only h)) h3⟩
/-- Boxes alone are forgotten. -/
def St.onlyB (st : St) (bs : List Nat) : St := ⟨st.s, onlyL bs st.b, st.a, st.m⟩
@[push_cast] theorem onlyB_mk (s : List (Nat × PV)) (b : List (Nat × List PV)) (a : List (Nat × Arr)) (m : List (Nat × Mp)) (bs : List Nat) : St.onlyB ⟨s, b, a, m⟩ bs = ⟨s, onlyL bs b, a, m⟩ := rfl
theorem FnM.postB {E : Env} {f : Nat} {args : List PV} {st : St} {Q : PV → St → Prop} (bs : PV → List Nat) (h : FnM E f args st fun rv st' => Q rv st') : FnM E f args st fun rv st' => ∃ st1, Q rv st1 ∧ st' = st1.onlyB (bs rv) :=
  ⟨h.1, fun w0 Z0 X G Z L w vs h1 h2 h3 => (h.2 w0 Z0 X G Z L w vs h1 h2 h3).mono fun _ _ ⟨v, r, st', Z', L', e1, e2, e3, e4⟩ =>
    ⟨v, r, st'.onlyB (bs r), Z', L', e1, ⟨st', e2, rfl⟩, e3.forget (fun _ _ h => .inl h) (fun _ _ h => lk_only h) (fun _ _ h => h) (fun _ _ h => h), e4⟩⟩
end Go.Vc
attribute [push_cast] ite_true ite_false Bool.false_eq_true Bool.or_false Bool.false_or Bool.or_true Bool.true_or Bool.and_true Bool.true_and Bool.and_false Bool.false_and cond_true cond_false Nat.zero_add Nat.add_zero Nat.zero_mul Nat.mul_zero Nat.succ_ne_self beq_self_eq_true true_and and_true Int.toNat_natCast Int.cast_ofNat_Int decide_true decide_false Nat.zero_le
/- contracts -/
namespace Go.Proofs.Ytbdamnfkgdbidaa
open Go Go.Vc Txt

structure Wire where
  kind : Int
  i : Int
  bit : Int
  deriving DecidableEq, Inhabited
structure Block where
  ins : List Int
  table : Int
  ram : Int
  reg : Int
  key : Int
  deriving DecidableEq, Inhabited
structure Packed where
  ins : List Wire
  blocks : List Block
  out : List Wire
  drive : List Int
  deriving DecidableEq, Inhabited
structure Grid where
  w : Int
  h : Int
  tracks : Int
  pads : Int
  kind : List Int
  deriving DecidableEq, Inhabited
structure Bad where
  tiles : List Int
  nodes : List Int
  deriving DecidableEq, Inhabited
structure Job where
  p : Packed
  g : Grid
  bad : Bad
  deriving DecidableEq, Inhabited

def wireC (w : Wire) : List PV := [.int w.kind, .int w.i, .int w.bit]
def blockC (q : Bool) (b : Block) : List PV := [.sl q 1 (ints b.ins), .int b.table, .int b.ram, .int b.reg, .sc (.int .u64 b.key)]
def gridC (q : Bool) (g : Grid) : List PV := [.int g.w, .int g.h, .int g.tracks, .int g.pads, .sl q 1 (ints g.kind)]
def jobC (q : Bool) (j : Job) : List PV := [.sl q 3 (rows wireC j.p.ins), .sl q 5 (rows (blockC q) j.p.blocks), .sl q 3 (rows wireC j.p.out), .sl q 1 (ints j.p.drive),
  .int j.g.w, .int j.g.h, .int j.g.tracks, .int j.g.pads, .sl q 1 (ints j.g.kind), .sl q 1 (ints j.bad.tiles), .sl q 1 (ints j.bad.nodes)]
@[push_cast] theorem wireC_eq (w : Wire) : wireC w = [.int w.kind, .int w.i, .int w.bit] := rfl
@[push_cast] theorem blockC_eq (q : Bool) (b : Block) : blockC q b = [.sl q 1 (ints b.ins), .int b.table, .int b.ram, .int b.reg, .sc (.int .u64 b.key)] := rfl
@[push_cast] theorem gridC_eq (q : Bool) (g : Grid) : gridC q g = [.int g.w, .int g.h, .int g.tracks, .int g.pads, .sl q 1 (ints g.kind)] := rfl
@[push_cast] theorem jobC_eq (q : Bool) (j : Job) : jobC q j = [.sl q 3 (rows wireC j.p.ins), .sl q 5 (rows (blockC q) j.p.blocks), .sl q 3 (rows wireC j.p.out), .sl q 1 (ints j.p.drive),
  .int j.g.w, .int j.g.h, .int j.g.tracks, .int j.g.pads, .sl q 1 (ints j.g.kind), .sl q 1 (ints j.bad.tiles), .sl q 1 (ints j.bad.nodes)] := rfl

theorem in_ok (l : List Int) (n : Int) (hl : (l.length : Int) ≤ 4611686018427387904) : FnEq Try.prog 26 [.sl false 1 (ints l), .int n] (.bool (decide (n ∈ l))) := by
  refine FnEq.of_awp Try.func26 ok26 (by show 2 ≤ _; decide) (by simp only [push_cast, reduceIte, Nat.reduceEqDiff, Nat.reduceAdd, Nat.reduceSub, Nat.reduceMul, Nat.reduceBEq, Nat.reduceLT, Nat.reduceLeDiff, reduceCtorEq, Int.reduceToNat, Int.reduceNeg] <;> first | exact fun _ _ => trivial | simp) ?_
  simp only [ac26, rv26, push_cast, reduceIte, Nat.reduceEqDiff, Nat.reduceAdd, Nat.reduceSub, Nat.reduceMul, Nat.reduceBEq, Nat.reduceLT, Nat.reduceLeDiff, reduceCtorEq, Int.reduceToNat, Int.reduceNeg]
  refine loop_of (fun m st => ∃ k : Nat, k ≤ l.length ∧ m = l.length - k ∧ n ∉ l.take k ∧ st = ⟨[(0, .sl false 1 (ints l)), (1, .int n), (5, .int k)], [], [], []⟩) l.length ?_ ?_
  · refine ⟨0, by omega, by omega, by simp, ?_⟩
    simp only [push_cast, reduceIte, Nat.reduceEqDiff, Nat.reduceAdd, Nat.reduceSub, Nat.reduceMul, Nat.reduceBEq, Nat.reduceLT, Nat.reduceLeDiff, reduceCtorEq, Int.reduceToNat, Int.reduceNeg]
  · rintro m st ⟨k, hk, rfl, hn, rfl⟩
    simp only [push_cast, reduceIte, Nat.reduceEqDiff, Nat.reduceAdd, Nat.reduceSub, Nat.reduceMul, Nat.reduceBEq, Nat.reduceLT, Nat.reduceLeDiff, reduceCtorEq, Int.reduceToNat, Int.reduceNeg]
    refine cond_dec (fun h => ⟨by omega, by omega, ?_⟩) fun h => ?_
    · have hk' : k < l.length := by omega
      have hg : l.getD k default = l[k] := by simp [hk']
      rw [hg]
      refine cond_dec (fun e => ?_) fun e => ⟨by omega, _, ?_, k + 1, by omega, rfl, ?_, ?_⟩
      · simp [← e]
      · omega
      · rw [List.take_succ_eq_append_getElem hk', List.mem_append, not_or]; exact ⟨hn, fun hm => e (by simpa using Eq.symm (List.mem_singleton.mp hm))⟩
      · simp
    · rw [List.take_of_length_le (by omega)] at hn; simp [hn]

theorem each_ok (g : Grid) (ht : 0 ≤ g.tracks ∧ g.tracks ≤ 1000000) : FnEq Try.prog 31 [.agg (gridC false g)] (.int (6 + 2 * g.tracks)) := by
  refine FnEq.of_awp Try.func31 ok31 (by show 1 ≤ _; decide) (by simp only [push_cast, reduceIte, Nat.reduceEqDiff, Nat.reduceAdd, Nat.reduceSub, Nat.reduceMul, Nat.reduceBEq, Nat.reduceLT, Nat.reduceLeDiff, reduceCtorEq, Int.reduceToNat, Int.reduceNeg] <;> first | exact fun _ _ => trivial | simp) ?_
  simp only [ac31, rv31, push_cast, reduceIte, Nat.reduceEqDiff, Nat.reduceAdd, Nat.reduceSub, Nat.reduceMul, Nat.reduceBEq, Nat.reduceLT, Nat.reduceLeDiff, reduceCtorEq, Int.reduceToNat, Int.reduceNeg]
  omega
theorem fits_ok (j : Job) (h1 : j.p.ins.length ≤ 1000000) (h2 : j.p.out.length ≤ 1000000) : FnEq Try.prog 39 [.agg (jobC false j)] (.bool (decide ((j.p.ins.length : Int) ≤ j.g.pads ∧ (j.p.out.length : Int) ≤ j.g.pads))) := by
  refine FnEq.of_awp Try.func39 ok39 (by show 1 ≤ _; decide) (by simp only [push_cast, reduceIte, Nat.reduceEqDiff, Nat.reduceAdd, Nat.reduceSub, Nat.reduceMul, Nat.reduceBEq, Nat.reduceLT, Nat.reduceLeDiff, reduceCtorEq, Int.reduceToNat, Int.reduceNeg] <;> first | exact fun _ _ => trivial | simp) ?_
  simp only [ac39, rv39, push_cast, reduceIte, Nat.reduceEqDiff, Nat.reduceAdd, Nat.reduceSub, Nat.reduceMul, Nat.reduceBEq, Nat.reduceLT, Nat.reduceLeDiff, reduceCtorEq, Int.reduceToNat, Int.reduceNeg]
  refine grd_dec rfl (fun h => ?_) fun h => ?_ <;> simp only [push_cast, reduceIte, Nat.reduceEqDiff, Nat.reduceAdd, Nat.reduceSub, Nat.reduceMul, Nat.reduceBEq, Nat.reduceLT, Nat.reduceLeDiff, reduceCtorEq, Int.reduceToNat, Int.reduceNeg, h, false_and]
theorem nodup_snoc {l : List Int} {k : Nat} (hk : k < l.length) : (l.take (k + 1)).Nodup ↔ (l.take k).Nodup ∧ l[k] ∉ l.take k := by
  rw [List.take_succ_eq_append_getElem hk, List.nodup_append]
  constructor
  · rintro ⟨h1, _, h2⟩
    exact ⟨h1, fun h => h2 _ h _ (List.mem_singleton.2 rfl) rfl⟩
  · rintro ⟨h1, h2⟩
    refine ⟨h1, by simp, fun a ha b hb e => ?_⟩
    rw [List.mem_singleton] at hb
    subst hb; subst e
    exact h2 ha
theorem is_ok (j : Job) (at_ : List Int) (hl : (at_.length : Int) ≤ 1000000) (hb : (j.p.blocks.length : Int) ≤ 1000000) (hw : 0 ≤ j.g.w * j.g.h ∧ j.g.w * j.g.h ≤ 1000000) :
    FnEq Try.prog 40 [.agg (jobC false j), .sl false 1 (ints at_)] (.bool (decide (at_.length = j.p.blocks.length ∧ (∀ x ∈ at_, 0 ≤ x ∧ x < j.g.w * j.g.h) ∧ at_.Nodup))) := by
  refine FnEq.of_awp Try.func40 ok40 (by show 2 ≤ _; decide) (by simp only [push_cast, reduceIte, Nat.reduceEqDiff, Nat.reduceAdd, Nat.reduceSub, Nat.reduceMul, Nat.reduceBEq, Nat.reduceLT, Nat.reduceLeDiff, reduceCtorEq, Int.reduceToNat, Int.reduceNeg] <;> first | exact fun _ _ => trivial | simp) ?_
  simp only [ac40, rv40, push_cast, reduceIte, Nat.reduceEqDiff, Nat.reduceAdd, Nat.reduceSub, Nat.reduceMul, Nat.reduceBEq, Nat.reduceLT, Nat.reduceLeDiff, reduceCtorEq, Int.reduceToNat, Int.reduceNeg]
  refine cond_dec (fun h => ?_) fun h => ?_
  · rw [decide_eq_false]; intro hh; exact h (by rw [hh.1])
  have h0 : at_.length = j.p.blocks.length := by omega
  refine loop_of (fun m st => ∃ k : Nat, k ≤ at_.length ∧ m = at_.length - k ∧ (∀ x ∈ at_.take k, 0 ≤ x ∧ x < j.g.w * j.g.h) ∧ (at_.take k).Nodup ∧
    st = ⟨[(1, .sl false 1 (ints at_)), (2, .ptr 2 0), (5, .int k)], [(2, jobC false j)], [], []⟩) at_.length ?_ ?_
  · refine ⟨0, by omega, by omega, by simp, by simp, ?_⟩
    simp only [push_cast, reduceIte, Nat.reduceEqDiff, Nat.reduceAdd, Nat.reduceSub, Nat.reduceMul, Nat.reduceBEq, Nat.reduceLT, Nat.reduceLeDiff, reduceCtorEq, Int.reduceToNat, Int.reduceNeg]
  · rintro m st ⟨k, hk, rfl, h1, h2, rfl⟩
    simp only [push_cast, reduceIte, Nat.reduceEqDiff, Nat.reduceAdd, Nat.reduceSub, Nat.reduceMul, Nat.reduceBEq, Nat.reduceLT, Nat.reduceLeDiff, reduceCtorEq, Int.reduceToNat, Int.reduceNeg]
    refine cond_dec (fun h3 => ⟨by omega, by omega, ?_⟩) fun h3 => ?_
    · have hk' : k < at_.length := by omega
      have hg : at_.getD k default = at_[k] := by simp [hk']
      rw [hg]
      refine dgrd_decf rfl (fun h4 => ?_) fun h4 => ?_ <;> simp only [push_cast, reduceIte, Nat.reduceEqDiff, Nat.reduceAdd, Nat.reduceSub, Nat.reduceMul, Nat.reduceBEq, Nat.reduceLT, Nat.reduceLeDiff, reduceCtorEq, Int.reduceToNat, Int.reduceNeg]
      · rw [decide_eq_false]; intro hh; have := hh.2.1 at_[k] (List.getElem_mem hk'); omega
      · refine ⟨by omega, by omega, by omega, ?_⟩
        rw [hg]
        refine dgrd_decf rfl (fun h5 => ?_) fun h5 => ?_ <;> simp only [push_cast, reduceIte, Nat.reduceEqDiff, Nat.reduceAdd, Nat.reduceSub, Nat.reduceMul, Nat.reduceBEq, Nat.reduceLT, Nat.reduceLeDiff, reduceCtorEq, Int.reduceToNat, Int.reduceNeg]
        · rw [decide_eq_false]; intro hh; have := hh.2.1 at_[k] (List.getElem_mem hk'); omega
        · refine ⟨by omega, by omega, by omega, ?_⟩
          rw [hg]
          refine cal_sub (in_ok (at_.take k) at_[k] (by simp; omega)) (by simp only [push_cast, reduceIte, Nat.reduceEqDiff, Nat.reduceAdd, Nat.reduceSub, Nat.reduceMul, Nat.reduceBEq, Nat.reduceLT, Nat.reduceLeDiff, reduceCtorEq, Int.reduceToNat, Int.reduceNeg]) ?_
          simp only [push_cast, reduceIte, Nat.reduceEqDiff, Nat.reduceAdd, Nat.reduceSub, Nat.reduceMul, Nat.reduceBEq, Nat.reduceLT, Nat.reduceLeDiff, reduceCtorEq, Int.reduceToNat, Int.reduceNeg]
          refine cond_dec (fun h6 => ?_) fun h6 => ?_
          · rw [decide_eq_false]; intro hh
            have := (nodup_snoc hk').1 (hh.2.2.sublist (List.take_sublist _ _))
            exact this.2 h6
          · refine ⟨by omega, _, ?_, k + 1, by omega, rfl, ?_, (nodup_snoc hk').2 ⟨h2, h6⟩, ?_⟩
            · omega
            · intro x hx
              rw [List.take_succ_eq_append_getElem hk', List.mem_append, List.mem_singleton] at hx
              rcases hx with hx | rfl
              · exact h1 x hx
              · omega
            · simp
    · rw [List.take_of_length_le (by omega)] at h1 h2
      rw [decide_eq_true ⟨h0, h1, h2⟩]
/-- What the theorems need of a job's numbers. -/
structure Job.Ok (j : Job) : Prop where
  wh : 0 ≤ j.g.w * j.g.h ∧ j.g.w * j.g.h ≤ 1000000
  tr : 0 ≤ j.g.tracks ∧ j.g.tracks ≤ 1000
  kind : (j.g.kind.length : Int) = j.g.w * j.g.h
  nb : (j.p.blocks.length : Int) ≤ 1000
  nin : ∀ b ∈ j.p.blocks, (b.ins.length : Int) ≤ 1000
  ins : (j.p.ins.length : Int) ≤ 1000000
  outs : (j.p.out.length : Int) ≤ 1000000
  tiles : (j.bad.tiles.length : Int) ≤ 1000000
  nodes : (j.bad.nodes.length : Int) ≤ 1000000
  nr : ∀ n ∈ j.bad.nodes, -9223372036854775808 ≤ n ∧ n ≤ 9223372036854775807
  w : 0 < j.g.w ∧ j.g.w ≤ 1000000
  h : 0 < j.g.h ∧ j.g.h ≤ 1000000
  nd : (j.p.drive.length : Int) ≤ 1000
  sb : ∀ b ∈ j.p.blocks, ∀ s ∈ b.ins, 0 ≤ s ∧ s < j.p.ins.length + 2 * j.p.blocks.length
  sd : ∀ s ∈ j.p.drive, 0 ≤ s ∧ s < j.p.ins.length + 2 * j.p.blocks.length

/-- A block fits a tile, as the reference has it. -/
def suitsR (j : Job) (block tile : Int) : Bool :=
  if block < 0 ∨ (j.p.blocks.length : Int) ≤ block ∨ tile < 0 ∨ j.g.w * j.g.h ≤ tile then false
  else
    let b := j.p.blocks.getD block.toNat default
    let k := j.g.kind.getD tile.toNat default
    if k = 0 ∨ (b.ram ≠ -1 ∧ k ≠ 2) ∨ tile ∈ j.bad.tiles then false
    else
      let first := tile * (6 + 2 * j.g.tracks)
      if first ∈ j.bad.nodes ∨ (b.reg ≠ -1 ∧ first + 1 ∈ j.bad.nodes) then false
      else decide (∀ i : Nat, i < b.ins.length → first + 2 + i ∉ j.bad.nodes)

theorem suits_ok (j : Job) (hj : j.Ok) (block tile : Int) : FnEq Try.prog 13 [.agg (jobC false j), .int block, .int tile] (.bool (suitsR j block tile)) := by
  refine FnEq.of_awp Try.func13 ok13 (by show 3 ≤ _; decide) (by simp only [push_cast, reduceIte, Nat.reduceEqDiff, Nat.reduceAdd, Nat.reduceSub, Nat.reduceMul, Nat.reduceBEq, Nat.reduceLT, Nat.reduceLeDiff, reduceCtorEq, Int.reduceToNat, Int.reduceNeg] <;> first | exact fun _ _ => trivial | simp) ?_
  simp only [ac13, rv13, push_cast, reduceIte, Nat.reduceEqDiff, Nat.reduceAdd, Nat.reduceSub, Nat.reduceMul, Nat.reduceBEq, Nat.reduceLT, Nat.reduceLeDiff, reduceCtorEq, Int.reduceToNat, Int.reduceNeg]
  refine cut_of ⟨[(1, .int block), (2, .int tile), (3, .ptr 3 0), (35, .bool (decide (block < 0 ∨ (j.p.blocks.length : Int) ≤ block ∨ tile < 0 ∨ j.g.w * j.g.h ≤ tile)))], [(3, jobC false j)], [], []⟩ ?_ ?_
  · refine grd_decf rfl (fun h1 => ?_) fun h1 => ?_ <;> simp only [push_cast, reduceIte, Nat.reduceEqDiff, Nat.reduceAdd, Nat.reduceSub, Nat.reduceMul, Nat.reduceBEq, Nat.reduceLT, Nat.reduceLeDiff, reduceCtorEq, Int.reduceToNat, Int.reduceNeg]
    · simp [h1]
    refine grd_decf rfl (fun h2 => ?_) fun h2 => ?_ <;> simp only [push_cast, reduceIte, Nat.reduceEqDiff, Nat.reduceAdd, Nat.reduceSub, Nat.reduceMul, Nat.reduceBEq, Nat.reduceLT, Nat.reduceLeDiff, reduceCtorEq, Int.reduceToNat, Int.reduceNeg]
    · simp [h1, h2]
    refine grd_decf rfl (fun h3 => ?_) fun h3 => ?_ <;> simp only [push_cast, reduceIte, Nat.reduceEqDiff, Nat.reduceAdd, Nat.reduceSub, Nat.reduceMul, Nat.reduceBEq, Nat.reduceLT, Nat.reduceLeDiff, reduceCtorEq, Int.reduceToNat, Int.reduceNeg]
    · simp [h1, h2, h3]
    refine ⟨by have := hj.wh; omega, ?_⟩
    simp [h1, h2, h3]
  simp only [push_cast, reduceIte, Nat.reduceEqDiff, Nat.reduceAdd, Nat.reduceSub, Nat.reduceMul, Nat.reduceBEq, Nat.reduceLT, Nat.reduceLeDiff, reduceCtorEq, Int.reduceToNat, Int.reduceNeg]
  refine cond_dec (fun h => ?_) fun h => ?_
  · rw [suitsR, if_pos h]
  have hk := hj.kind
  refine ⟨by omega, by omega, by omega, by omega, ?_⟩
  rw [suitsR, if_neg h]
  have hbm : j.p.blocks.getD block.toNat default ∈ j.p.blocks := by
    have : block.toNat < j.p.blocks.length := by omega
    simp [List.getD_eq_getElem?_getD, this]
  have hbi := hj.nin _ hbm
  generalize j.p.blocks.getD block.toNat default = b at hbi ⊢
  generalize j.g.kind.getD tile.toNat default = k
  refine cut_of ⟨[(2, .int tile), (3, .ptr 3 0), (7, .ptr 7 0), (65, .bool (decide (k = 0 ∨ (b.ram ≠ -1 ∧ k ≠ 2) ∨ tile ∈ j.bad.tiles)))], [(3, jobC false j), (7, blockC false b)], [], []⟩ ?_ ?_
  · have hcall := in_ok j.bad.tiles tile (by have := hj.tiles; omega)
    refine grd_decf rfl (fun h1 => ?_) fun h1 => ?_ <;> simp only [push_cast, reduceIte, Nat.reduceEqDiff, Nat.reduceAdd, Nat.reduceSub, Nat.reduceMul, Nat.reduceBEq, Nat.reduceLT, Nat.reduceLeDiff, reduceCtorEq, Int.reduceToNat, Int.reduceNeg]
    · simp [h1]
    refine grd_dec rfl (fun h2 => ?_) fun h2 => ?_ <;> simp only [push_cast, reduceIte, Nat.reduceEqDiff, Nat.reduceAdd, Nat.reduceSub, Nat.reduceMul, Nat.reduceBEq, Nat.reduceLT, Nat.reduceLeDiff, reduceCtorEq, Int.reduceToNat, Int.reduceNeg]
    · refine grd_decf rfl (fun h3 => ?_) fun h3 => ?_ <;> simp only [push_cast, reduceIte, Nat.reduceEqDiff, Nat.reduceAdd, Nat.reduceSub, Nat.reduceMul, Nat.reduceBEq, Nat.reduceLT, Nat.reduceLeDiff, reduceCtorEq, Int.reduceToNat, Int.reduceNeg]
      · simp [h1, h2, h3]
      · refine cal_sub hcall (by simp only [push_cast, reduceIte, Nat.reduceEqDiff, Nat.reduceAdd, Nat.reduceSub, Nat.reduceMul, Nat.reduceBEq, Nat.reduceLT, Nat.reduceLeDiff, reduceCtorEq, Int.reduceToNat, Int.reduceNeg]) ?_
        simp only [push_cast, reduceIte, Nat.reduceEqDiff, Nat.reduceAdd, Nat.reduceSub, Nat.reduceMul, Nat.reduceBEq, Nat.reduceLT, Nat.reduceLeDiff, reduceCtorEq, Int.reduceToNat, Int.reduceNeg]
        simp [h1, h3]
    · refine cal_sub hcall (by simp only [push_cast, reduceIte, Nat.reduceEqDiff, Nat.reduceAdd, Nat.reduceSub, Nat.reduceMul, Nat.reduceBEq, Nat.reduceLT, Nat.reduceLeDiff, reduceCtorEq, Int.reduceToNat, Int.reduceNeg]) ?_
      simp only [push_cast, reduceIte, Nat.reduceEqDiff, Nat.reduceAdd, Nat.reduceSub, Nat.reduceMul, Nat.reduceBEq, Nat.reduceLT, Nat.reduceLeDiff, reduceCtorEq, Int.reduceToNat, Int.reduceNeg]
      simp [h1, h2]
  simp only [push_cast, reduceIte, Nat.reduceEqDiff, Nat.reduceAdd, Nat.reduceSub, Nat.reduceMul, Nat.reduceBEq, Nat.reduceLT, Nat.reduceLeDiff, reduceCtorEq, Int.reduceToNat, Int.reduceNeg]
  refine cond_dec (fun h1 => ?_) fun h1 => ?_
  · simp [h1]
  rw [if_neg h1]
  have htr := hj.tr
  have hwh := hj.wh
  have hmul : 0 ≤ tile * (6 + 2 * j.g.tracks) ∧ tile * (6 + 2 * j.g.tracks) ≤ 1000000 * 2006 :=
    ⟨Int.mul_nonneg (by omega) (by omega), Int.mul_le_mul (by omega) (by omega) (by omega) (by omega)⟩
  refine cal_sub (each_ok j.g (by omega)) (by simp only [push_cast, reduceIte, Nat.reduceEqDiff, Nat.reduceAdd, Nat.reduceSub, Nat.reduceMul, Nat.reduceBEq, Nat.reduceLT, Nat.reduceLeDiff, reduceCtorEq, Int.reduceToNat, Int.reduceNeg]) ?_
  simp only [push_cast, reduceIte, Nat.reduceEqDiff, Nat.reduceAdd, Nat.reduceSub, Nat.reduceMul, Nat.reduceBEq, Nat.reduceLT, Nat.reduceLeDiff, reduceCtorEq, Int.reduceToNat, Int.reduceNeg]
  generalize tile * (6 + 2 * j.g.tracks) = first at hmul ⊢
  refine ⟨by omega, ?_⟩
  have hno := hj.nodes
  refine cal_sub (in_ok j.bad.nodes first (by omega)) (by simp only [push_cast, reduceIte, Nat.reduceEqDiff, Nat.reduceAdd, Nat.reduceSub, Nat.reduceMul, Nat.reduceBEq, Nat.reduceLT, Nat.reduceLeDiff, reduceCtorEq, Int.reduceToNat, Int.reduceNeg]) ?_
  simp only [push_cast, reduceIte, Nat.reduceEqDiff, Nat.reduceAdd, Nat.reduceSub, Nat.reduceMul, Nat.reduceBEq, Nat.reduceLT, Nat.reduceLeDiff, reduceCtorEq, Int.reduceToNat, Int.reduceNeg]
  refine cut_of ⟨[(3, .ptr 3 0), (7, .ptr 7 0), (9, .int first), (88, .bool (decide (first ∈ j.bad.nodes ∨ (b.reg ≠ -1 ∧ first + 1 ∈ j.bad.nodes))))], [(3, jobC false j), (7, blockC false b)], [], []⟩ ?_ ?_
  · refine grd_decf rfl (fun h2 => ?_) fun h2 => ?_ <;> simp only [push_cast, reduceIte, Nat.reduceEqDiff, Nat.reduceAdd, Nat.reduceSub, Nat.reduceMul, Nat.reduceBEq, Nat.reduceLT, Nat.reduceLeDiff, reduceCtorEq, Int.reduceToNat, Int.reduceNeg]
    · simp [h2]
    refine grd_dec rfl (fun h3 => ?_) fun h3 => ?_ <;> simp only [push_cast, reduceIte, Nat.reduceEqDiff, Nat.reduceAdd, Nat.reduceSub, Nat.reduceMul, Nat.reduceBEq, Nat.reduceLT, Nat.reduceLeDiff, reduceCtorEq, Int.reduceToNat, Int.reduceNeg]
    · refine ⟨by omega, ?_⟩
      refine cal_sub (in_ok j.bad.nodes (first + 1) (by omega)) (by simp only [push_cast, reduceIte, Nat.reduceEqDiff, Nat.reduceAdd, Nat.reduceSub, Nat.reduceMul, Nat.reduceBEq, Nat.reduceLT, Nat.reduceLeDiff, reduceCtorEq, Int.reduceToNat, Int.reduceNeg]) ?_
      simp only [push_cast, reduceIte, Nat.reduceEqDiff, Nat.reduceAdd, Nat.reduceSub, Nat.reduceMul, Nat.reduceBEq, Nat.reduceLT, Nat.reduceLeDiff, reduceCtorEq, Int.reduceToNat, Int.reduceNeg]
      simp [h2, h3]
    · simp [h2, h3]
  simp only [push_cast, reduceIte, Nat.reduceEqDiff, Nat.reduceAdd, Nat.reduceSub, Nat.reduceMul, Nat.reduceBEq, Nat.reduceLT, Nat.reduceLeDiff, reduceCtorEq, Int.reduceToNat, Int.reduceNeg]
  refine cond_dec (fun h2 => ?_) fun h2 => ?_
  · simp [h2]
  rw [if_neg h2]
  refine loop_of (fun m st => ∃ i : Nat, i ≤ b.ins.length ∧ m = b.ins.length - i ∧ (∀ i' : Nat, i' < i → first + 2 + i' ∉ j.bad.nodes) ∧
    st = ⟨[(3, .ptr 3 0), (7, .ptr 7 0), (9, .int first), (10, .int i)], [(3, jobC false j), (7, blockC false b)], [], []⟩) b.ins.length ?_ ?_
  · refine ⟨0, by omega, by omega, fun i' hi' => by omega, ?_⟩
    simp only [push_cast, reduceIte, Nat.reduceEqDiff, Nat.reduceAdd, Nat.reduceSub, Nat.reduceMul, Nat.reduceBEq, Nat.reduceLT, Nat.reduceLeDiff, reduceCtorEq, Int.reduceToNat, Int.reduceNeg]
  · rintro m st ⟨i, hi, rfl, h3, rfl⟩
    simp only [push_cast, reduceIte, Nat.reduceEqDiff, Nat.reduceAdd, Nat.reduceSub, Nat.reduceMul, Nat.reduceBEq, Nat.reduceLT, Nat.reduceLeDiff, reduceCtorEq, Int.reduceToNat, Int.reduceNeg]
    refine cond_dec (fun h4 => ⟨by omega, by omega, ?_⟩) fun h4 => ?_
    · refine cal_sub (in_ok j.bad.nodes (first + 2 + i) (by omega)) (by simp only [push_cast, reduceIte, Nat.reduceEqDiff, Nat.reduceAdd, Nat.reduceSub, Nat.reduceMul, Nat.reduceBEq, Nat.reduceLT, Nat.reduceLeDiff, reduceCtorEq, Int.reduceToNat, Int.reduceNeg]) ?_
      simp only [push_cast, reduceIte, Nat.reduceEqDiff, Nat.reduceAdd, Nat.reduceSub, Nat.reduceMul, Nat.reduceBEq, Nat.reduceLT, Nat.reduceLeDiff, reduceCtorEq, Int.reduceToNat, Int.reduceNeg]
      refine cond_dec (fun h5 => ?_) fun h5 => ⟨by omega, _, ?_, i + 1, by omega, rfl, fun i' hi' => ?_, ?_⟩
      · rw [decide_eq_false]; intro hh; exact hh i (by omega) h5
      · omega
      · by_cases e : i' = i
        · subst e; exact h5
        · exact h3 i' (by omega)
      · simp
    · rw [decide_eq_true]; intro i' hi'; exact h3 i' (by omega)
end Go.Proofs.Ytbdamnfkgdbidaa
/- contracts: Go's library; package placement -/
namespace Go.Proofs.Ytbdamnfkgdbidaa
open Go Go.Vc Txt

/-- The first place of what has a property; -1 if there is none. -/
def fidx (p : Int → Bool) (l : List Int) : Int := match l.findIdx? p with | some k => k | none => -1
theorem fidx_none {p : Int → Bool} {l : List Int} (h : ∀ x ∈ l, p x = false) : fidx p l = -1 := by
  unfold fidx
  rw [List.findIdx?_eq_none_iff.2 h]
theorem fidx_some {p : Int → Bool} {l : List Int} {k : Nat} (hk : k < l.length) (h : ∀ x ∈ l.take k, p x = false) (hp : p l[k] = true) : fidx p l = k := by
  unfold fidx
  rw [List.findIdx?_eq_some_iff_getElem.2 ⟨hk, hp, fun j hj => by
    have : l[j] ∈ l.take k := List.mem_take_iff_getElem.2 ⟨j, by omega, rfl⟩
    simp [h _ this]⟩]
theorem fidx_nonneg {p : Int → Bool} {l : List Int} : 0 ≤ fidx p l ↔ l.any p = true := by
  by_cases h : ∃ x ∈ l, p x = true
  · have : (l.findIdx? p).isSome := by rw [List.findIdx?_isSome, List.any_eq_true]; exact h
    obtain ⟨k, hk⟩ := Option.isSome_iff_exists.1 this
    simp only [fidx, hk, List.any_eq_true]
    constructor
    · intro _; exact h
    · intro _; omega
  · have h' : ∀ x ∈ l, p x = false := fun x hx => by
      cases hp : p x
      · rfl
      · exact absurd ⟨x, hx, hp⟩ h
    rw [fidx_none h', List.any_eq_true]
    constructor
    · intro h; omega
    · intro hh; exact absurd hh h

theorem index_ok (l : List Int) (n : Int) (hl : (l.length : Int) ≤ 4611686018427387904) : FnEq Try.prog 82 [.sl false 1 (ints l), .int n] (.int (fidx (fun x => decide (x = n)) l)) := by
  refine FnEq.of_awp Try.func82 ok82 (by show 2 ≤ _; decide) (by simp only [push_cast, reduceIte, Nat.reduceEqDiff, Nat.reduceAdd, Nat.reduceSub, Nat.reduceMul, Nat.reduceBEq, Nat.reduceLT, Nat.reduceLeDiff, reduceCtorEq, Int.reduceToNat, Int.reduceNeg] <;> first | exact fun _ _ => trivial | simp) ?_
  simp only [ac82, rv82, push_cast, reduceIte, Nat.reduceEqDiff, Nat.reduceAdd, Nat.reduceSub, Nat.reduceMul, Nat.reduceBEq, Nat.reduceLT, Nat.reduceLeDiff, reduceCtorEq, Int.reduceToNat, Int.reduceNeg]
  refine loop_of (fun m st => ∃ k : Nat, k ≤ l.length ∧ m = l.length - k ∧ (∀ x ∈ l.take k, decide (x = n) = false) ∧ st = ⟨[(0, .sl false 1 (ints l)), (1, .int n), (7, .int l.length), (8, .int k)], [], [], []⟩) l.length ?_ ?_
  · refine ⟨0, by omega, by omega, by simp, ?_⟩
    simp only [push_cast, reduceIte, Nat.reduceEqDiff, Nat.reduceAdd, Nat.reduceSub, Nat.reduceMul, Nat.reduceBEq, Nat.reduceLT, Nat.reduceLeDiff, reduceCtorEq, Int.reduceToNat, Int.reduceNeg]
  · rintro m st ⟨k, hk, rfl, hn, rfl⟩
    simp only [push_cast, reduceIte, Nat.reduceEqDiff, Nat.reduceAdd, Nat.reduceSub, Nat.reduceMul, Nat.reduceBEq, Nat.reduceLT, Nat.reduceLeDiff, reduceCtorEq, Int.reduceToNat, Int.reduceNeg]
    refine cond_dec (fun h => ⟨by omega, by omega, ?_⟩) fun h => ?_
    · have hk' : k < l.length := by omega
      have hg : l.getD k default = l[k] := by simp [hk']
      rw [hg]
      refine cond_dec (fun e => ?_) fun e => ⟨by omega, _, ?_, k + 1, by omega, rfl, ?_, ?_⟩
      · rw [fidx_some hk' hn (by simp [e])]
      · omega
      · intro x hx
        rw [List.take_succ_eq_append_getElem hk', List.mem_append, List.mem_singleton] at hx
        rcases hx with hx | rfl
        · exact hn x hx
        · simp [Ne.symm e]
      · simp
    · rw [List.take_of_length_le (by omega)] at hn; rw [fidx_none hn]
theorem contains_ok (l : List Int) (n : Int) (hl : (l.length : Int) ≤ 4611686018427387904) : FnEq Try.prog 64 [.sl false 1 (ints l), .int n] (.bool (decide (n ∈ l))) := by
  refine FnEq.of_awp Try.func64 ok64 (by show 2 ≤ _; decide) (by simp only [push_cast, reduceIte, Nat.reduceEqDiff, Nat.reduceAdd, Nat.reduceSub, Nat.reduceMul, Nat.reduceBEq, Nat.reduceLT, Nat.reduceLeDiff, reduceCtorEq, Int.reduceToNat, Int.reduceNeg] <;> first | exact fun _ _ => trivial | simp) ?_
  simp only [ac64, rv64, push_cast, reduceIte, Nat.reduceEqDiff, Nat.reduceAdd, Nat.reduceSub, Nat.reduceMul, Nat.reduceBEq, Nat.reduceLT, Nat.reduceLeDiff, reduceCtorEq, Int.reduceToNat, Int.reduceNeg]
  refine cal_sub (index_ok l n hl) (by simp only [push_cast, reduceIte, Nat.reduceEqDiff, Nat.reduceAdd, Nat.reduceSub, Nat.reduceMul, Nat.reduceBEq, Nat.reduceLT, Nat.reduceLeDiff, reduceCtorEq, Int.reduceToNat, Int.reduceNeg]) ?_
  simp only [push_cast, reduceIte, Nat.reduceEqDiff, Nat.reduceAdd, Nat.reduceSub, Nat.reduceMul, Nat.reduceBEq, Nat.reduceLT, Nat.reduceLeDiff, reduceCtorEq, Int.reduceToNat, Int.reduceNeg]
  have h := @fidx_nonneg (fun x => decide (x = n)) l
  simp [h]
theorem indexFunc_ok (l : List Int) (p : Int → Bool) (f : Nat) (caps : List PV) (hf : funOk Try.prog f = true) (hp : ∀ x ∈ l, FnEq Try.prog f (.int x :: caps) (.bool (p x))) (hl : (l.length : Int) ≤ 4611686018427387904) :
    FnEq Try.prog 78 [.sl false 1 (ints l), .pcl f caps] (.int (fidx p l)) := by
  refine FnEq.of_awp Try.func78 ok78 (by show 2 ≤ _; decide) (by simp only [push_cast, reduceIte, Nat.reduceEqDiff, Nat.reduceAdd, Nat.reduceSub, Nat.reduceMul, Nat.reduceBEq, Nat.reduceLT, Nat.reduceLeDiff, reduceCtorEq, Int.reduceToNat, Int.reduceNeg] <;> first | exact fun _ _ => trivial | simp) ?_
  simp only [ac78, rv78, push_cast, reduceIte, Nat.reduceEqDiff, Nat.reduceAdd, Nat.reduceSub, Nat.reduceMul, Nat.reduceBEq, Nat.reduceLT, Nat.reduceLeDiff, reduceCtorEq, Int.reduceToNat, Int.reduceNeg]
  refine loop_of (fun m st => ∃ k : Nat, k ≤ l.length ∧ m = l.length - k ∧ (∀ x ∈ l.take k, p x = false) ∧ st = ⟨[(0, .sl false 1 (ints l)), (1, .pcl f caps), (7, .int l.length), (8, .int k)], [], [], []⟩) l.length ?_ ?_
  · refine ⟨0, by omega, by omega, by simp, ?_⟩
    simp only [push_cast, reduceIte, Nat.reduceEqDiff, Nat.reduceAdd, Nat.reduceSub, Nat.reduceMul, Nat.reduceBEq, Nat.reduceLT, Nat.reduceLeDiff, reduceCtorEq, Int.reduceToNat, Int.reduceNeg]
  · rintro m st ⟨k, hk, rfl, hn, rfl⟩
    simp only [push_cast, reduceIte, Nat.reduceEqDiff, Nat.reduceAdd, Nat.reduceSub, Nat.reduceMul, Nat.reduceBEq, Nat.reduceLT, Nat.reduceLeDiff, reduceCtorEq, Int.reduceToNat, Int.reduceNeg]
    refine cond_dec (fun h => ⟨by omega, by omega, ?_⟩) fun h => ?_
    · have hk' : k < l.length := by omega
      have hg : l.getD k default = l[k] := by simp [hk']
      rw [hg]
      refine pcl_sub hf (hp _ (List.getElem_mem hk')) (by simp only [push_cast, reduceIte, Nat.reduceEqDiff, Nat.reduceAdd, Nat.reduceSub, Nat.reduceMul, Nat.reduceBEq, Nat.reduceLT, Nat.reduceLeDiff, reduceCtorEq, Int.reduceToNat, Int.reduceNeg]) ?_
      simp only [push_cast, reduceIte, Nat.reduceEqDiff, Nat.reduceAdd, Nat.reduceSub, Nat.reduceMul, Nat.reduceBEq, Nat.reduceLT, Nat.reduceLeDiff, reduceCtorEq, Int.reduceToNat, Int.reduceNeg]
      refine cond_of (fun e => ?_) fun e => ⟨by omega, _, ?_, k + 1, by omega, rfl, ?_, ?_⟩
      · rw [fidx_some hk' hn e]
      · omega
      · intro x hx
        rw [List.take_succ_eq_append_getElem hk', List.mem_append, List.mem_singleton] at hx
        rcases hx with hx | rfl
        · exact hn x hx
        · exact e
      · simp
    · rw [List.take_of_length_le (by omega)] at hn; rw [fidx_none hn]
theorem containsFunc_ok (l : List Int) (p : Int → Bool) (f : Nat) (caps : List PV) (hf : funOk Try.prog f = true) (hp : ∀ x ∈ l, FnEq Try.prog f (.int x :: caps) (.bool (p x))) (hl : (l.length : Int) ≤ 4611686018427387904) :
    FnEq Try.prog 54 [.sl false 1 (ints l), .pcl f caps] (.bool (l.any p)) := by
  refine FnEq.of_awp Try.func54 ok54 (by show 2 ≤ _; decide) (by simp only [push_cast, reduceIte, Nat.reduceEqDiff, Nat.reduceAdd, Nat.reduceSub, Nat.reduceMul, Nat.reduceBEq, Nat.reduceLT, Nat.reduceLeDiff, reduceCtorEq, Int.reduceToNat, Int.reduceNeg] <;> first | exact fun _ _ => trivial | simp) ?_
  simp only [ac54, rv54, push_cast, reduceIte, Nat.reduceEqDiff, Nat.reduceAdd, Nat.reduceSub, Nat.reduceMul, Nat.reduceBEq, Nat.reduceLT, Nat.reduceLeDiff, reduceCtorEq, Int.reduceToNat, Int.reduceNeg]
  refine cal_sub (indexFunc_ok l p f caps hf hp hl) (by simp only [push_cast, reduceIte, Nat.reduceEqDiff, Nat.reduceAdd, Nat.reduceSub, Nat.reduceMul, Nat.reduceBEq, Nat.reduceLT, Nat.reduceLeDiff, reduceCtorEq, Int.reduceToNat, Int.reduceNeg]) ?_
  simp only [push_cast, reduceIte, Nat.reduceEqDiff, Nat.reduceAdd, Nat.reduceSub, Nat.reduceMul, Nat.reduceBEq, Nat.reduceLT, Nat.reduceLeDiff, reduceCtorEq, Int.reduceToNat, Int.reduceNeg]
  have h := @fidx_nonneg p l
  congr 2
  rw [Bool.eq_iff_iff, decide_eq_true_iff, h]

/-- A node is one that a block on a tile uses. -/
def pinB (b : Block) (first n : Int) : Bool := decide (n = first ∨ (n = first + 1 ∧ b.reg ≠ -1) ∨ (first + 2 ≤ n ∧ n < first + 2 + b.ins.length))
theorem wrap_i64 (x : Int) : IntKind.wrap .i64 x = if x % 18446744073709551616 ≥ 9223372036854775808 then x % 18446744073709551616 - 18446744073709551616 else x % 18446744073709551616 := by
  unfold IntKind.wrap
  have h1 : (2 ^ IntKind.i64.bits : Int) = 18446744073709551616 := by decide
  have h2 : (2 ^ (IntKind.i64.bits - 1) : Int) = 9223372036854775808 := by decide
  have h3 : IntKind.i64.signed = true := rfl
  simp only [h1, h2, h3, Bool.true_and, decide_eq_true_eq]
theorem pin_ok (b : Block) (first n : Int) (hb : (b.ins.length : Int) ≤ 1000000) (hf : 0 ≤ first ∧ first ≤ 1000000000000) (hn : -9223372036854775808 ≤ n ∧ n ≤ 9223372036854775807) :
    FnEq Try.prog 65 [.int n, .iptr false [.int first] 0, .iptr false (blockC false b) 0] (.bool (pinB b first n)) := by
  refine FnEq.of_awp Try.func65 ok65 (by show 3 ≤ _; decide) (by simp only [push_cast, reduceIte, Nat.reduceEqDiff, Nat.reduceAdd, Nat.reduceSub, Nat.reduceMul, Nat.reduceBEq, Nat.reduceLT, Nat.reduceLeDiff, reduceCtorEq, Int.reduceToNat, Int.reduceNeg] <;> first | exact fun _ _ => trivial | simp) ?_
  simp only [ac65, rv65, push_cast, reduceIte, Nat.reduceEqDiff, Nat.reduceAdd, Nat.reduceSub, Nat.reduceMul, Nat.reduceBEq, Nat.reduceLT, Nat.reduceLeDiff, reduceCtorEq, Int.reduceToNat, Int.reduceNeg]
  have hlen : 0 ≤ (b.ins.length : Int) := by omega
  rw [wrap_i64]
  generalize hk : (if (n - first) % 18446744073709551616 ≥ 9223372036854775808 then (n - first) % 18446744073709551616 - 18446744073709551616 else (n - first) % 18446744073709551616) = k
  have hk' : (n - first < -9223372036854775808 ∧ k = n - first + 18446744073709551616) ∨ (-9223372036854775808 ≤ n - first ∧ k = n - first) := by omega
  clear hk
  have e1 : n = first ↔ k = 0 := by omega
  have e2 : n = first + 1 ↔ k = 1 := by omega
  have e3 : (first + 2 ≤ n ∧ n < first + 2 + b.ins.length) ↔ (2 ≤ k ∧ k < 2 + b.ins.length) := by omega
  have hp : pinB b first n = decide (k = 0 ∨ (k = 1 ∧ b.reg ≠ -1) ∨ (2 ≤ k ∧ k < 2 + b.ins.length)) := by unfold pinB; rw [decide_eq_decide, e1, e2, e3]
  rw [hp]
  have hw : IntKind.wrap .i64 (2 + (b.ins.length : Int)) = 2 + b.ins.length := by rw [wrap_i64]; omega
  (repeat' (first | (refine grd_dec rfl (fun _ => ?_) fun _ => ?_ <;> simp only [push_cast, reduceIte, Nat.reduceEqDiff, Nat.reduceAdd, Nat.reduceSub, Nat.reduceMul, Nat.reduceBEq, Nat.reduceLT, Nat.reduceLeDiff, reduceCtorEq, Int.reduceToNat, Int.reduceNeg]) | (refine grd_decf rfl (fun _ => ?_) fun _ => ?_ <;> simp only [push_cast, reduceIte, Nat.reduceEqDiff, Nat.reduceAdd, Nat.reduceSub, Nat.reduceMul, Nat.reduceBEq, Nat.reduceLT, Nat.reduceLeDiff, reduceCtorEq, Int.reduceToNat, Int.reduceNeg])))
  all_goals try rw [hw]
  all_goals (refine congrArg Value.bool ?_; first | rfl | (rw [decide_eq_decide]; omega) | (rw [eq_comm, decide_eq_true_iff]; omega) | (rw [eq_comm, decide_eq_false_iff_not]; omega) | (simp [*]; done))

theorem pins_any (b : Block) (first : Int) (l : List Int) : l.any (pinB b first) = true ↔ (first ∈ l ∨ (b.reg ≠ -1 ∧ first + 1 ∈ l)) ∨ ¬ ∀ i : Nat, i < b.ins.length → first + 2 + i ∉ l := by
  rw [List.any_eq_true]
  constructor
  · rintro ⟨n, hn, hp⟩
    simp only [pinB, decide_eq_true_eq] at hp
    rcases hp with rfl | ⟨rfl, h⟩ | ⟨h1, h2⟩
    · exact .inl (.inl hn)
    · exact .inl (.inr ⟨h, hn⟩)
    · refine .inr fun h => h (n - first - 2).toNat (by omega) ?_
      have : first + 2 + ((n - first - 2).toNat : Int) = n := by omega
      rw [this]; exact hn
  · rintro ((h | ⟨h1, h2⟩) | h)
    · exact ⟨_, h, by simp [pinB]⟩
    · exact ⟨_, h2, by simp [pinB, h1]⟩
    · have ⟨i, hi⟩ := Classical.not_forall.1 h
      have ⟨h1, h2⟩ := Classical.not_imp.1 hi
      exact ⟨_, Classical.not_not.1 h2, by simp only [pinB, decide_eq_true_eq]; omega⟩

theorem psuits_ok (j : Job) (hj : j.Ok) (block tile : Int) : FnEq Try.prog 37 [.agg (jobC false j), .int block, .int tile] (.bool (suitsR j block tile)) := by
  refine FnEq.of_awp Try.func37 ok37 (by show 3 ≤ _; decide) (by simp only [push_cast, reduceIte, Nat.reduceEqDiff, Nat.reduceAdd, Nat.reduceSub, Nat.reduceMul, Nat.reduceBEq, Nat.reduceLT, Nat.reduceLeDiff, reduceCtorEq, Int.reduceToNat, Int.reduceNeg] <;> first | exact fun _ _ => trivial | simp) ?_
  simp only [ac37, rv37, push_cast, reduceIte, Nat.reduceEqDiff, Nat.reduceAdd, Nat.reduceSub, Nat.reduceMul, Nat.reduceBEq, Nat.reduceLT, Nat.reduceLeDiff, reduceCtorEq, Int.reduceToNat, Int.reduceNeg]
  refine cut_of ⟨[(1, .int block), (2, .int tile), (3, .ptr 3 0), (31, .bool (decide (block < 0 ∨ (j.p.blocks.length : Int) ≤ block ∨ tile < 0 ∨ j.g.w * j.g.h ≤ tile)))], [(3, jobC false j)], [], []⟩ ?_ ?_
  · have hk := hj.kind
    (repeat' (first | (refine grd_dec rfl (fun _ => ?_) fun _ => ?_ <;> simp only [push_cast, reduceIte, Nat.reduceEqDiff, Nat.reduceAdd, Nat.reduceSub, Nat.reduceMul, Nat.reduceBEq, Nat.reduceLT, Nat.reduceLeDiff, reduceCtorEq, Int.reduceToNat, Int.reduceNeg]) | (refine grd_decf rfl (fun _ => ?_) fun _ => ?_ <;> simp only [push_cast, reduceIte, Nat.reduceEqDiff, Nat.reduceAdd, Nat.reduceSub, Nat.reduceMul, Nat.reduceBEq, Nat.reduceLT, Nat.reduceLeDiff, reduceCtorEq, Int.reduceToNat, Int.reduceNeg])))
    all_goals first | rfl | simp [*] | done
  simp only [push_cast, reduceIte, Nat.reduceEqDiff, Nat.reduceAdd, Nat.reduceSub, Nat.reduceMul, Nat.reduceBEq, Nat.reduceLT, Nat.reduceLeDiff, reduceCtorEq, Int.reduceToNat, Int.reduceNeg]
  refine cond_dec (fun h => ?_) fun h => ?_
  · rw [suitsR, if_pos h]
  have hk := hj.kind
  rw [suitsR, if_neg h]
  refine ⟨by omega, by omega, by omega, by omega, ?_⟩
  have hbm : j.p.blocks.getD block.toNat default ∈ j.p.blocks := by
    have : block.toNat < j.p.blocks.length := by omega
    simp [List.getD_eq_getElem?_getD, this]
  have hbi := hj.nin _ hbm
  generalize j.p.blocks.getD block.toNat default = b at hbi ⊢
  generalize j.g.kind.getD tile.toNat default = k
  have hcall := contains_ok j.bad.tiles tile (by have := hj.tiles; omega)
  refine cut_of ⟨[(2, .int tile), (3, .ptr 3 0), (7, .ptr 7 0), (61, .bool (decide (k = 0 ∨ (b.ram ≠ -1 ∧ k ≠ 2) ∨ tile ∈ j.bad.tiles)))], [(3, jobC false j), (7, blockC false b)], [], []⟩ ?_ ?_
  · refine grd_decf rfl (fun h1 => ?_) fun h1 => ?_ <;> simp only [push_cast, reduceIte, Nat.reduceEqDiff, Nat.reduceAdd, Nat.reduceSub, Nat.reduceMul, Nat.reduceBEq, Nat.reduceLT, Nat.reduceLeDiff, reduceCtorEq, Int.reduceToNat, Int.reduceNeg]
    · simp [h1]
    refine grd_dec rfl (fun h2 => ?_) fun h2 => ?_ <;> simp only [push_cast, reduceIte, Nat.reduceEqDiff, Nat.reduceAdd, Nat.reduceSub, Nat.reduceMul, Nat.reduceBEq, Nat.reduceLT, Nat.reduceLeDiff, reduceCtorEq, Int.reduceToNat, Int.reduceNeg]
    · refine grd_decf rfl (fun h3 => ?_) fun h3 => ?_ <;> simp only [push_cast, reduceIte, Nat.reduceEqDiff, Nat.reduceAdd, Nat.reduceSub, Nat.reduceMul, Nat.reduceBEq, Nat.reduceLT, Nat.reduceLeDiff, reduceCtorEq, Int.reduceToNat, Int.reduceNeg]
      · simp [h1, h2, h3]
      · refine cal_sub hcall (by simp only [push_cast, reduceIte, Nat.reduceEqDiff, Nat.reduceAdd, Nat.reduceSub, Nat.reduceMul, Nat.reduceBEq, Nat.reduceLT, Nat.reduceLeDiff, reduceCtorEq, Int.reduceToNat, Int.reduceNeg]) ?_
        simp only [push_cast, reduceIte, Nat.reduceEqDiff, Nat.reduceAdd, Nat.reduceSub, Nat.reduceMul, Nat.reduceBEq, Nat.reduceLT, Nat.reduceLeDiff, reduceCtorEq, Int.reduceToNat, Int.reduceNeg]
        simp [h1, h3]
    · refine cal_sub hcall (by simp only [push_cast, reduceIte, Nat.reduceEqDiff, Nat.reduceAdd, Nat.reduceSub, Nat.reduceMul, Nat.reduceBEq, Nat.reduceLT, Nat.reduceLeDiff, reduceCtorEq, Int.reduceToNat, Int.reduceNeg]) ?_
      simp only [push_cast, reduceIte, Nat.reduceEqDiff, Nat.reduceAdd, Nat.reduceSub, Nat.reduceMul, Nat.reduceBEq, Nat.reduceLT, Nat.reduceLeDiff, reduceCtorEq, Int.reduceToNat, Int.reduceNeg]
      simp [h1, h2]
  simp only [push_cast, reduceIte, Nat.reduceEqDiff, Nat.reduceAdd, Nat.reduceSub, Nat.reduceMul, Nat.reduceBEq, Nat.reduceLT, Nat.reduceLeDiff, reduceCtorEq, Int.reduceToNat, Int.reduceNeg]
  refine cond_dec (fun h1 => ?_) fun h1 => ?_
  · simp [h1]
  rw [if_neg h1]
  have htr := hj.tr
  have hwh := hj.wh
  have hmul : 0 ≤ tile * (6 + 2 * j.g.tracks) ∧ tile * (6 + 2 * j.g.tracks) ≤ 1000000 * 2006 :=
    ⟨Int.mul_nonneg (by omega) (by omega), Int.mul_le_mul (by omega) (by omega) (by omega) (by omega)⟩
  generalize hf : tile * (6 + 2 * j.g.tracks) = first at hmul ⊢
  refine ⟨by omega, by omega, by omega, ?_⟩
  have hno := hj.nodes
  refine cal_sub (containsFunc_ok j.bad.nodes (pinB b first) 65 [.iptr false [.int first] 0, .iptr false (blockC false b) 0] (by kernel_rfl) (fun x hx => pin_ok b first x (by omega) (by omega) (hj.nr x hx)) (by omega)) (by simp only [push_cast, reduceIte, Nat.reduceEqDiff, Nat.reduceAdd, Nat.reduceSub, Nat.reduceMul, Nat.reduceBEq, Nat.reduceLT, Nat.reduceLeDiff, reduceCtorEq, Int.reduceToNat, Int.reduceNeg]) ?_
  simp only [push_cast, reduceIte, Nat.reduceEqDiff, Nat.reduceAdd, Nat.reduceSub, Nat.reduceMul, Nat.reduceBEq, Nat.reduceLT, Nat.reduceLeDiff, reduceCtorEq, Int.reduceToNat, Int.reduceNeg]
  refine congrArg Value.bool ?_
  have h2 := pins_any b first j.bad.nodes
  by_cases h3 : first ∈ j.bad.nodes ∨ (b.reg ≠ -1 ∧ first + 1 ∈ j.bad.nodes)
  · rw [if_pos h3, h2.2 (.inl h3)]; rfl
  · rw [if_neg h3]
    by_cases h4 : ∀ i : Nat, i < b.ins.length → first + 2 + i ∉ j.bad.nodes
    · rw [decide_eq_true h4, Bool.not_eq_true', ← Bool.not_eq_true, h2]
      exact fun h => h.elim h3 fun h => h h4
    · rw [decide_eq_false h4, h2.2 (.inr h4)]; rfl
end Go.Proofs.Ytbdamnfkgdbidaa
/- contracts: package placement -/
namespace Go.Proofs.Ytbdamnfkgdbidaa
open Go Go.Vc Txt

def Fits (j : Job) : Prop := (j.p.ins.length : Int) ≤ j.g.pads ∧ (j.p.out.length : Int) ≤ j.g.pads
instance (j : Job) : Decidable (Fits j) := by unfold Fits; infer_instance
def IsPl (j : Job) (at_ : List Int) : Prop := at_.length = j.p.blocks.length ∧ (∀ x ∈ at_, 0 ≤ x ∧ x < j.g.w * j.g.h) ∧ at_.Nodup
instance (j : Job) (at_ : List Int) : Decidable (IsPl j at_) := by unfold IsPl; infer_instance

theorem pfits_ok (j : Job) (h1 : j.p.ins.length ≤ 1000000) (h2 : j.p.out.length ≤ 1000000) : FnEq Try.prog 66 [.agg (jobC false j)] (.bool (decide (Fits j))) := by
  refine FnEq.of_awp Try.func66 ok66 (by show 1 ≤ _; decide) (by simp only [push_cast, reduceIte, Nat.reduceEqDiff, Nat.reduceAdd, Nat.reduceSub, Nat.reduceMul, Nat.reduceBEq, Nat.reduceLT, Nat.reduceLeDiff, reduceCtorEq, Int.reduceToNat, Int.reduceNeg] <;> first | exact fun _ _ => trivial | simp) ?_
  simp only [ac66, rv66, push_cast, reduceIte, Nat.reduceEqDiff, Nat.reduceAdd, Nat.reduceSub, Nat.reduceMul, Nat.reduceBEq, Nat.reduceLT, Nat.reduceLeDiff, reduceCtorEq, Int.reduceToNat, Int.reduceNeg]
  refine congrArg Value.bool (decide_eq_decide.2 ?_)
  unfold Fits
  omega
theorem placed_ok (j : Job) (hj : j.Ok) (at_ : List Int) (hl : (at_.length : Int) ≤ 1000000) :
    FnEq Try.prog 67 [.agg (jobC false j), .sl false 1 (ints at_)] (.bool (decide (IsPl j at_))) := by
  refine FnEq.of_awp Try.func67 ok67 (by show 2 ≤ _; decide) (by simp only [push_cast, reduceIte, Nat.reduceEqDiff, Nat.reduceAdd, Nat.reduceSub, Nat.reduceMul, Nat.reduceBEq, Nat.reduceLT, Nat.reduceLeDiff, reduceCtorEq, Int.reduceToNat, Int.reduceNeg] <;> first | exact fun _ _ => trivial | simp) ?_
  simp only [ac67, rv67, push_cast, reduceIte, Nat.reduceEqDiff, Nat.reduceAdd, Nat.reduceSub, Nat.reduceMul, Nat.reduceBEq, Nat.reduceLT, Nat.reduceLeDiff, reduceCtorEq, Int.reduceToNat, Int.reduceNeg]
  have hk := hj.kind
  have hwh := hj.wh
  refine ⟨⟨by omega, by omega, by omega, by omega⟩, ?_⟩
  refine loop_of (fun m st => ∃ k : Nat, k ≤ at_.length ∧ m = at_.length - k ∧ (∀ x ∈ at_.take k, 0 ≤ x ∧ x < j.g.w * j.g.h) ∧ (at_.take k).Nodup ∧
    ∃ u : List Bool, u.length = j.g.kind.length ∧ (∀ i : Nat, i < u.length → u.getD i default = decide ((i : Int) ∈ at_.take k)) ∧
    st = ⟨[(1, .sl false 1 (ints at_)), (2, .ptr 2 0), (5, .view 12 0 u.length), (13, .sl false 1 (ints at_)), (14, .int at_.length), (15, .int k)], [(2, jobC false j)], [(12, ⟨1, 4, rows boolC u⟩)], []⟩) at_.length ?_ ?_
  · refine ⟨0, by omega, by omega, by simp, by simp, List.replicate j.g.kind.length false, by simp, fun i hi => by simp at hi ⊢; rw [List.getElem?_replicate, if_pos hi]; rfl, ?_⟩
    simp only [push_cast, reduceIte, Nat.reduceEqDiff, Nat.reduceAdd, Nat.reduceSub, Nat.reduceMul, Nat.reduceBEq, Nat.reduceLT, Nat.reduceLeDiff, reduceCtorEq, Int.reduceToNat, Int.reduceNeg, List.length_replicate]
  · rintro m st ⟨k, hk, rfl, h1, h2, u, h3, h4, rfl⟩
    simp only [push_cast, reduceIte, Nat.reduceEqDiff, Nat.reduceAdd, Nat.reduceSub, Nat.reduceMul, Nat.reduceBEq, Nat.reduceLT, Nat.reduceLeDiff, reduceCtorEq, Int.reduceToNat, Int.reduceNeg]
    refine cond_dec (fun h => ⟨by omega, by omega, ?_⟩) fun h => ?_
    · have hk' : k < at_.length := by omega
      have hg : at_.getD k default = at_[k] := by simp [hk']
      rw [hg]
      generalize hx : at_[k] = x
      refine cut_of ⟨[(1, .sl false 1 (ints at_)), (2, .ptr 2 0), (5, .view 12 0 u.length), (7, .int x), (13, .sl false 1 (ints at_)), (14, .int at_.length), (15, .int k), (32, .bool (decide (x < 0 ∨ j.g.w * j.g.h ≤ x ∨ x ∈ at_.take k)))], [(2, jobC false j)], [(12, ⟨1, 4, rows boolC u⟩)], []⟩ ?_ ?_
      · refine grd_decf rfl (fun h5 => ?_) fun h5 => ?_ <;> simp only [push_cast, reduceIte, Nat.reduceEqDiff, Nat.reduceAdd, Nat.reduceSub, Nat.reduceMul, Nat.reduceBEq, Nat.reduceLT, Nat.reduceLeDiff, reduceCtorEq, Int.reduceToNat, Int.reduceNeg]
        · simp [h5]
        refine grd_decf rfl (fun h6 => ?_) fun h6 => ?_ <;> simp only [push_cast, reduceIte, Nat.reduceEqDiff, Nat.reduceAdd, Nat.reduceSub, Nat.reduceMul, Nat.reduceBEq, Nat.reduceLT, Nat.reduceLeDiff, reduceCtorEq, Int.reduceToNat, Int.reduceNeg]
        · have : j.g.w * j.g.h ≤ x := by omega
          simp [this]
        have h7 : x.toNat < u.length := by omega
        refine ⟨⟨by omega, by omega⟩, by omega, ?_⟩
        rw [h4 _ h7, Int.toNat_of_nonneg (by omega)]
        have : ¬ j.g.w * j.g.h ≤ x := by omega
        simp [h5, this]
      simp only [push_cast, reduceIte, Nat.reduceEqDiff, Nat.reduceAdd, Nat.reduceSub, Nat.reduceMul, Nat.reduceBEq, Nat.reduceLT, Nat.reduceLeDiff, reduceCtorEq, Int.reduceToNat, Int.reduceNeg]
      refine cond_dec (fun h5 => ?_) fun h5 => ?_
      · rw [decide_eq_false]; intro hh
        rcases h5 with h5 | h5 | h5
        · have := hh.2.1 at_[k] (List.getElem_mem hk'); omega
        · have := hh.2.1 at_[k] (List.getElem_mem hk'); omega
        · have := (nodup_snoc hk').1 (hh.2.2.sublist (List.take_sublist _ _))
          rw [hx] at this
          exact this.2 h5
      have h6 : ¬ x < 0 ∧ ¬ j.g.w * j.g.h ≤ x ∧ x ∉ at_.take k := ⟨fun h => h5 (.inl h), fun h => h5 (.inr (.inl h)), fun h => h5 (.inr (.inr h))⟩
      refine ⟨⟨by omega, by omega⟩, by omega, ⟨by omega, by omega⟩, _, ?_, k + 1, by omega, rfl, ?_, (nodup_snoc hk').2 ⟨h2, by rw [hx]; exact h6.2.2⟩, u.set x.toNat true, by simpa using h3, fun i hi => ?_, ?_⟩
      · omega
      · intro y hy
        rw [List.take_succ_eq_append_getElem hk', List.mem_append, List.mem_singleton] at hy
        rcases hy with hy | rfl
        · exact h1 y hy
        · omega
      · rw [List.length_set] at hi
        have h8 := h4 i hi
        rw [List.take_succ_eq_append_getElem hk', hx]
        simp only [List.getD_eq_getElem?_getD, List.getElem?_set] at h8 ⊢
        by_cases e : x.toNat = i
        · have e2 : (i : Int) = x := by omega
          rw [if_pos e, if_pos (by omega), Option.getD_some, eq_comm, decide_eq_true_iff]
          simp [e2]
        · have e2 : ¬ (i : Int) = x := by omega
          rw [if_neg e, h8, decide_eq_decide]
          simp [e2]
      · simp
    · refine congrArg Value.bool (decide_eq_decide.2 ?_)
      rw [List.take_of_length_le (by omega)] at h1 h2
      exact ⟨fun h => ⟨by omega, h1, h2⟩, fun h => by have := h.1; omega⟩
theorem spot_ok (j : Job) (tile : Int) (ht : 0 ≤ tile ∧ tile ≤ 9223372036854775807) (hw : 0 < j.g.w) : FnEq Try.prog 91 [.agg (jobC false j), .int tile] (.agg [.int (tile % j.g.w), .int (tile / j.g.w)]) := by
  refine FnEq.of_awp Try.func91 ok91 (by show 2 ≤ _; decide) (by simp only [push_cast, reduceIte, Nat.reduceEqDiff, Nat.reduceAdd, Nat.reduceSub, Nat.reduceMul, Nat.reduceBEq, Nat.reduceLT, Nat.reduceLeDiff, reduceCtorEq, Int.reduceToNat, Int.reduceNeg] <;> first | exact fun _ _ => trivial | simp) ?_
  simp only [ac91, rv91, push_cast, reduceIte, Nat.reduceEqDiff, Nat.reduceAdd, Nat.reduceSub, Nat.reduceMul, Nat.reduceBEq, Nat.reduceLT, Nat.reduceLeDiff, reduceCtorEq, Int.reduceToNat, Int.reduceNeg]
  exact ⟨ht.1, ht.2, hw⟩
end Go.Proofs.Ytbdamnfkgdbidaa
/- contracts: package placement, the cost -/
namespace Go.Proofs.Ytbdamnfkgdbidaa
open Go Go.Vc Txt

def spotF (j : Job) (t : Int) : Int × Int := (t % j.g.w, t / j.g.w)
def srcF (j : Job) (at_ : List Int) (s : Int) : Int × Int := if (j.p.ins.length : Int) ≤ s then spotF j (at_.getD ((s - j.p.ins.length) / 2).toNat default) else (-1, s % j.g.h)
def pairC (p : Int × Int) : PV := .agg [.int p.1, .int p.2]
@[push_cast] theorem pairC_eq (p : Int × Int) : pairC p = .agg [.int p.1, .int p.2] := rfl

theorem isPl_get {j : Job} {at_ : List Int} (h : IsPl j at_) {k : Nat} (hk : k < j.p.blocks.length) : k < at_.length ∧ 0 ≤ at_.getD k default ∧ at_.getD k default < j.g.w * j.g.h := by
  have hk' : k < at_.length := by rw [h.1]; exact hk
  have := h.2.1 at_[k] (List.getElem_mem hk')
  rw [show at_.getD k default = at_[k] from by simp [hk']]
  exact ⟨hk', this⟩
theorem source_ok (j : Job) (hj : j.Ok) (at_ : List Int) (hp : IsPl j at_) (s : Int) (hs : 0 ≤ s ∧ s < j.p.ins.length + 2 * j.p.blocks.length) :
    FnEq Try.prog 84 [.agg (jobC false j), .sl false 1 (ints at_), .int s] (pairC (srcF j at_ s)) := by
  refine FnEq.of_awp Try.func84 ok84 (by show 3 ≤ _; decide) (by simp only [push_cast, reduceIte, Nat.reduceEqDiff, Nat.reduceAdd, Nat.reduceSub, Nat.reduceMul, Nat.reduceBEq, Nat.reduceLT, Nat.reduceLeDiff, reduceCtorEq, Int.reduceToNat, Int.reduceNeg] <;> first | exact fun _ _ => trivial | simp) ?_
  simp only [ac84, rv84, push_cast, reduceIte, Nat.reduceEqDiff, Nat.reduceAdd, Nat.reduceSub, Nat.reduceMul, Nat.reduceBEq, Nat.reduceLT, Nat.reduceLeDiff, reduceCtorEq, Int.reduceToNat, Int.reduceNeg]
  have h1 := hj.ins
  have h2 := hj.nb
  have h3 := hj.wh
  refine ⟨by omega, ?_⟩
  refine cond_dec (fun h => ?_) fun h => ?_
  · have hk : ((s - j.p.ins.length) / 2).toNat < j.p.blocks.length := by omega
    obtain ⟨k1, k2, k3⟩ := isPl_get hp hk
    have h4 := hj.w
    refine ⟨⟨by omega, by omega, by omega⟩, ⟨by omega, by omega⟩, k1, ?_⟩
    refine cal_sub (spot_ok j _ ⟨k2, by omega⟩ h4.1) (by simp only [push_cast, reduceIte, Nat.reduceEqDiff, Nat.reduceAdd, Nat.reduceSub, Nat.reduceMul, Nat.reduceBEq, Nat.reduceLT, Nat.reduceLeDiff, reduceCtorEq, Int.reduceToNat, Int.reduceNeg]) ?_
    simp only [push_cast, reduceIte, Nat.reduceEqDiff, Nat.reduceAdd, Nat.reduceSub, Nat.reduceMul, Nat.reduceBEq, Nat.reduceLT, Nat.reduceLeDiff, reduceCtorEq, Int.reduceToNat, Int.reduceNeg]
    rw [srcF, if_pos (by omega)]
    simp only [spotF, push_cast, reduceIte, Nat.reduceEqDiff, Nat.reduceAdd, Nat.reduceSub, Nat.reduceMul, Nat.reduceBEq, Nat.reduceLT, Nat.reduceLeDiff, reduceCtorEq, Int.reduceToNat, Int.reduceNeg]
  · have h4 := hj.h
    rw [srcF, if_neg (by omega)]
    refine ⟨⟨by omega, by omega, by omega⟩, ?_⟩
    simp only [push_cast, reduceIte, Nat.reduceEqDiff, Nat.reduceAdd, Nat.reduceSub, Nat.reduceMul, Nat.reduceBEq, Nat.reduceLT, Nat.reduceLeDiff, reduceCtorEq, Int.reduceToNat, Int.reduceNeg]

/-! ### The extents of signals -/
structure Ext where
  x0 : Int
  y0 : Int
  x1 : Int
  y1 : Int
  deriving DecidableEq, Inhabited
def extC (e : Ext) : PV := .agg [.int e.x0, .int e.y0, .int e.x1, .int e.y1]
@[push_cast] theorem extC_eq (e : Ext) : extC e = .agg [.int e.x0, .int e.y0, .int e.x1, .int e.y1] := rfl
abbrev EM := List (Int × Ext)
def entC (x : Int × Ext) : Value × PV := (.int .i64 x.1, extC x.2)
def emC (M : EM) : List (Value × PV) := M.map entC
def eget : EM → Int → Option Ext
  | [], _ => none
  | (k, v) :: r, x => if k = x then some v else eget r x
def eput : EM → Int → Ext → EM
  | [], x, v => [(x, v)]
  | (k, u) :: r, x, v => if k = x then (k, v) :: r else (k, u) :: eput r x v
theorem vEq_int (a b : Int) : vEq (.int .i64 a) (.int .i64 b) = decide (a = b) := by
  rw [Bool.eq_iff_iff]; simp [vEq]
theorem mget_em (M : EM) (s : Int) : mget (emC M) (.int .i64 s) = (eget M s).map extC := by
  induction M with
  | nil => rfl
  | cons x r ih =>
    obtain ⟨k, v⟩ := x
    simp only [emC, List.map_cons, entC, mget, eget, vEq_int, decide_eq_true_eq]
    split
    · rfl
    · exact ih
theorem mput_em (M : EM) (s : Int) (e : Ext) : mput (emC M) (.int .i64 s) (extC e) = emC (eput M s e) := by
  induction M with
  | nil => rfl
  | cons x r ih =>
    obtain ⟨k, v⟩ := x
    simp only [emC, List.map_cons, entC, mput, eput, vEq_int, decide_eq_true_eq]
    split
    · rfl
    · simp only [List.map_cons, entC]; exact congrArg _ ih
def extF (e : Ext) (p : Int × Int) : Ext := ⟨min e.x0 p.1, min e.y0 p.2, max e.x1 p.1, max e.y1 p.2⟩
def stepF (j : Job) (at_ : List Int) (M : EM) (c : Int × Int × Int) : EM :=
  let f := srcF j at_ c.1
  eput M c.1 (extF ((eget M c.1).getD ⟨f.1, f.2, f.1, f.2⟩) c.2)
end Go.Proofs.Ytbdamnfkgdbidaa
/- contracts: package placement, the cost -/
namespace Go.Proofs.Ytbdamnfkgdbidaa
open Go Go.Vc Txt

def connB (j : Job) (at_ : List Int) (k : Nat) : List (Int × Int × Int) := ((j.p.blocks.getD k default).ins).map fun s => (s, spotF j (at_.getD k default))
def connD (j : Job) (o : Nat) : Int × Int × Int := (j.p.drive.getD o default, (j.g.w, (o : Int) % j.g.h))
def connsB (j : Job) (at_ : List Int) (k : Nat) : List (Int × Int × Int) := (List.range k).flatMap (connB j at_)
def connsD (j : Job) (o : Nat) : List (Int × Int × Int) := (List.range o).map (connD j)
def conns (j : Job) (at_ : List Int) : List (Int × Int × Int) := connsB j at_ j.p.blocks.length ++ connsD j j.p.drive.length
def foldF (j : Job) (at_ : List Int) (l : List (Int × Int × Int)) : EM := l.foldl (stepF j at_) []

def stE (j : Job) (at_ : List Int) (t : List (Nat × PV)) (M : EM) : St :=
  ⟨(2, .ptr 2 0) :: (3, .ptr 3 0) :: (5, .ptr 5 0) :: (19, .clo 90 [102, 103]) :: t, [(2, jobC false j), (3, [.sl false 1 (ints at_)]), (5, [.mp 16]), (102, jobC false j), (103, [.sl false 1 (ints at_)])], [], [(16, ⟨.int .i64, emC M, none⟩)]⟩
@[push_cast] theorem stE_eq (j : Job) (at_ : List Int) (t : List (Nat × PV)) (M : EM) : stE j at_ t M =
  ⟨(2, .ptr 2 0) :: (3, .ptr 3 0) :: (5, .ptr 5 0) :: (19, .clo 90 [102, 103]) :: t, [(2, jobC false j), (3, [.sl false 1 (ints at_)]), (5, [.mp 16]), (102, jobC false j), (103, [.sl false 1 (ints at_)])], [], [(16, ⟨.int .i64, emC M, none⟩)]⟩ := rfl

/-- The iterator's slots when it yields an input of a block, a driven signal. -/
def t1 (j : Job) (at_ : List Int) (k : Nat) (b : Block) (i : Nat) : List (Nat × PV) :=
  [(200, .yl 999), (201, .ptr 102 0), (202, .ptr 103 0), (204, .int k), (207, .int (b.ins.getD i default)), (212, .sl false 5 (rows (blockC false) j.p.blocks)), (213, .int j.p.blocks.length), (214, .int k),
   (220, .sl false 1 (ints b.ins)), (221, .int b.ins.length), (222, .int i), (226, .yl 999), (227, .int (b.ins.getD i default)), (228, .agg (jobC false j)), (229, .sl false 1 (ints at_)), (230, .int k), (231, .iptr false ((ints at_).getD k []) 0), (232, .int (at_.getD k default)),
   (233, pairC (spotF j (at_.getD k default)))]
theorem t1_eq (j : Job) (at_ : List Int) (k : Nat) (b : Block) (i : Nat) : t1 j at_ k b i =
  [(200, .yl 999), (201, .ptr 102 0), (202, .ptr 103 0), (204, .int k), (207, .int (b.ins.getD i default)), (212, .sl false 5 (rows (blockC false) j.p.blocks)), (213, .int j.p.blocks.length), (214, .int k),
   (220, .sl false 1 (ints b.ins)), (221, .int b.ins.length), (222, .int i), (226, .yl 999), (227, .int (b.ins.getD i default)), (228, .agg (jobC false j)), (229, .sl false 1 (ints at_)), (230, .int k), (231, .iptr false ((ints at_).getD k []) 0), (232, .int (at_.getD k default)),
   (233, pairC (spotF j (at_.getD k default)))] := rfl
def t2 (j : Job) (o : Nat) : List (Nat × PV) :=
  [(200, .yl 999), (201, .ptr 102 0), (208, .int o), (209, .int (j.p.drive.getD o default)), (240, .sl false 1 (ints j.p.drive)), (241, .int j.p.drive.length), (242, .int o), (247, .yl 999), (248, .int (j.p.drive.getD o default)), (249, .ptr 102 4), (250, .ptr 102 4), (251, .int j.g.w), (252, .int o), (253, .ptr 102 4), (254, .ptr 102 5), (255, .int j.g.h), (256, .int ((o : Int) % j.g.h)),
   (257, .agg [.int j.g.w, .int ((o : Int) % j.g.h)])]
theorem t2_eq (j : Job) (o : Nat) : t2 j o =
  [(200, .yl 999), (201, .ptr 102 0), (208, .int o), (209, .int (j.p.drive.getD o default)), (240, .sl false 1 (ints j.p.drive)), (241, .int j.p.drive.length), (242, .int o), (247, .yl 999), (248, .int (j.p.drive.getD o default)), (249, .ptr 102 4), (250, .ptr 102 4), (251, .int j.g.w), (252, .int o), (253, .ptr 102 4), (254, .ptr 102 5), (255, .int j.g.h), (256, .int ((o : Int) % j.g.h)),
   (257, .agg [.int j.g.w, .int ((o : Int) % j.g.h)])] := rfl

theorem foldF_snoc (j : Job) (at_ : List Int) (l : List (Int × Int × Int)) (c : Int × Int × Int) : foldF j at_ (l ++ [c]) = stepF j at_ (foldF j at_ l) c := by simp [foldF]
theorem connsB_succ (j : Job) (at_ : List Int) (k : Nat) : connsB j at_ (k + 1) = connsB j at_ k ++ connB j at_ k := by simp [connsB, List.range_succ]
theorem connsD_succ (j : Job) (o : Nat) : connsD j (o + 1) = connsD j o ++ [connD j o] := by simp [connsD, List.range_succ]

theorem ends1_ok (E : Env) (hE : E.p = Try.prog) (hkk : E.kk ≤ 200) (j : Job) (hj : j.Ok) (at_ : List Int) (hp : IsPl j at_)
    (hY1 : ∀ (k i : Nat) (b : Block) (M : EM) (s : Int), 0 ≤ s → s < j.p.ins.length + 2 * j.p.blocks.length → s = b.ins.getD i default → E.Y 999 [.int s, pairC (spotF j (at_.getD k default))] (stE j at_ (t1 j at_ k b i) M) (fun st' => st' = stE j at_ (t1 j at_ k b i) (stepF j at_ M (s, spotF j (at_.getD k default)))))
    (hY2 : ∀ (o : Nat) (M : EM) (s : Int), 0 ≤ s → s < j.p.ins.length + 2 * j.p.blocks.length → s = j.p.drive.getD o default → E.Y 999 [.int s, pairC (j.g.w, (o : Int) % j.g.h)] (stE j at_ (t2 j o) M) (fun st' => st' = stE j at_ (t2 j o) (stepF j at_ M (s, (j.g.w, (o : Int) % j.g.h))))) :
    FnM E 90 [.yl 999, .ptr 102 0, .ptr 103 0] (stE j at_ [] []) (fun _ st' => st' = stE j at_ [] (foldF j at_ (conns j at_))) := by
  refine fnM_of 200 (by rw [hE]; exact Try.func90) (by rw [hE]; exact ok90_200) (by show 3 ≤ _; decide) rfl hkk ?_
  have h1 := hj.nb
  have hnd := hj.nd
  simp only [stE_eq, t1_eq, t2_eq, push_cast, reduceIte, Nat.reduceEqDiff, Nat.reduceAdd, Nat.reduceSub, Nat.reduceMul, Nat.reduceBEq, Nat.reduceLT, Nat.reduceLeDiff, reduceCtorEq, Int.reduceToNat, Int.reduceNeg] at hY1 hY2
  simp only [ac90_200, rv90_200, push_cast, reduceIte, Nat.reduceEqDiff, Nat.reduceAdd, Nat.reduceSub, Nat.reduceMul, Nat.reduceBEq, Nat.reduceLT, Nat.reduceLeDiff, reduceCtorEq, Int.reduceToNat, Int.reduceNeg]
  refine loop_of (fun m st => ∃ k : Nat, k ≤ j.p.blocks.length ∧ m = j.p.blocks.length - k ∧
    st = stE j at_ [(200, .yl 999), (201, .ptr 102 0), (202, .ptr 103 0), (212, .sl false 5 (rows (blockC false) j.p.blocks)), (213, .int j.p.blocks.length), (214, .int k)] (foldF j at_ (connsB j at_ k))) j.p.blocks.length ?_ ?_
  · refine ⟨0, by omega, by omega, ?_⟩
    simp only [push_cast, reduceIte, Nat.reduceEqDiff, Nat.reduceAdd, Nat.reduceSub, Nat.reduceMul, Nat.reduceBEq, Nat.reduceLT, Nat.reduceLeDiff, reduceCtorEq, Int.reduceToNat, Int.reduceNeg]
    rfl
  · rintro m st ⟨k, hk, rfl, rfl⟩
    simp only [push_cast, reduceIte, Nat.reduceEqDiff, Nat.reduceAdd, Nat.reduceSub, Nat.reduceMul, Nat.reduceBEq, Nat.reduceLT, Nat.reduceLeDiff, reduceCtorEq, Int.reduceToNat, Int.reduceNeg]
    refine cond_dec (fun h => ?_) fun h => ?_
    · have hk' : k < j.p.blocks.length := by omega
      obtain ⟨k1, k2, k3⟩ := isPl_get hp hk'
      refine ⟨⟨by omega, by omega⟩, hk', ?_⟩
      have hbm : j.p.blocks.getD k default ∈ j.p.blocks := by simp [List.getD_eq_getElem?_getD, hk']
      have hbi := hj.nin _ hbm
      have hsb := hj.sb _ hbm
      have hC : connB j at_ k = ((j.p.blocks.getD k default).ins).map fun s => (s, spotF j (at_.getD k default)) := rfl
      generalize j.p.blocks.getD k default = b at hbi hsb hC ⊢
      refine loop_of (fun m st => ∃ i : Nat, i ≤ b.ins.length ∧ m = b.ins.length - i ∧
        st = stE j at_ [(200, .yl 999), (201, .ptr 102 0), (202, .ptr 103 0), (204, .int k), (212, .sl false 5 (rows (blockC false) j.p.blocks)), (213, .int j.p.blocks.length), (214, .int k), (220, .sl false 1 (ints b.ins)), (221, .int b.ins.length), (222, .int i)] (foldF j at_ (connsB j at_ k ++ (connB j at_ k).take i))) b.ins.length ?_ ?_
      · refine ⟨0, by omega, by omega, ?_⟩
        rw [List.take_zero, List.append_nil]
        simp only [push_cast, reduceIte, Nat.reduceEqDiff, Nat.reduceAdd, Nat.reduceSub, Nat.reduceMul, Nat.reduceBEq, Nat.reduceLT, Nat.reduceLeDiff, reduceCtorEq, Int.reduceToNat, Int.reduceNeg]
      · rintro m st ⟨i, hi, rfl, rfl⟩
        simp only [push_cast, reduceIte, Nat.reduceEqDiff, Nat.reduceAdd, Nat.reduceSub, Nat.reduceMul, Nat.reduceBEq, Nat.reduceLT, Nat.reduceLeDiff, reduceCtorEq, Int.reduceToNat, Int.reduceNeg]
        refine cond_dec (fun h3 => ?_) fun h3 => ?_
        · have hi' : i < b.ins.length := by omega
          have hw := hj.w
          have hwh := hj.wh
          refine ⟨⟨by omega, by omega⟩, hi', ⟨by omega, by omega⟩, k1, ?_⟩
          refine dcal_sub (by rw [hE]; exact spot_ok j (at_.getD k default) ⟨k2, by omega⟩ hw.1) (by simp only [push_cast, reduceIte, Nat.reduceEqDiff, Nat.reduceAdd, Nat.reduceSub, Nat.reduceMul, Nat.reduceBEq, Nat.reduceLT, Nat.reduceLeDiff, reduceCtorEq, Int.reduceToNat, Int.reduceNeg]) (by simp only [push_cast, reduceIte, Nat.reduceEqDiff, Nat.reduceAdd, Nat.reduceSub, Nat.reduceMul, Nat.reduceBEq, Nat.reduceLT, Nat.reduceLeDiff, reduceCtorEq, Int.reduceToNat, Int.reduceNeg]) ?_
          simp only [push_cast, reduceIte, Nat.reduceEqDiff, Nat.reduceAdd, Nat.reduceSub, Nat.reduceMul, Nat.reduceBEq, Nat.reduceLT, Nat.reduceLeDiff, reduceCtorEq, Int.reduceToNat, Int.reduceNeg]
          have hs := hsb _ (show b.ins.getD i default ∈ b.ins by simp [List.getD_eq_getElem?_getD, hi'])
          refine ⟨_, hY1 k i b _ _ hs.1 hs.2 rfl, ?_⟩
          rintro _ rfl
          simp only [push_cast, reduceIte, Nat.reduceEqDiff, Nat.reduceAdd, Nat.reduceSub, Nat.reduceMul, Nat.reduceBEq, Nat.reduceLT, Nat.reduceLeDiff, reduceCtorEq, Int.reduceToNat, Int.reduceNeg]
          refine ⟨⟨by omega, by omega⟩, _, ?_, i + 1, by omega, rfl, ?_⟩
          · omega
          · have hi2 : i < (connB j at_ k).length := by rw [hC]; simpa using hi'
            rw [List.take_succ_eq_append_getElem hi2, ← List.append_assoc, foldF_snoc]
            simp only [hC, List.getElem_map]
            rw [show b.ins.getD i default = b.ins[i] by simp [hi']]
            simp
        · have hlen : (connB j at_ k).length = b.ins.length := by rw [hC]; simp
          rw [List.take_of_length_le (by omega)]
          refine ⟨⟨by omega, by omega⟩, _, ?_, k + 1, by omega, rfl, ?_⟩
          · omega
          · rw [connsB_succ]; simp
    · have hkk' : k = j.p.blocks.length := by omega
      subst hkk'
      refine loop_of (fun m st => ∃ o : Nat, o ≤ j.p.drive.length ∧ m = j.p.drive.length - o ∧
        st = stE j at_ [(200, .yl 999), (201, .ptr 102 0), (240, .sl false 1 (ints j.p.drive)), (241, .int j.p.drive.length), (242, .int o)] (foldF j at_ (connsB j at_ j.p.blocks.length ++ connsD j o))) j.p.drive.length ?_ ?_
      · refine ⟨0, by omega, by omega, ?_⟩
        rw [show connsD j 0 = [] from rfl, List.append_nil]
        simp only [push_cast, reduceIte, Nat.reduceEqDiff, Nat.reduceAdd, Nat.reduceSub, Nat.reduceMul, Nat.reduceBEq, Nat.reduceLT, Nat.reduceLeDiff, reduceCtorEq, Int.reduceToNat, Int.reduceNeg]
      · rintro m st ⟨o, ho, rfl, rfl⟩
        simp only [push_cast, reduceIte, Nat.reduceEqDiff, Nat.reduceAdd, Nat.reduceSub, Nat.reduceMul, Nat.reduceBEq, Nat.reduceLT, Nat.reduceLeDiff, reduceCtorEq, Int.reduceToNat, Int.reduceNeg]
        refine cond_dec (fun h3 => ?_) fun h3 => ?_
        · have ho' : o < j.p.drive.length := by omega
          have hw := hj.w
          have hh := hj.h
          have hs := hj.sd _ (show j.p.drive.getD o default ∈ j.p.drive by simp [List.getD_eq_getElem?_getD, ho'])
          refine ⟨⟨by omega, by omega⟩, ho', ⟨by omega, by omega, hh.1⟩, ?_⟩
          refine ⟨_, hY2 o _ _ hs.1 hs.2 rfl, ?_⟩
          rintro _ rfl
          simp only [push_cast, reduceIte, Nat.reduceEqDiff, Nat.reduceAdd, Nat.reduceSub, Nat.reduceMul, Nat.reduceBEq, Nat.reduceLT, Nat.reduceLeDiff, reduceCtorEq, Int.reduceToNat, Int.reduceNeg]
          refine ⟨⟨by omega, by omega⟩, _, ?_, o + 1, by omega, rfl, ?_⟩
          · omega
          · rw [connsD_succ, ← List.append_assoc, foldF_snoc]
            simp [connD]
        · have : o = j.p.drive.length := by omega
          subst this
          rw [conns]
end Go.Proofs.Ytbdamnfkgdbidaa
