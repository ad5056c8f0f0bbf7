/- VcZq O P Q DA S R DB DC DD: lemmas for PLocal -/
import Derived.Test.YtledbjkolidhkaaPart10
set_option linter.unusedSimpArgs false
set_option linter.unusedVariables false
namespace Go.Vc
open Go Go.RowKit
section
variable (P : Env) (r : List AO) (st : St) (K : St → Prop) (d : Option Nat)
def pfV (P : Env) (d : Option Nat) (r : List AO) (st : St) (K : St → Prop) : Option PV → Prop
  | some v => opsK P r (st.put d v) K
  | none => False
@[push_cast] theorem pfV_some (v : PV) : pfV P d r st K (some v) = opsK P r (st.put d v) K := rfl
@[push_cast] theorem o_pf (g : XF) (x : Opd) : opsK P (⟨d, none, .xo (.pf g) [x]⟩ :: r) st K = pfV P d r st K (xfF g (x.ev st)) := by
  show xoK st d (.pf g) [x.ev st] (fun st' => opsK P r st' K) = _
  generalize x.ev st = u
  have : ∀ K' : St → Prop, xoK st d (.pf g) [u] K' = pfK st d K' (xfF g u) := fun K' => by cases d <;> rfl
  rw [this]
  cases xfF g u <;> rfl
@[push_cast] theorem xf_ieq0 (ng : Bool) : xfF (.ieq ng) (.sc .nilIface) = some (.sc (.bool (!ng))) := rfl
@[push_cast] theorem xf_ieq1 (ng : Bool) (t : Nat) (v : Value) : xfF (.ieq ng) (.sc (.iface t v)) = some (.sc (.bool ng)) := rfl
@[push_cast] theorem xf_mki0 (t : Nat) : xfF (.mki t) (.agg []) = some (.sc (.iface t (.agg #[]))) := rfl
@[push_cast] theorem xf_mki1 (t : Nat) (k : IntKind) (n : Int) : xfF (.mki t) (.sc (.int k n)) = some (.sc (.iface t (.int k n))) := rfl
@[push_cast] theorem xf_tas (t : Nat) : xfF (.tas t) (.sc (.iface t (.agg #[]))) = some (.tup [.agg [], .sc (.bool true)]) := by simp [xfF]
def clxK (P : Env) (d : Option Nat) (f : Nat) (args : List PV) (r : List AO) (st : St) (K : St → Prop) : Prop := FnX P f args st fun rv st' => opsK P r (st'.put d rv) K
@[congr] theorem clxK_congr {P : Env} {d : Option Nat} {f : Nat} {args args' : List PV} {r : List AO} {st st' : St} {K : St → Prop} (h1 : args = args') (h2 : st = st') : clxK P d f args r st K = clxK P d f args' r st' K := by rw [h1, h2]
@[push_cast] theorem o_clx (f : Nat) (args : List Opd) : opsK P (⟨d, none, .clx f args⟩ :: r) st K = clxK P d f (evL st args) r st K := by
  rw [← evL_eq]; rfl
@[push_cast] theorem o_pan (x : Opd) : opsK P (⟨none, none, .pan x⟩ :: r) st K = panK P st (x.ev st) := rfl
@[push_cast] theorem panK_iface (t : Nat) (v : Value) : panK P st (.sc (.iface t v)) = P.pan [{ v := .iface t v, recovered := false }] st := rfl
end
theorem clx_of {P : Env} {d : Option Nat} {f : Nat} {args : List PV} {r : List AO} {st : St} {K : St → Prop} {Q : PV → St → Prop} (h : FnX P f args st Q) (hk : ∀ rv st', Q rv st' → opsK P r (st'.put d rv) K) : clxK P d f args r st K := FnX.mono h hk
theorem fnX_of {E : Env} {f : Nat} {fn : Func} {ac : AC} {rvs : List RV} {args : List PV} {Q : PV → St → Prop} {s : List (Nat × PV)} {b : List (Nat × List PV)} {a : List (Nat × Arr)} {m : List (Nat × Mp)} (K : Nat) (hf : E.p.funcs[f]? = some fn) (hok : fnOkK E.p K ac rvs fn = true) (hn : args.length ≤ fn.ntmps)
    (hlow : allLt K s = true) (hkk : E.kk ≤ K) (hpl : ∀ ch st, E.pan ch st → E.pan ch (st.low K)) (h : awp E ac (retM K rvs Q) ⟨argS K args s, b, a, m⟩) : FnX E f args ⟨s, b, a, m⟩ Q :=
  FnX.of_awp K hf hok hn (by rw [allLt_eq]; exact hlow) hkk hpl h
def FnPX (P : Program) (f : Nat) (args : List PV) (post : PV → Prop) (panv : List PanicEntry → Prop) : Prop := funOk P f = true ∧
  ∀ (w : World) (Z : Zone), (∀ b, Z true b → Z false b) → (∀ p b, Z p b → b < w.heap.size) → ∀ vs : Array Value, vs.size = args.length → (∀ j c, args[j]? = some c → TV w Z c (vs.getD j undef)) →
    Calls P f vs w fun e w' => (∃ v r, e = .returned v ∧ post r ∧ TV w' (fun p b => p = true ∧ (Z true b ∨ (w.heap.size ≤ b ∧ b < w'.heap.size))) r v ∧ Below w.heap.size w w') ∨ (∃ ch, e = .panicked ch ∧ panv ch ∧ Below w.heap.size w w')
theorem FnPX.of_awp {P : Program} {f : Nat} {fn : Func} {ac : AC} {rvs : List RV} {args : List PV} {post : PV → Prop} {panv : List PanicEntry → Prop} (hf : P.funcs[f]? = some fn) (hok : fnOk P ac rvs fn = true) (hg : funOk P f = true) (hn : args.length ≤ fn.ntmps)
    (h : awp ⟨P, 0, fun _ _ _ _ => False, fun ch _ => panv ch⟩ ac (retK rvs post) ⟨slots0 args, [], [], []⟩) : FnPX P f args post panv := by
  refine ⟨hg, fun w Z zt zb vs hsz hrel => ?_⟩
  simp only [fnOk, Bool.and_eq_true] at hok
  obtain ⟨hb, hr⟩ := hok
  split at hb
  · rename_i c hc
    have hsize : (vs ++ Array.replicate (fn.ntmps - vs.size) undef).size = fn.ntmps := by simp; omega
    have hinit : Inv w Z ⟨fn.ntmps, 0, fun _ => undef, ⟨[], fun _ => 0⟩, some (false, [])⟩ Z L00 ⟨slots0 args, [], [], []⟩ { tmps := vs ++ Array.replicate (fn.ntmps - vs.size) undef, defers := [] } w := by
      refine ⟨zt, fun _ _ h => h, fun _ _ h => .inl h, zb, Below.refl _ _, ?_, ?_, ?_, ?_, ?_, ?_, ?_, ?_, ?_, ?_, fun x hx => (by cases hx), fun _ => rfl, hsize, fun dd e => ⟨[], ⟨by cases e; rfl, fun _ => rfl⟩, ⟨.nil, fun D hD => by cases hD⟩, fun D hD => by cases hD⟩, ?_⟩
      · intro id cs hl; simp [lk] at hl
      · intro id cs hl; simp [lk] at hl
      · intro i j x y hl; simp [lk] at hl
      · intro i j x y hl; simp [lk] at hl
      · intro i j x y hl; simp [lk] at hl
      · intro id cs hl; simp [lk] at hl
      · intro id cs hl; simp [lk] at hl
      · intro id cs hl; simp [lk] at hl
      · intro i j x y hl; simp [lk] at hl
      · intro id cs hl; simp [lk] at hl
      · intro i v hl
        simp only [lk_slots0] at hl
        have hi : i < vs.size := by rw [hsz]; exact (List.getElem?_eq_some_iff.1 hl).1
        have := hrel i v hl
        have e : (vs ++ Array.replicate (fn.ntmps - vs.size) undef).getD i undef = vs.getD i undef := by
          simp only [Array.getD_eq_getD_getElem?, Array.getElem?_append_left hi]
        unfold Fr.val
        rw [if_pos ⟨Nat.zero_le _, by simp only; omega⟩]
        simp only [Nat.sub_zero] at e ⊢
        rw [e]
        exact this.vr _
    have h' := awp_mono (Q' := xQ ⟨P, 0, fun _ _ _ _ => False, fun ch _ => panv ch⟩ (retK rvs post)) ac (fun e st hh => by cases e <;> first | exact hh | (simp [retK, isEnd] at hh)) _ h
    refine callsIn_wide (n := 0) |>.1 (callsIn_of_wp_marks hf hc trivial ?_)
    have hE2 : EnvOK ⟨P, 0, fun _ _ _ _ => False, fun ch _ => panv ch⟩ w Z ⟨[], fun _ => 0⟩ fun _ => undef := fun _ _ _ _ _ _ _ _ _ _ _ _ _ h => h.elim
    refine wpIn_mono (awp_sound (P := ⟨P, 0, fun _ _ _ _ => False, fun ch _ => panv ch⟩) (w0 := w) (Z0 := Z) ac (N := ⟨fn.ntmps, 0, fun _ => undef, ⟨[], fun _ => 0⟩, some (false, [])⟩) (ro := none) (n := 0) hE2 (Nat.le_refl _) c (xQ _ (retK rvs post)) _ _ w (.inr ⟨rfl, fun dd e => by cases e; rfl⟩) (fun l st hh => by simp [xQ, retK, isEnd] at hh) (fun ch st hh => hh) hb h' ⟨_, _, hinit⟩) ?_
    rintro e a' w' ⟨st', hq, Z', L', hI⟩
    have hend : ∀ e, retK rvs post e st' → LeavesInM Fence.wide 0 P fn a'.tmps (fun e w' => (∃ v r, e = .returned v ∧ post r ∧ TV w' (fun p b => p = true ∧ (Z true b ∨ (w.heap.size ≤ b ∧ b < w'.heap.size))) r v ∧ Below w.heap.size w w') ∨ (∃ ch, e = .panicked ch ∧ panv ch ∧ Below w.heap.size w w')) a'.defers .returning w' := by
      rintro e ⟨he, h1, hfl, h2, h3⟩
      have hnt' : ∀ cs ds, (resV st' rvs).2 = .tup cs → .tup ds ∉ cs := fun cs ds e hm => by rw [e] at hfl; have := List.all_eq_true.1 hfl _ hm; simp [isTup] at this
      refine hI.leave2 rfl (by simp) fun w2 hI3 => ?_
      obtain ⟨Z2, v, hI2, hrun, hvr⟩ := resV_run hI3 hr h1 hnt'
      have htv : TV w2 (fun p b => p = true ∧ (Z true b ∨ (w.heap.size ≤ b ∧ b < w2.heap.size))) (resV st' rvs).2 v := by
        refine (VR.perm hvr h2).zone ?_
        rintro p b ⟨rfl, hb'⟩
        exact ⟨rfl, (hI2.zn true b hb').imp (fun e => e) (fun e => ⟨e, hI2.zb true b hb'⟩)⟩
      exact ⟨v, hrun, .inl ⟨v, _, rfl, h3, htv, hI3.below⟩⟩
    cases e <;> first | exact hend _ hq | (simp [xQ, retK, isEnd] at hq; done) | skip
    rename_i ch
    exact hI.leave2 rfl (by simp) fun w2 hI3 => .inr ⟨ch, rfl, hq, hI3.below⟩
  · cases hb
theorem FnX.of_px {E : Env} {f : Nat} {args : List PV} {st : St} {post : PV → Prop} {panv : List PanicEntry → Prop} {Q : PV → St → Prop} (hc : FnPX E.p f (args.map (PV.rsA st)) post panv) (hq : ∀ r, post r → Q r st) (hp : ∀ ch, panv ch → E.pan ch st) : FnX E f args st Q := by
  refine ⟨hc.1, fun w0 Z0 X G Z L w vs _ h ha => ?_⟩
  refine (hc.2 w (calleeZ Z L st) ?_ ?_ vs (by simpa using ha.1) ?_).mono ?_
  · rintro b (h1 | ⟨h1, _⟩)
    · exact .inl (h.zt b h1)
    · cases h1
  · rintro p b (h1 | ⟨_, ⟨id, A, h1, rfl⟩ | ⟨id, cs, h1, rfl⟩⟩)
    · exact h.zb p b h1
    · exact (h.owna id A h1).2.1
    · exact (h.ownb id cs h1).2.1
  · intro j cc hj
    rw [List.getElem?_map] at hj
    obtain ⟨x, h1, rfl⟩ := Option.map_eq_some_iff.1 hj
    exact (VR.rsA h (ha.2 j x h1)).tv
  · have hmv : ∀ w', Below w.heap.size w w' → Mem w0 Z0 X G (fun p b => Z p b ∨ (w.heap.size ≤ b ∧ b < w'.heap.size)) L st w' := fun w' h3 => h.move (fun _ _ h => .inl h) (fun b hb => hb.imp (h.zt b) (fun e => e))
      (fun p b hb => hb.imp (fun e => e) (fun e => e.1)) (fun p b hb => hb.elim (fun e => Nat.lt_of_lt_of_le (h.zb p b e) h3.size) (fun e => e.2)) h3
    rintro e w' (⟨v, r, rfl, h1, h2, h3⟩ | ⟨ch, rfl, h1, h3⟩)
    · refine .inl ⟨v, r, st, _, L, rfl, hq r h1, hmv w' h3, TV.vr L (h2.zone ?_)⟩
      rintro p b ⟨rfl, hb | hb⟩
      · rcases hb with hb | ⟨hb, _⟩
        · exact .inl hb
        · cases hb
      · exact .inr hb
    · exact .inr ⟨ch, st, _, L, rfl, hp ch h1, hmv w' h3⟩
@[push_cast] theorem rv_cell (st : St) (t : Nat) (agg : Bool) (sz : Nat) : RV.val st (.cell t agg sz) = rvC st agg sz (st.get t) := rvW_cell st t agg sz
theorem FnD.mono {P : Program} {g : Nat} {ids : List Nat} {u u' : FrameMode} {st : St} {Q Q' : St → Prop} (h : FnD P g ids u u' st Q) (hq : ∀ st', Q st' → Q' st') : FnD P g ids u u' st Q' :=
  fun w0 Z0 X G Z L w hM => CallsDIn.mono (h w0 Z0 X G Z L w hM) fun _ _ _ ⟨e1, e2, st', Z', L', e3, e4⟩ => ⟨e1, e2, st', Z', L', hq st' e3, e4⟩
theorem FnD.sub {P : Program} {g : Nat} {ids : List Nat} {u u' : FrameMode} {st : St} {Q : St → Prop} (st1 : St) (h : FnD P g ids u u' st1 Q) (hs : ∀ i v, lk st1.s i = some v → lk st.s i = some v) (hb : ∀ i v, lk st1.b i = some v → lk st.b i = some v)
    (ha : ∀ i v, lk st1.a i = some v → lk st.a i = some v) (hm : ∀ i v, lk st1.m i = some v → lk st.m i = some v) : FnD P g ids u u' st Q :=
  fun w0 Z0 X G Z L w hM => h w0 Z0 X G Z L w (hM.forget (fun i v hl => .inl (hs i v hl)) hb ha hm)
def subL {α : Type} (l : List (Nat × α)) : List (Nat × α) → Prop
  | [] => True
  | (i, v) :: r => lk l i = some v ∧ subL l r
theorem subL_lk {α : Type} {l : List (Nat × α)} : ∀ {r : List (Nat × α)}, subL l r → ∀ i v, lk r i = some v → lk l i = some v
  | [], _, i, v, hl => by cases hl
  | (k, u) :: r, h, i, v, hl => by
    simp only [lk] at hl
    split at hl
    · rename_i e; cases hl; subst e; exact h.1
    · exact subL_lk h.2 i v hl
section
variable {P : Env} {ops : List XO} {n : Nat} {dn : List Nat} {st : St} {K : St → Prop}
theorem allK_nil (hc : allDn ops dn = true) (h : K st) : allK P ops 0 dn st K := ⟨hc, h⟩
theorem allK_cons (hc : allDn ops dn = false) (hg : ops.all (fun x => x.o.g.isNone) = true) (h : ∀ x ∈ ops, rdyB dn x = true → opsK P [x.o] st fun st' => allK P ops n (x.i :: dn) st' K) : allK P ops (n + 1) dn st K := by
  refine ⟨fun e => (by rw [hc] at e; cases e), fun x hx hr => ?_⟩
  have h1 := h x hx hr
  have h2 : x.o.g = none := by simpa using List.all_eq_true.1 hg x hx
  simp only [opsK, h2, grdK] at h1 ⊢
  exact h1
@[push_cast] theorem a_dra (P : Env) (keep : List Nat) (ops : List XO) (Q : Exit → St → Prop) (st : St) : awp P (.dra keep ops) Q st = allK P ops ops.length [] (st.keepS keep) (Q .normal) := rfl
end
end Go.Vc
namespace Go.Proofs.Ytledbjkolidhkaa
open Go Go.Vc Txt
theorem within_ok (n lo hi : Int) : FnEq Try.prog 41 [.int n, .int lo, .int hi] (.bool (decide (lo ≤ n ∧ n ≤ hi))) := by
  refine FnEq.of_awp Try.func41 ok41 (by show 3 ≤ _; decide) (by simp only [push_cast, reduceIte, Nat.reduceEqDiff, Nat.reduceAdd, Nat.reduceSub, Nat.reduceMul, Nat.reduceBEq, Nat.reduceLT, Nat.reduceLeDiff, reduceCtorEq, Int.reduceToNat, Int.reduceNeg] <;> first | exact fun _ _ => trivial | simp) ?_
  simp only [ac41, rv41, push_cast, reduceIte, Nat.reduceEqDiff, Nat.reduceAdd, Nat.reduceSub, Nat.reduceMul, Nat.reduceBEq, Nat.reduceLT, Nat.reduceLeDiff, reduceCtorEq, Int.reduceToNat, Int.reduceNeg]
  (repeat' (first | (refine grd_dec rfl (fun _ => ?_) fun _ => ?_ <;> simp only [push_cast, reduceIte, Nat.reduceEqDiff, Nat.reduceAdd, Nat.reduceSub, Nat.reduceMul, Nat.reduceBEq, Nat.reduceLT, Nat.reduceLeDiff, reduceCtorEq, Int.reduceToNat, Int.reduceNeg]) | (refine grd_decf rfl (fun _ => ?_) fun _ => ?_ <;> simp only [push_cast, reduceIte, Nat.reduceEqDiff, Nat.reduceAdd, Nat.reduceSub, Nat.reduceMul, Nat.reduceBEq, Nat.reduceLT, Nat.reduceLeDiff, reduceCtorEq, Int.reduceToNat, Int.reduceNeg])))
  all_goals (refine congrArg Value.bool ?_; first | rfl | (rw [decide_eq_decide]; omega) | (rw [eq_comm, decide_eq_true_iff]; omega) | (rw [eq_comm, decide_eq_false_iff_not]; omega) | (simp [*]; done))
def holdsF (k m : Int) : Bool := if k = 0 then decide (m = 0) else if k = 1 then decide (m ≠ 3) else true
theorem holds_ok (k m : Int) : FnEq Try.prog 68 [.int k, .int m] (.bool (holdsF k m)) := by
  refine FnEq.of_awp Try.func68 ok68 (by show 2 ≤ _; decide) (by simp only [push_cast, reduceIte, Nat.reduceEqDiff, Nat.reduceAdd, Nat.reduceSub, Nat.reduceMul, Nat.reduceBEq, Nat.reduceLT, Nat.reduceLeDiff, reduceCtorEq, Int.reduceToNat, Int.reduceNeg] <;> first | exact fun _ _ => trivial | simp) ?_
  simp only [ac68, rv68, push_cast, reduceIte, Nat.reduceEqDiff, Nat.reduceAdd, Nat.reduceSub, Nat.reduceMul, Nat.reduceBEq, Nat.reduceLT, Nat.reduceLeDiff, reduceCtorEq, Int.reduceToNat, Int.reduceNeg]
  refine cond_dec (fun h => ?_) fun h => ?_
  · rw [holdsF, if_pos h]
  · refine cond_dec (fun h2 => ?_) fun h2 => ?_
    · rw [holdsF, if_neg h, if_pos h2]
    · rw [holdsF, if_neg h, if_neg h2]
def unfitE : List PanicEntry := [{ v := .iface 115 (.agg #[]), recovered := false }]
theorem must_ok (b : Bool) : FnPX Try.prog 56 [.bool b] (fun r => b = true ∧ r = .tup []) (fun ch => b = false ∧ ch = unfitE) := by
  refine FnPX.of_awp Try.func56 ok56 (by kernel_rfl) (by show 1 ≤ _; decide) ?_
  simp only [ac56, rv56, push_cast, reduceIte, Nat.reduceEqDiff, Nat.reduceAdd, Nat.reduceSub, Nat.reduceMul, Nat.reduceBEq, Nat.reduceLT, Nat.reduceLeDiff, reduceCtorEq, Int.reduceToNat, Int.reduceNeg]
  exact ⟨fun h => ⟨by simpa using h, rfl⟩, fun h => by simpa using h⟩
theorem must_clx {pan : List PanicEntry → St → Prop} {d : Option Nat} {b : Bool} {r : List AO} {st : St} {K : St → Prop} (h2 : b = false → pan unfitE st) (h1 : b = true → opsK ⟨Try.prog, 0, fun _ _ _ _ => False, pan⟩ r (st.put d (.tup [])) K) :
    clxK ⟨Try.prog, 0, fun _ _ _ _ => False, pan⟩ d 56 [.sc (.bool b)] r st K :=
  clx_of (FnX.of_px (E := ⟨Try.prog, 0, fun _ _ _ _ => False, pan⟩) (must_ok b) (Q := fun r st' => b = true ∧ r = .tup [] ∧ st' = st) (fun r h => ⟨h.1, h.2, rfl⟩) (fun ch h => by rw [h.2]; exact h2 h.1)) fun rv st' h => by
    obtain ⟨e1, rfl, rfl⟩ := h
    exact h1 e1
theorem must_dec {pan : List PanicEntry → St → Prop} {d : Option Nat} {p : Prop} [Decidable p] {r : List AO} {st : St} {K : St → Prop} (h2 : ¬ p → pan unfitE st) (h1 : p → opsK ⟨Try.prog, 0, fun _ _ _ _ => False, pan⟩ r (st.put d (.tup [])) K) :
    clxK ⟨Try.prog, 0, fun _ _ _ _ => False, pan⟩ d 56 [.sc (.bool (decide p))] r st K :=
  must_clx (fun e => h2 (of_decide_eq_false e)) (fun e => h1 (of_decide_eq_true e))
theorem bsearch_ok (l : List Int) (x : Int) (hs : l.Pairwise (· ≤ ·)) (hl : l.length < 4611686018427387904) : FnEq Try.prog 77 [.sl false 1 (ints l), .int x] (.tup [.int ((l.countP (· < x) : Nat) : Int), .bool (l.contains x)]) := by
  intro w Z zt zb vs hsz hrel
  have h0 : TR w Z (.sl false 1 (ints l)) (vs.getD 0 undef) := hrel 0 _ rfl
  have h1 : TR w Z (.int x) (vs.getD 1 undef) := hrel 1 _ rfl
  have e1 : vs.getD 1 undef = .int .i64 x := by generalize vs.getD 1 undef = u at h1; cases h1; rfl
  have hv : vs = #[vs.getD 0 undef, .int .i64 x] := by
    rw [← e1]
    have hs2 : vs.size = 2 := hsz
    apply Array.ext
    · simpa using hs2
    · intro i h7 h8
      have : i = 0 ∨ i = 1 := by simp at h8; omega
      rcases this with rfl | rfl <;> simp [Array.getD_eq_getD_getElem?, Array.getElem?_eq_getElem h7]
  have tv : ∀ (w' : World) (p : Nat) (b : Bool), TV w' (fun p b => p = true ∧ (Z true b ∨ (w.heap.size ≤ b ∧ b < w'.heap.size))) (.tup [.int (p : Int), .bool b]) (.tuple #[.int .i64 (p : Int), .bool b]) := fun w' p b =>
    ⟨_, rfl, rfl, fun j c hj => by
      rcases j with _ | _ | j
      · cases hj; exact TR.sc (.int .i64 p) rfl
      · cases hj; exact TR.sc (.bool b) rfl
      · simp at hj⟩
  generalize hu : vs.getD 0 undef = u at h0 hv
  rw [hv]
  generalize hL : ints l = L at h0
  cases h0 with
  | sl0 _ _ ad cap hcap =>
    have hl0 : l = [] := by rw [ints_map] at hL; simpa using hL
    subst hl0
    refine (Try.slices_BinarySearch_int_empty ad cap x w).mono ?_
    rintro e w' ⟨rfl, rfl⟩
    exact ⟨_, _, rfl, rfl, tv w' 0 false, RowKit.Below.refl _ _⟩
  | sl _ _ _ b o cap g g0 g1 g2 g3 g4 g5 g6 g7 =>
    have hlen : L.length = l.length := by rw [← hL, ints_map]; simp
    have hcell : ∀ j, j < l.length → w.cell? ⟨b, o + j, none⟩ = some (.int .i64 (l.getD j 0)) := fun j hj => by
      have h8 := g6 j 0 (by omega) (by omega)
      have h9 := g7 j 0 [.sc (.int .i64 (l.getD j 0))] (.sc (.int .i64 (l.getD j 0))) (by rw [← hL, ints_map]; simp [hj]) rfl
      have e9 : g j 0 = .int .i64 (l.getD j 0) := by generalize g j 0 = u at h9; cases h9; rfl
      rw [← e9]
      simpa using h8.1
    have := Try.slices_BinarySearch_int b o l.length cap l x w (Nat.le_refl _) hl hcell (by simpa using hs)
    rw [hlen]
    refine this.mono ?_
    rintro e w' ⟨rfl, q, rfl⟩
    rw [List.take_length]
    exact ⟨_, _, rfl, rfl, tv _ _ _, (RowKit.Below.refl _ _).trans ⟨rfl, rfl, rfl, Nat.le_refl _, fun _ _ => rfl⟩⟩
end Go.Proofs.Ytledbjkolidhkaa
namespace Go.Proofs.Ytledbjkolidhkaa
open Go Go.Vc Txt
def encP : List (Nat × PV) := [(6, .ptr 6 0), (7, .ptr 7 0)]
theorem clos0_ok {b : List (Nat × List PV)} {a : List (Nat × Arr)} {m : List (Nat × Mp)} : FnD Try.prog 55 [6, 7] .returning .returning ⟨encP, b, a, m⟩ (fun st' => st' = ⟨encP, b, a, m⟩) := by
  refine FnD.of_awp (d := 5) (v := .nilIface) 700 Try.func55 ok55_700 (by show 2 ≤ _; decide) rfl ⟨rfl, rfl⟩ rfl ?_
  simp only [ac55_700, encP, List.map_cons, List.map_nil, push_cast, reduceIte, Nat.reduceEqDiff, Nat.reduceAdd, Nat.reduceSub, Nat.reduceMul, Nat.reduceBEq, Nat.reduceLT, Nat.reduceLeDiff, reduceCtorEq, Int.reduceToNat, Int.reduceNeg]
  exact rfl
theorem clos1_ok : FnD Try.prog 55 [6, 7] (.panicking unfitE) (.panicking [{ v := .iface 115 (.agg #[]), recovered := true }]) ⟨encP, [(6, [.nil, .nil, .nil, .nil]), (7, [.int 0])], [], []⟩
    (fun st' => st' = ⟨encP, [(6, [.nil, .nil, .nil, .nil]), (7, [.int 350]), (703, [])], [], []⟩) := by
  refine FnD.of_awp (d := 5) (v := .iface 115 (.agg #[])) 700 Try.func55 ok55_700 (by show 2 ≤ _; decide) rfl ⟨rfl, rfl⟩ rfl ?_
  simp only [ac55_700, encP, List.map_cons, List.map_nil, push_cast, reduceIte, Nat.reduceEqDiff, Nat.reduceAdd, Nat.reduceSub, Nat.reduceMul, Nat.reduceBEq, Nat.reduceLT, Nat.reduceLeDiff, reduceCtorEq, Int.reduceToNat, Int.reduceNeg]
  exact rfl
structure Wire where
  kind : Int
  i : Int
  bit : Int
  deriving DecidableEq, Inhabited
structure Block where
  ins : List Int
  table : Int
  ram : Int
  reg : Int
  key : Int
  deriving DecidableEq, Inhabited
structure Packed where
  ins : List Wire
  blocks : List Block
  out : List Wire
  drive : List Int
  deriving DecidableEq, Inhabited
structure Route where
  sig : Int
  nodes : List Int
  frm : List Int
  deriving DecidableEq, Inhabited
structure Layout where
  pos : List Int
  routes : List Route
  deriving DecidableEq, Inhabited
structure Cfg where
  sel : List Int
  mode : List Int
  tab : List Int
  ram : List Int
  deriving DecidableEq, Inhabited
def wireC (w : Wire) : List PV := [.int w.kind, .int w.i, .int w.bit]
def blockC (q : Bool) (b : Block) : List PV := [.sl q 1 (ints b.ins), .int b.table, .int b.ram, .int b.reg, .sc (.int .u64 b.key)]
def packC (q : Bool) (p : Packed) : List PV := [.sl q 3 (rows wireC p.ins), .sl q 5 (rows (blockC q) p.blocks), .sl q 3 (rows wireC p.out), .sl q 1 (ints p.drive)]
def routeC (q : Bool) (r : Route) : List PV := [.int r.sig, .sl q 1 (ints r.nodes), .sl q 1 (ints r.frm)]
def layC (q : Bool) (l : Layout) : List PV := [.sl q 1 (ints l.pos), .sl q 3 (rows (routeC q) l.routes)]
def cfgC (q : Bool) (c : Cfg) : List PV := [.sl q 1 (ints c.sel), .sl q 1 (ints c.mode), .sl q 1 (ints c.tab), .sl q 1 (ints c.ram)]
@[push_cast] theorem wireC_eq (w : Wire) : wireC w = [.int w.kind, .int w.i, .int w.bit] := rfl
@[push_cast] theorem blockC_eq (q : Bool) (b : Block) : blockC q b = [.sl q 1 (ints b.ins), .int b.table, .int b.ram, .int b.reg, .sc (.int .u64 b.key)] := rfl
@[push_cast] theorem packC_eq (q : Bool) (p : Packed) : packC q p = [.sl q 3 (rows wireC p.ins), .sl q 5 (rows (blockC q) p.blocks), .sl q 3 (rows wireC p.out), .sl q 1 (ints p.drive)] := rfl
@[push_cast] theorem routeC_eq (q : Bool) (r : Route) : routeC q r = [.int r.sig, .sl q 1 (ints r.nodes), .sl q 1 (ints r.frm)] := rfl
@[push_cast] theorem layC_eq (q : Bool) (l : Layout) : layC q l = [.sl q 1 (ints l.pos), .sl q 3 (rows (routeC q) l.routes)] := rfl
@[push_cast] theorem cfgC_eq (q : Bool) (c : Cfg) : cfgC q c = [.sl q 1 (ints c.sel), .sl q 1 (ints c.mode), .sl q 1 (ints c.tab), .sl q 1 (ints c.ram)] := rfl
def cfg0 : Cfg := ⟨[], [], [], []⟩
def panE (bad : Prop) : List PanicEntry → St → Prop := fun ch st => (ch = unfitE ∧ bad) ∧ (lk st.s 6 = some (.ptr 6 0) ∧ lk st.s 7 = some (.ptr 7 0) ∧ lk st.s 60 = some (.clo 55 [6, 7])) ∧ lk st.b 6 = some [.nil, .nil, .nil, .nil] ∧ lk st.b 7 = some [.int 0]
def encV (r : Cfg × Int) : PV := .tup [.agg (cfgC true r.1), .int r.2]
theorem enc_pan {bad : Prop} {r : Cfg × Int} (hb : bad → r = (cfg0, 350)) (ch : List PanicEntry) (st : St) (h : panE bad ch st) :
    lk st.s 60 = some (.clo 55 [6, 7]) ∧ ∃ u', settle u' = .returning ∧ FnD Try.prog 55 [6, 7] (.panicking ch) u' st fun st' => retK rv36 (fun x => Sub x (encV r)) .ret st' := by
  obtain ⟨⟨rfl, h1⟩, ⟨h2, h3, h4⟩, h5, h6⟩ := h
  refine ⟨h4, _, ?_, FnD.sub _ (FnD.mono clos1_ok ?_) (subL_lk (r := encP) ⟨h2, h3, trivial⟩) (subL_lk (α := List PV) (r := [(6, [.nil, .nil, .nil, .nil]), (7, [.int 0])]) ⟨h5, h6, trivial⟩) (fun i v hl => by cases hl) (fun i v hl => by cases hl)⟩
  · rfl
  · rintro st' rfl
    rw [hb h1]
    simp only [encP, encV, cfg0, rv36, push_cast, reduceIte, Nat.reduceEqDiff, Nat.reduceAdd, Nat.reduceSub, Nat.reduceMul, Nat.reduceBEq, Nat.reduceLT, Nat.reduceLeDiff, reduceCtorEq, Int.reduceToNat, Int.reduceNeg]
def foldO {α β : Type} (f : α → β → Option α) : α → List β → Option α
  | a, [] => some a
  | a, x :: r => (f a x).bind fun b => foldO f b r
theorem foldO_append {α β : Type} (f : α → β → Option α) : ∀ (l1 l2 : List β) (a : α), foldO f a (l1 ++ l2) = (foldO f a l1).bind fun b => foldO f b l2
  | [], l2, a => rfl
  | x :: r, l2, a => by
    simp only [List.cons_append, foldO]
    cases f a x with
    | none => rfl
    | some b => exact foldO_append f r l2 b
def blankF (g : Grid) : Cfg := ⟨List.replicate (countF g).toNat 0, List.replicate g.kind.length 0, List.replicate g.kind.length 0, List.replicate g.kind.length 0⟩
def BlockOk (b : Block) : Prop := (-1 ≤ b.ram ∧ b.ram ≤ 255) ∧ (-1 ≤ b.reg ∧ b.reg ≤ 255) ∧ (0 ≤ b.table ∧ b.table ≤ 65535) ∧ min b.ram b.reg = -1
instance (b : Block) : Decidable (BlockOk b) := by unfold BlockOk; infer_instance
def blockSet (c : Cfg) (b : Block) (t : Nat) : Cfg :=
  if 0 ≤ b.ram then { c with mode := c.mode.set t 3, ram := c.ram.set t b.ram }
  else if 0 ≤ b.reg then { c with mode := c.mode.set t 2, tab := c.tab.set t b.table, ram := c.ram.set t b.reg }
  else { c with mode := c.mode.set t 1, tab := c.tab.set t b.table }
def blockF (g : Grid) (c : Cfg) (x : Block × Int) : Option Cfg :=
  if (0 ≤ x.2 ∧ x.2 ≤ (g.kind.length : Int) - 1) ∧ c.mode.getD x.2.toNat 0 = 0 then
    if BlockOk x.1 then
      if holdsF (g.kind.getD x.2.toNat 0) ((blockSet c x.1 x.2.toNat).mode.getD x.2.toNat 0) = true then some (blockSet c x.1 x.2.toNat) else none
    else none
  else none
def stepN (g : Grid) (a : List Int × List Int) (i : Nat) (node f x : Int) : Option (List Int × List Int) :=
  if (0 ≤ node ∧ node ≤ (a.1.length : Int) - 1) ∧ node ∉ a.2 then
    if i = 0 then if driversF g node = [] then some (a.1, a.2 ++ [node]) else none
    else if 0 ≤ f ∧ f ≤ (i : Int) - 1 then
      if x ∈ driversF g node then some (a.1.set node.toNat (1 + ((driversF g node).countP (· < x) : Nat)), a.2 ++ [node]) else none
    else none
  else none
def stepF (g : Grid) (r : Route) (a : List Int × List Int) (i : Nat) : Option (List Int × List Int) := stepN g a i (r.nodes.getD i 0) (r.frm.getD i 0) (r.nodes.getD (r.frm.getD i 0).toNat 0)
def routeF (g : Grid) (a : List Int × List Int) (r : Route) : Option (List Int × List Int) :=
  if r.nodes ≠ [] ∧ r.frm.length = r.nodes.length ∧ r.frm.getD 0 0 = -1 then foldO (stepF g r) a (List.range r.nodes.length) else none
def encO (p : Packed) (g : Grid) (l : Layout) : Option Cfg :=
  if l.pos.length = p.blocks.length then
    (foldO (blockF g) (blankF g) (p.blocks.zip l.pos)).bind fun c => (foldO (routeF g) (c.sel, []) l.routes).map fun a => { c with sel := a.1 }
  else none
def encF (p : Packed) (g : Grid) (l : Layout) : Cfg × Int := match encO p g l with | some c => (c, 0) | none => (cfg0, 350)
def encA (c : Cfg) : List (Nat × Arr) := [(109, ⟨1, 3, ints c.sel⟩), (111, ⟨1, 3, ints c.mode⟩), (113, ⟨1, 3, ints c.tab⟩), (115, ⟨1, 3, ints c.ram⟩)]
def encB (p : Packed) (g : Grid) (l : Layout) : List (Nat × List PV) := [(3, packC false p), (4, gridC false g), (5, layC false l), (6, [.nil, .nil, .nil, .nil]), (7, [.int 0])]
def bSt (p : Packed) (g : Grid) (l : Layout) (q r : Bool) : St :=
  ⟨[(3, .ptr 3 0), (4, .ptr 4 0), (5, .ptr 5 0), (6, .ptr 6 0), (7, .ptr 7 0)] ++ (if q then [(14, .agg (gridC false g))] else []) ++ [(15, .agg (gridC false g))] ++ (if r then [(17, .mp 17)] else []) ++ [(60, .clo 55 [6, 7])],
   encB p g l, [], if r then [(17, ⟨.int .i64, [], none⟩)] else []⟩
theorem blankm_ok (p : Packed) (g : Grid) (hg : GOk g) (l : Layout) (q r : Bool) : FnM (Env.of Try.prog) 20 [.agg (gridC false g)] (bSt p g l q r) (fun v st' =>
    v = .agg [.view 109 0 (countF g).toNat, .view 111 0 g.kind.length, .view 113 0 g.kind.length, .view 115 0 g.kind.length] ∧ st' = { bSt p g l q r with a := encA (blankF g) }) := by
  have h1 := hg.count
  have h2 := hg.wh
  have h3 := hg.kind
  refine FnM.dropB 101 (FnM.dropB 102 ?_)
  cases q <;> cases r <;> simp only [bSt, encB, List.cons_append, List.nil_append, push_cast, reduceIte, Nat.reduceEqDiff, Nat.reduceAdd, Nat.reduceSub, Nat.reduceMul, Nat.reduceBEq, Nat.reduceLT, Nat.reduceLeDiff, reduceCtorEq, Int.reduceToNat, Int.reduceNeg]
  all_goals
    refine fnM_of 100 Try.func20 ok20_100 (by show 1 ≤ _; decide) rfl (by decide) ?_
    simp only [ac20_100, rv20_100, push_cast, reduceIte, Nat.reduceEqDiff, Nat.reduceAdd, Nat.reduceSub, Nat.reduceMul, Nat.reduceBEq, Nat.reduceLT, Nat.reduceLeDiff, reduceCtorEq, Int.reduceToNat, Int.reduceNeg]
    refine dcal_sub (ccount_ok g hg) (by simp only [push_cast, reduceIte, Nat.reduceEqDiff, Nat.reduceAdd, Nat.reduceSub, Nat.reduceMul, Nat.reduceBEq, Nat.reduceLT, Nat.reduceLeDiff, reduceCtorEq, Int.reduceToNat, Int.reduceNeg]) rfl ?_
    simp only [push_cast, reduceIte, Nat.reduceEqDiff, Nat.reduceAdd, Nat.reduceSub, Nat.reduceMul, Nat.reduceBEq, Nat.reduceLT, Nat.reduceLeDiff, reduceCtorEq, Int.reduceToNat, Int.reduceNeg]
    refine ⟨by omega, by omega, by omega, by omega, ?_, ?_⟩
    · simp
    · simp only [encA, blankF, List.length_replicate, push_cast, reduceIte, Nat.reduceEqDiff, Nat.reduceAdd, Nat.reduceSub, Nat.reduceMul, Nat.reduceBEq, Nat.reduceLT, Nat.reduceLeDiff, reduceCtorEq, Int.reduceToNat, Int.reduceNeg]
end Go.Proofs.Ytledbjkolidhkaa
namespace Go.Proofs.Ytledbjkolidhkaa
open Go Go.Vc Txt
def wrC (g : Grid) : List PV := gridC false g ++ [.view 109 0 (countF g).toNat, .view 111 0 g.kind.length, .view 113 0 g.kind.length, .view 115 0 g.kind.length, .mp 17]
@[push_cast] theorem wrC_eq (g : Grid) : wrC g = [.int g.w, .int g.h, .int g.tracks, .int g.pads, .sl false 1 (ints g.kind), .view 109 0 (countF g).toNat, .view 111 0 g.kind.length, .view 113 0 g.kind.length, .view 115 0 g.kind.length, .mp 17] := rfl
@[push_cast] theorem encA_eq (c : Cfg) : encA c = [(109, ⟨1, 3, ints c.sel⟩), (111, ⟨1, 3, ints c.mode⟩), (113, ⟨1, 3, ints c.tab⟩), (115, ⟨1, 3, ints c.ram⟩)] := rfl
structure CfgOk (g : Grid) (c : Cfg) : Prop where
  sel : c.sel.length = (countF g).toNat
  mode : c.mode.length = g.kind.length
  tab : c.tab.length = g.kind.length
  ram : c.ram.length = g.kind.length
theorem lk_lowL (k i : Nat) (h : i < k) : ∀ l : List (Nat × PV), lk (l.filter fun x => decide (x.1 < k)) i = lk l i
  | [] => rfl
  | (j, v) :: r => by
    by_cases e : j < k
    · rw [List.filter_cons_of_pos (by simpa using e)]
      simp only [lk]
      split
      · rfl
      · exact lk_lowL k i h r
    · rw [List.filter_cons_of_neg (by simpa using e)]
      simp only [lk]
      rw [if_neg (by omega)]
      exact lk_lowL k i h r
theorem panE_low {bad : Prop} {K : Nat} (hK : 61 ≤ K) (ch : List PanicEntry) (st : St) (h : panE bad ch st) : panE bad ch (st.low K) := by
  obtain ⟨h1, ⟨h2, h3, h4⟩, h5, h6⟩ := h
  refine ⟨h1, ⟨?_, ?_, ?_⟩, h5, h6⟩
  · exact (lk_lowL K 6 (by omega) _).trans h2
  · exact (lk_lowL K 7 (by omega) _).trans h3
  · exact (lk_lowL K 60 (by omega) _).trans h4
end Go.Proofs.Ytledbjkolidhkaa
namespace Go.Vc
theorem FnX.dropB {E : Env} {f : Nat} {args : List PV} {st : St} {Q : PV → St → Prop} (i : Nat) (h : FnX E f args st fun r st' => Q r { st' with b := rm st'.b i }) : FnX E f args st Q :=
  ⟨h.1, fun w0 Z0 X G Z L w vs h1 h2 h3 => (h.2 w0 Z0 X G Z L w vs h1 h2 h3).mono fun _ _ h => h.imp (fun ⟨v, r, st', Z', L', e1, e2, e3, e4⟩ => ⟨v, r, _, Z', L', e1, e2, e3.rmBox i, e4⟩) id⟩
end Go.Vc
namespace Go.Proofs.Ytledbjkolidhkaa
open Go Go.Vc Txt
def bkB (p : Packed) (g : Grid) (l : Layout) : List (Nat × List PV) := [(3, packC false p), (5, layC false l), (6, [.nil, .nil, .nil, .nil]), (7, [.int 0]), (19, wrC g)]
def bkS (p : Packed) (l : Layout) (k : Nat) : List (Nat × PV) := [(3, .ptr 3 0), (5, .ptr 5 0), (6, .ptr 6 0), (7, .ptr 7 0), (8, .ptr 19 0), (9, .int k), (10, .int (l.pos.getD k default)), (29, .sl false 1 (ints l.pos)), (30, .int l.pos.length), (31, .int k), (36, .ptr 19 0), (37, .ptr 3 1),
  (38, .sl false 5 (rows (blockC false) p.blocks)), (39, .int k), (40, .iptr false ((rows (blockC false) p.blocks).getD k []) 0), (41, .agg (blockC false (p.blocks.getD k default))), (42, .int (l.pos.getD k default)), (60, .clo 55 [6, 7])]
def bkM : List (Nat × Mp) := [(17, ⟨.int .i64, [], none⟩)]
def bkB2 (p : Packed) (g : Grid) (l : Layout) (b : Block) : List (Nat × List PV) := bkB p g l ++ [(104, blockC false b)]
def bkS2 (p : Packed) (l : Layout) (k : Nat) (t : Int) : List (Nat × PV) := bkS p l k ++ [(100, .ptr 19 0), (102, .int t)]
set_option maxRecDepth 20000 in
theorem blk8 (bad : Prop) (p : Packed) (g : Grid) (l : Layout) (k : Nat) (c : Cfg) (hc : CfgOk g c) (b : Block) (t : Int) (ht : 0 ≤ t ∧ t ≤ (g.kind.length : Int) - 1) (hbad : ¬ holdsF (g.kind.getD t.toNat 0) (c.mode.getD t.toNat 0) = true → bad)
    {Q : PV → St → Prop} (hQ : holdsF (g.kind.getD t.toNat 0) (c.mode.getD t.toNat 0) = true → Q (.tup []) ⟨bkS p l k, bkB2 p g l b, encA c, bkM⟩) {st : St} (hst : st.keepS [100, 132, 100, 102] = ⟨bkS2 p l k t, bkB2 p g l b, encA c, bkM⟩) :
    awp ⟨Try.prog, 0, fun _ _ _ _ => False, panE bad⟩ ac57_100_q8 (retM 100 [] Q) st := by
  have hcm := hc.mode
  rw [ac57_100_q8, a_drw, hst]
  simp only [bkS, bkS2, bkB, bkB2, bkM, List.cons_append, List.nil_append, push_cast, reduceIte, Nat.reduceEqDiff, Nat.reduceAdd, Nat.reduceSub, Nat.reduceMul, Nat.reduceBEq, Nat.reduceLT, Nat.reduceLeDiff, reduceCtorEq, Int.reduceToNat, Int.reduceNeg] at hQ ⊢
  refine ⟨by omega, by omega, by omega, by omega, ?_⟩
  refine cal_eq (holds_ok _ _) ?_
  simp only [push_cast, reduceIte, Nat.reduceEqDiff, Nat.reduceAdd, Nat.reduceSub, Nat.reduceMul, Nat.reduceBEq, Nat.reduceLT, Nat.reduceLeDiff, reduceCtorEq, Int.reduceToNat, Int.reduceNeg]
  refine must_clx (fun h => ⟨⟨rfl, hbad (Bool.eq_false_iff.1 h)⟩, ⟨rfl, rfl, rfl⟩, rfl, rfl⟩) fun h => ?_
  simp only [push_cast, reduceIte, Nat.reduceEqDiff, Nat.reduceAdd, Nat.reduceSub, Nat.reduceMul, Nat.reduceBEq, Nat.reduceLT, Nat.reduceLeDiff, reduceCtorEq, Int.reduceToNat, Int.reduceNeg]
  exact hQ h
set_option maxHeartbeats 4000000 in
set_option maxRecDepth 20000 in
theorem block_q (bad : Prop) (p : Packed) (g : Grid) (hg : GOk g) (l : Layout) (k : Nat) (c : Cfg) (hc : CfgOk g c) (b : Block) (t : Int) (hbad : blockF g c (b, t) = none → bad)
    {Q : PV → St → Prop} (hQ : ∀ c', blockF g c (b, t) = some c' → Q (.tup []) ⟨bkS p l k, bkB2 p g l b, encA c', bkM⟩) : FnX ⟨Try.prog, 0, fun _ _ _ _ => False, panE bad⟩ 57 [.ptr 19 0, .agg (blockC false b), .int t] ⟨bkS p l k, bkB p g l, encA c, bkM⟩ Q := by
  have h1 := hg.count
  have h2 := hg.wh
  have h3 := hg.kind
  simp only [bkS, bkB, bkM, push_cast, reduceIte, Nat.reduceEqDiff, Nat.reduceAdd, Nat.reduceSub, Nat.reduceMul, Nat.reduceBEq, Nat.reduceLT, Nat.reduceLeDiff, reduceCtorEq, Int.reduceToNat, Int.reduceNeg]
  refine fnX_of 100 Try.func57 ok57_100 (by show 3 ≤ _; decide) rfl (Nat.zero_le _) (fun ch st h => panE_low (by decide) ch st h) ?_
  simp only [ac57_100, rv57_100, push_cast, reduceIte, Nat.reduceEqDiff, Nat.reduceAdd, Nat.reduceSub, Nat.reduceMul, Nat.reduceBEq, Nat.reduceLT, Nat.reduceLeDiff, reduceCtorEq, Int.reduceToNat, Int.reduceNeg]
  have hcm := hc.mode
  have hct := hc.tab
  have hcr := hc.ram
  refine ⟨by omega, ?_⟩
  refine cal_eq (within_ok _ _ _) ?_
  simp only [push_cast, reduceIte, Nat.reduceEqDiff, Nat.reduceAdd, Nat.reduceSub, Nat.reduceMul, Nat.reduceBEq, Nat.reduceLT, Nat.reduceLeDiff, reduceCtorEq, Int.reduceToNat, Int.reduceNeg]
  refine grd_dec rfl (fun ht => ?_) fun ht => ?_ <;> simp only [push_cast, reduceIte, Nat.reduceEqDiff, Nat.reduceAdd, Nat.reduceSub, Nat.reduceMul, Nat.reduceBEq, Nat.reduceLT, Nat.reduceLeDiff, reduceCtorEq, Int.reduceToNat, Int.reduceNeg]
  rotate_left
  · refine must_clx (fun _ => ⟨⟨rfl, hbad ?_⟩, ⟨rfl, rfl, rfl⟩, rfl, rfl⟩) fun h => absurd h (by decide)
    rw [blockF, if_neg (fun h => ht h.1)]
  refine ⟨by omega, by omega, ?_⟩
  refine must_dec (fun hm => ⟨⟨rfl, hbad ?_⟩, ⟨rfl, rfl, rfl⟩, rfl, rfl⟩) fun hm => ?_
  · rw [blockF, if_neg (fun h => hm h.2)]
  simp only [push_cast, reduceIte, Nat.reduceEqDiff, Nat.reduceAdd, Nat.reduceSub, Nat.reduceMul, Nat.reduceBEq, Nat.reduceLT, Nat.reduceLeDiff, reduceCtorEq, Int.reduceToNat, Int.reduceNeg]
  refine cal_eq (within_ok _ _ _) ?_
  simp only [push_cast, reduceIte, Nat.reduceEqDiff, Nat.reduceAdd, Nat.reduceSub, Nat.reduceMul, Nat.reduceBEq, Nat.reduceLT, Nat.reduceLeDiff, reduceCtorEq, Int.reduceToNat, Int.reduceNeg]
  have hm' : c.mode.getD t.toNat 0 = 0 := hm
  refine grd_dec rfl (fun e1 => ?_) fun e1 => ?_ <;> simp only [push_cast, reduceIte, Nat.reduceEqDiff, Nat.reduceAdd, Nat.reduceSub, Nat.reduceMul, Nat.reduceBEq, Nat.reduceLT, Nat.reduceLeDiff, reduceCtorEq, Int.reduceToNat, Int.reduceNeg]
  rotate_left
  · refine must_clx (fun _ => ⟨⟨rfl, hbad ?_⟩, ⟨rfl, rfl, rfl⟩, rfl, rfl⟩) fun h => absurd h (by decide)
    rw [blockF, if_pos ⟨ht, hm'⟩, if_neg (fun h => e1 h.1)]
  refine cal_eq (within_ok _ _ _) ?_
  simp only [push_cast, reduceIte, Nat.reduceEqDiff, Nat.reduceAdd, Nat.reduceSub, Nat.reduceMul, Nat.reduceBEq, Nat.reduceLT, Nat.reduceLeDiff, reduceCtorEq, Int.reduceToNat, Int.reduceNeg]
  refine grd_dec rfl (fun e2 => ?_) fun e2 => ?_ <;> simp only [push_cast, reduceIte, Nat.reduceEqDiff, Nat.reduceAdd, Nat.reduceSub, Nat.reduceMul, Nat.reduceBEq, Nat.reduceLT, Nat.reduceLeDiff, reduceCtorEq, Int.reduceToNat, Int.reduceNeg]
  rotate_left
  · refine must_clx (fun _ => ⟨⟨rfl, hbad ?_⟩, ⟨rfl, rfl, rfl⟩, rfl, rfl⟩) fun h => absurd h (by decide)
    rw [blockF, if_pos ⟨ht, hm'⟩, if_neg (fun h => e2 h.2.1)]
  refine cal_eq (within_ok _ _ _) ?_
  simp only [push_cast, reduceIte, Nat.reduceEqDiff, Nat.reduceAdd, Nat.reduceSub, Nat.reduceMul, Nat.reduceBEq, Nat.reduceLT, Nat.reduceLeDiff, reduceCtorEq, Int.reduceToNat, Int.reduceNeg]
  refine grd_dec rfl (fun e3 => ?_) fun e3 => ?_ <;> simp only [push_cast, reduceIte, Nat.reduceEqDiff, Nat.reduceAdd, Nat.reduceSub, Nat.reduceMul, Nat.reduceBEq, Nat.reduceLT, Nat.reduceLeDiff, reduceCtorEq, Int.reduceToNat, Int.reduceNeg]
  rotate_left
  · refine must_clx (fun _ => ⟨⟨rfl, hbad ?_⟩, ⟨rfl, rfl, rfl⟩, rfl, rfl⟩) fun h => absurd h (by decide)
    rw [blockF, if_pos ⟨ht, hm'⟩, if_neg (fun h => e3 h.2.2.1)]
  refine must_dec (fun e4 => ⟨⟨rfl, hbad ?_⟩, ⟨rfl, rfl, rfl⟩, rfl, rfl⟩) fun e4 => ?_
  · rw [blockF, if_pos ⟨ht, hm'⟩, if_neg (fun h => e4 h.2.2.2)]
  simp only [push_cast, reduceIte, Nat.reduceEqDiff, Nat.reduceAdd, Nat.reduceSub, Nat.reduceMul, Nat.reduceBEq, Nat.reduceLT, Nat.reduceLeDiff, reduceCtorEq, Int.reduceToNat, Int.reduceNeg]
  have hB : BlockOk b := ⟨e1, e2, e3, e4⟩
  have e8 : ∀ c' : Cfg, CfgOk g c' → blockSet c b t.toNat = c' → ∀ st : St, st.keepS [100, 132, 100, 102] = ⟨bkS2 p l k t, bkB2 p g l b, encA c', bkM⟩ → awp ⟨Try.prog, 0, fun _ _ _ _ => False, panE bad⟩ ac57_100_q8 (retM 100 [] Q) st := by
    intro c' hc' hs st hst
    refine blk8 bad p g l k c' hc' b t ht (fun h => hbad ?_) (fun h => hQ c' ?_) hst
    · rw [blockF, if_pos ⟨ht, hm'⟩, if_pos hB]
      simp only [hs]
      rw [if_neg h]
    · rw [blockF, if_pos ⟨ht, hm'⟩, if_pos hB]
      simp only [hs]
      rw [if_pos h]
  refine cond_dec (fun h5 => ?_) fun h5 => ?_
  · simp only [ac57_100_q5, push_cast, reduceIte, Nat.reduceEqDiff, Nat.reduceAdd, Nat.reduceSub, Nat.reduceMul, Nat.reduceBEq, Nat.reduceLT, Nat.reduceLeDiff, reduceCtorEq, Int.reduceToNat, Int.reduceNeg]
    refine ⟨by omega, by omega, by omega, by omega, e8 { c with mode := c.mode.set t.toNat 3, ram := c.ram.set t.toNat b.ram } ⟨hc.sel, by simpa using hcm, hct, by simpa using hcr⟩ (by simp only [blockSet]; rw [if_pos h5]) _ ?_⟩
    simp only [bkS, bkS2, bkB, bkB2, bkM, List.cons_append, List.nil_append, push_cast, reduceIte, Nat.reduceEqDiff, Nat.reduceAdd, Nat.reduceSub, Nat.reduceMul, Nat.reduceBEq, Nat.reduceLT, Nat.reduceLeDiff, reduceCtorEq, Int.reduceToNat, Int.reduceNeg]
    trace_state
  · refine cond_dec (fun h6 => ?_) fun h6 => ?_
    · simp only [ac57_100_q7, push_cast, reduceIte, Nat.reduceEqDiff, Nat.reduceAdd, Nat.reduceSub, Nat.reduceMul, Nat.reduceBEq, Nat.reduceLT, Nat.reduceLeDiff, reduceCtorEq, Int.reduceToNat, Int.reduceNeg]
      refine ⟨by omega, by omega, by omega, by omega, by omega, by omega, e8 { c with mode := c.mode.set t.toNat 2, tab := c.tab.set t.toNat b.table, ram := c.ram.set t.toNat b.reg } ⟨hc.sel, by simpa using hcm, by simpa using hct, by simpa using hcr⟩ (by simp only [blockSet]; rw [if_neg h5, if_pos h6]) _ ?_⟩
      simp only [bkS, bkS2, bkB, bkB2, bkM, List.cons_append, List.nil_append, push_cast, reduceIte, Nat.reduceEqDiff, Nat.reduceAdd, Nat.reduceSub, Nat.reduceMul, Nat.reduceBEq, Nat.reduceLT, Nat.reduceLeDiff, reduceCtorEq, Int.reduceToNat, Int.reduceNeg]
    · simp only [ac57_100_q3, push_cast, reduceIte, Nat.reduceEqDiff, Nat.reduceAdd, Nat.reduceSub, Nat.reduceMul, Nat.reduceBEq, Nat.reduceLT, Nat.reduceLeDiff, reduceCtorEq, Int.reduceToNat, Int.reduceNeg]
      refine ⟨by omega, by omega, by omega, by omega, e8 { c with mode := c.mode.set t.toNat 1, tab := c.tab.set t.toNat b.table } ⟨hc.sel, by simpa using hcm, by simpa using hct, hcr⟩ (by simp only [blockSet]; rw [if_neg h5, if_neg h6]) _ ?_⟩
      simp only [bkS, bkS2, bkB, bkB2, bkM, List.cons_append, List.nil_append, push_cast, reduceIte, Nat.reduceEqDiff, Nat.reduceAdd, Nat.reduceSub, Nat.reduceMul, Nat.reduceBEq, Nat.reduceLT, Nat.reduceLeDiff, reduceCtorEq, Int.reduceToNat, Int.reduceNeg]
theorem block_ok (bad : Prop) (p : Packed) (g : Grid) (hg : GOk g) (l : Layout) (k : Nat) (c : Cfg) (hc : CfgOk g c) (b : Block) (t : Int) (hbad : blockF g c (b, t) = none → bad) : FnX ⟨Try.prog, 0, fun _ _ _ _ => False, panE bad⟩ 57 [.ptr 19 0, .agg (blockC false b), .int t] ⟨bkS p l k, bkB p g l, encA c, bkM⟩
    (fun r st' => r = .tup [] ∧ ∃ c', blockF g c (b, t) = some c' ∧ st' = ⟨bkS p l k, bkB p g l, encA c', bkM⟩) :=
  FnX.dropB 104 (block_q bad p g hg l k c hc b t hbad fun c' h => ⟨rfl, c', h, rfl⟩)
end Go.Proofs.Ytledbjkolidhkaa
namespace Go.Proofs.Ytledbjkolidhkaa
open Go Go.Vc Txt
theorem compactUpTo_ord (zs : List Int) (hs : zs.Pairwise (· ≤ ·)) : ∀ m, m ≤ zs.length → (Go.Lib.compactUpTo zs.toArray m).Pairwise (· < ·) ∧ ∀ x, x ∈ Go.Lib.compactUpTo zs.toArray m ↔ x ∈ zs.take m
  | 0, _ => by simp [Go.Lib.compactUpTo]
  | m + 1, hm => by
    obtain ⟨h1, h2⟩ := compactUpTo_ord zs hs m (by omega)
    have hlt : m < zs.length := by omega
    have hget : zs.toArray[m]! = zs[m] := by simp [hlt]
    have htk : zs.take (m + 1) = zs.take m ++ [zs[m]] := List.take_succ_eq_append_getElem hlt
    rw [Go.Lib.compactUpTo_succ, htk, hget]
    have hle : ∀ a b (ha : a < zs.length) (hb : b < zs.length), a ≤ b → zs[a] ≤ zs[b] := fun a b ha hb hab => by
      by_cases e : a = b
      · subst e; exact Int.le_refl _
      · exact List.pairwise_iff_getElem.1 hs a b ha hb (by omega)
    by_cases hm0 : m = 0
    · subst hm0
      rw [if_pos (Go.Lib.keeps_lt_one _ 0 (by omega))]
      simp [Go.Lib.compactUpTo]
    have hget2 : zs.toArray[m - 1]! = zs[m - 1] := by simp [show m - 1 < zs.length by omega]
    by_cases e : zs[m - 1] = zs[m]
    · rw [if_neg (by rw [Go.Lib.keeps_neg (by omega) (by rw [hget, hget2, e])]; decide), List.append_nil]
      refine ⟨h1, fun x => ?_⟩
      rw [h2 x, List.mem_append, List.mem_singleton]
      refine ⟨.inl, fun h => h.elim _root_.id fun e2 => ?_⟩
      subst e2
      rw [← e]
      exact List.mem_iff_getElem.2 ⟨m - 1, by simp; omega, by simp⟩
    · rw [if_pos (Go.Lib.keeps_pos (by rw [hget, hget2]; exact Ne.symm e))]
      refine ⟨List.pairwise_append.2 ⟨h1, List.pairwise_singleton _ _, fun x hx y hy => ?_⟩, fun x => by rw [List.mem_append, List.mem_append, h2 x]⟩
      rw [List.mem_singleton] at hy
      subst hy
      have hx := (h2 x).1 hx
      obtain ⟨j, hj, rfl⟩ := List.getElem_of_mem hx
      have hj2 : j < m := by simp at hj; omega
      rw [List.getElem_take]
      have h3 := hle j (m - 1) (by omega) (by omega) (by omega)
      have h4 := hle (m - 1) m (by omega) hlt (by omega)
      omega
theorem sortF_ord (l : List Int) : (sortF l).Pairwise (· ≤ ·) := by
  have := List.pairwise_mergeSort (le := fun x y : Int => decide (x ≤ y)) (fun a b c h1 h2 => by simp at *; omega) (fun a b => by simp; omega) l
  exact this.imp fun h => by simpa using h
theorem sortF_mem (l : List Int) (x : Int) : x ∈ sortF l ↔ x ∈ l := List.mem_mergeSort
theorem compact_ord (l : List Int) : (Go.Lib.compact (sortF l)).Pairwise (· < ·) ∧ ∀ x, x ∈ Go.Lib.compact (sortF l) ↔ x ∈ l := by
  obtain ⟨h1, h2⟩ := compactUpTo_ord (sortF l) (sortF_ord l) (sortF l).length (Nat.le_refl _)
  refine ⟨h1, fun x => ?_⟩
  rw [Go.Lib.compact, h2 x, List.take_length, sortF_mem]
theorem sortedF_ord (l : List Int) (b : Int) : (sortedF l b).Pairwise (· < ·) ∧ ∀ x, x ∈ sortedF l b ↔ x ∈ l ∧ x ≠ b := by
  obtain ⟨h1, h2⟩ := compact_ord l
  refine ⟨h1.filter _, fun x => ?_⟩
  rw [sortedF, delF, List.mem_filter, h2 x]
  simp
theorem driversF_ord (g : Grid) (n : Int) : (driversF g n).Pairwise (· < ·) := by
  rw [driversF]
  split
  · exact (sortedF_ord _ _).1
  · exact .nil
theorem driversF_mem (g : Grid) (n x : Int) : x ∈ driversF g n ↔ (descE g n).2 = 0 ∧ x ∈ rawD g (descE g n).1 ∧ x ≠ n := by
  rw [driversF]
  split
  · rename_i h; rw [(sortedF_ord _ _).2]; simp [h]
  · rename_i h; simp [h]
theorem rawD_len (g : Grid) (hg : GOk g) (s : Spot) : ((rawD g s).length : Int) ≤ 100000 := by
  have ht := hg.tracks
  have hal : ∀ x y, (allF g [] x y).length ≤ 256 := fun x y => by
    have := allN_len g x y [] g.tracks.toNat
    rw [allF]
    simp only [List.length_nil] at this
    omega
  rw [rawD]
  split
  · split
    · have := addF_len g (allF g [] s.x s.y) ⟨1, s.x, s.y - 1, 0⟩
      have := hal s.x s.y
      omega
    · have := hal s.x s.y; omega
  · split
    · have := hal (g.w - 1) s.y; omega
    · split
      · have h1 := endF_len g hg s [] s.x s.y
        have h2 := fun x y => endF_len g hg s (endF g s [] s.x s.y) x y
        simp only [List.length_nil] at h1
        have e : endsF g s [] = endsF2 g s (endF g s [] s.x s.y) := rfl
        rw [e, endsF2]
        split <;> split <;> first | omega | (have := h2 (s.x + 1) s.y; omega) | (have := h2 s.x (s.y + 1); omega)
      · simp
theorem driversF_len (g : Grid) (hg : GOk g) (n : Int) : ((driversF g n).length : Int) ≤ 100000 := by
  rw [driversF]
  split
  · rename_i h
    have h1 := rawD_len g hg (descE g n).1
    have h2 : (sortedF (rawD g (descE g n).1) n).length ≤ (rawD g (descE g n).1).length := by
      refine Nat.le_trans (List.length_filter_le _ _) (Nat.le_trans (Go.Lib.compact_length_le _) ?_)
      rw [sortF, List.length_mergeSort]; exact Nat.le_refl _
    omega
  · simp
end Go.Proofs.Ytledbjkolidhkaa
namespace Go.Proofs.Ytledbjkolidhkaa
open Go Go.Vc Txt
theorem foldO_take {α β : Type} {f : α → β → Option α} {a b : α} {l : List β} {k : Nat} {x : β} (hk : l[k]? = some x) (h : foldO f a (l.take k) = some b) : foldO f a (l.take (k + 1)) = f b x := by
  have : l.take (k + 1) = l.take k ++ [x] := by rw [List.take_add_one, hk]; rfl
  rw [this, foldO_append, h]
  simp only [Option.bind_some, foldO]
  cases f b x <;> rfl
theorem foldO_none {α β : Type} {f : α → β → Option α} {a : α} {l : List β} {k : Nat} (h : foldO f a (l.take k) = none) : foldO f a l = none := by
  rw [← List.take_append_drop k l, foldO_append, h]; rfl
def seenM (l : List Int) : List (Value × PV) := l.map fun x => (.int .i64 x, .sc (.bool true))
theorem vEq_i64 (x y : Int) : vEq (.int .i64 x) (.int .i64 y) = decide (x = y) := by
  by_cases h : x = y <;> simp [vEq, h]
theorem mget_seen (x : Int) : ∀ l : List Int, mget (seenM l) (.int .i64 x) = if x ∈ l then some (.sc (.bool true)) else none
  | [] => rfl
  | y :: r => by
    show (if vEq (.int .i64 y) (.int .i64 x) = true then _ else mget (seenM r) _) = _
    rw [vEq_i64, mget_seen x r]
    by_cases h : y = x
    · simp [h]
    · simp [h, Ne.symm h]
theorem mput_seen (x : Int) : ∀ l : List Int, x ∉ l → mput (seenM l) (.int .i64 x) (.sc (.bool true)) = seenM (l ++ [x])
  | [], _ => rfl
  | y :: r, h => by
    show (if vEq (.int .i64 y) (.int .i64 x) = true then _ else _ :: mput (seenM r) _ _) = _
    rw [vEq_i64, mput_seen x r (fun e => h (List.mem_cons_of_mem _ e))]
    have : ¬ y = x := fun e => h (by rw [e]; exact List.mem_cons_self)
    simp [this, seenM]
def rtB (g : Grid) (r : Route) : List (Nat × List PV) := [(6, [.nil, .nil, .nil, .nil]), (7, [.int 0]), (12, routeC false r), (19, wrC g)]
def rtS (l : Layout) (k : Nat) (r : Route) : List (Nat × PV) := [(6, .ptr 6 0), (7, .ptr 7 0), (8, .ptr 19 0), (12, .ptr 12 0), (46, .sl false 3 (rows (routeC false) l.routes)), (47, .int l.routes.length), (48, .int k), (52, .ptr 19 0), (53, .agg (routeC false r)), (60, .clo 55 [6, 7])]
def rtM (seen : List Int) : List (Nat × Mp) := [(17, ⟨.int .i64, seenM seen, none⟩)]
def onS (l : Layout) (k : Nat) (r : Route) (i : Nat) (node : Int) : List (Nat × PV) := rtS l k r ++ [(100, .ptr 19 0), (103, .ptr 103 0), (104, .int i), (105, .int node), (131, .sl false 1 (ints r.nodes)), (132, .int r.nodes.length), (133, .int i), (138, .ptr 19 0), (139, .int node)]
set_option maxRecDepth 20000 in
theorem once_ok (bad : Prop) (g : Grid) (hg : GOk g) (l : Layout) (k : Nat) (r : Route) (i : Nat) (c : Cfg) (hsl : c.sel.length = (countF g).toNat) (node : Int) (sn : List Int) (hbad : ¬ ((0 ≤ node ∧ node ≤ (c.sel.length : Int) - 1) ∧ node ∉ sn) → bad) :
    FnX ⟨Try.prog, 0, fun _ _ _ _ => False, panE bad⟩ 76 [.ptr 19 0, .int node] ⟨onS l k r i node, rtB g r ++ [(103, routeC false r)], encA c, rtM sn⟩
      (fun rv st' => rv = .tup [] ∧ ((0 ≤ node ∧ node ≤ (c.sel.length : Int) - 1) ∧ node ∉ sn) ∧ st' = ⟨onS l k r i node, rtB g r ++ [(103, routeC false r)], encA c, rtM (sn ++ [node])⟩) := by
  have h1 := hg.count
  simp only [onS, rtS, rtB, rtM, List.cons_append, List.nil_append, push_cast, reduceIte, Nat.reduceEqDiff, Nat.reduceAdd, Nat.reduceSub, Nat.reduceMul, Nat.reduceBEq, Nat.reduceLT, Nat.reduceLeDiff, reduceCtorEq, Int.reduceToNat, Int.reduceNeg]
  refine fnX_of 300 Try.func76 ok76_300 (by show 2 ≤ _; decide) rfl (Nat.zero_le _) (fun ch st h => panE_low (by decide) ch st h) ?_
  simp only [ac76_300, rv76_300, push_cast, reduceIte, Nat.reduceEqDiff, Nat.reduceAdd, Nat.reduceSub, Nat.reduceMul, Nat.reduceBEq, Nat.reduceLT, Nat.reduceLeDiff, reduceCtorEq, Int.reduceToNat, Int.reduceNeg]
  refine ⟨by omega, ?_⟩
  refine cal_eq (within_ok _ _ _) ?_
  simp only [push_cast, reduceIte, Nat.reduceEqDiff, Nat.reduceAdd, Nat.reduceSub, Nat.reduceMul, Nat.reduceBEq, Nat.reduceLT, Nat.reduceLeDiff, reduceCtorEq, Int.reduceToNat, Int.reduceNeg]
  have F : ∀ {st : St}, bad → (lk st.s 6 = some (.ptr 6 0) ∧ lk st.s 7 = some (.ptr 7 0) ∧ lk st.s 60 = some (.clo 55 [6, 7])) → lk st.b 6 = some [.nil, .nil, .nil, .nil] ∧ lk st.b 7 = some [.int 0] → panE bad unfitE st := fun h1 h2 h3 => ⟨⟨rfl, h1⟩, h2, h3⟩
  refine grd_dec rfl (fun e1 => ?_) fun e1 => ?_ <;> simp only [push_cast, reduceIte, Nat.reduceEqDiff, Nat.reduceAdd, Nat.reduceSub, Nat.reduceMul, Nat.reduceBEq, Nat.reduceLT, Nat.reduceLeDiff, reduceCtorEq, Int.reduceToNat, Int.reduceNeg]
  rotate_left
  · refine must_clx (fun _ => F (hbad fun h => e1 ?_) ⟨rfl, rfl, rfl⟩ ⟨rfl, rfl⟩) fun h => absurd h (by decide)
    omega
  have hmg : mlkT false (.sc (.bool false)) (mget (seenM sn) (.int .i64 node)) = .sc (.bool (decide (node ∈ sn))) := by
    rw [mget_seen]
    by_cases h : node ∈ sn <;> simp [h, mlkT]
  simp only [hmg, push_cast, reduceIte, Nat.reduceEqDiff, Nat.reduceAdd, Nat.reduceSub, Nat.reduceMul, Nat.reduceBEq, Nat.reduceLT, Nat.reduceLeDiff, reduceCtorEq, Int.reduceToNat, Int.reduceNeg]
  refine must_clx (fun e2 => F (hbad fun h => h.2 (by simpa using e2)) ⟨rfl, rfl, rfl⟩ ⟨rfl, rfl⟩) fun e2 => ?_
  have e2 : node ∉ sn := by simpa using e2
  simp only [mput_seen node sn e2, push_cast, reduceIte, Nat.reduceEqDiff, Nat.reduceAdd, Nat.reduceSub, Nat.reduceMul, Nat.reduceBEq, Nat.reduceLT, Nat.reduceLeDiff, reduceCtorEq, Int.reduceToNat, Int.reduceNeg]
  exact ⟨⟨by omega, by omega⟩, e2⟩
def rtL (l : Layout) (k : Nat) (r : Route) (i : Nat) : List (Nat × PV) := rtS l k r ++ [(100, .ptr 19 0), (103, .ptr 103 0), (131, .sl false 1 (ints r.nodes)), (132, .int r.nodes.length), (133, .int i)]
set_option maxHeartbeats 4000000 in
set_option maxRecDepth 20000 in
theorem route_q (bad : Prop) (g : Grid) (hg : GOk g) (l : Layout) (k : Nat) (c : Cfg) (hc : CfgOk g c) (seen : List Int) (r : Route) (hr : (r.nodes.length : Int) ≤ 1000000) (hbad : routeF g (c.sel, seen) r = none → bad)
    {Q : PV → St → Prop} (hQ : ∀ a, routeF g (c.sel, seen) r = some a → Q (.tup []) ⟨rtS l k r, rtB g r ++ [(103, routeC false r)], encA { c with sel := a.1 }, rtM a.2⟩) : FnX ⟨Try.prog, 0, fun _ _ _ _ => False, panE bad⟩ 58 [.ptr 19 0, .agg (routeC false r)] ⟨rtS l k r, rtB g r, encA c, rtM seen⟩ Q := by
  have h1 := hg.count
  have hcs := hc.sel
  simp only [rtS, rtB, rtM, List.cons_append, List.nil_append, push_cast, reduceIte, Nat.reduceEqDiff, Nat.reduceAdd, Nat.reduceSub, Nat.reduceMul, Nat.reduceBEq, Nat.reduceLT, Nat.reduceLeDiff, reduceCtorEq, Int.reduceToNat, Int.reduceNeg] at hQ ⊢
  refine fnX_of 100 Try.func58 ok58_100 (by show 2 ≤ _; decide) rfl (Nat.zero_le _) (fun ch st h => panE_low (by decide) ch st h) ?_
  simp only [ac58_100, rv58_100, push_cast, reduceIte, Nat.reduceEqDiff, Nat.reduceAdd, Nat.reduceSub, Nat.reduceMul, Nat.reduceBEq, Nat.reduceLT, Nat.reduceLeDiff, reduceCtorEq, Int.reduceToNat, Int.reduceNeg]
  have F : ∀ {st : St}, bad → (lk st.s 6 = some (.ptr 6 0) ∧ lk st.s 7 = some (.ptr 7 0) ∧ lk st.s 60 = some (.clo 55 [6, 7])) → lk st.b 6 = some [.nil, .nil, .nil, .nil] ∧ lk st.b 7 = some [.int 0] → panE bad unfitE st := fun h1 h2 h3 => ⟨⟨rfl, h1⟩, h2, h3⟩
  refine grd_dec rfl (fun e1 => ?_) fun e1 => ?_ <;> simp only [push_cast, reduceIte, Nat.reduceEqDiff, Nat.reduceAdd, Nat.reduceSub, Nat.reduceMul, Nat.reduceBEq, Nat.reduceLT, Nat.reduceLeDiff, reduceCtorEq, Int.reduceToNat, Int.reduceNeg]
  rotate_left
  · refine must_clx (fun _ => F (hbad ?_) ⟨rfl, rfl, rfl⟩ ⟨rfl, rfl⟩) fun h => absurd h (by decide)
    rw [routeF, if_neg (fun h => e1 ?_)]
    have := List.length_pos_iff.2 h.1
    omega
  refine grd_dec rfl (fun e2 => ?_) fun e2 => ?_ <;> simp only [push_cast, reduceIte, Nat.reduceEqDiff, Nat.reduceAdd, Nat.reduceSub, Nat.reduceMul, Nat.reduceBEq, Nat.reduceLT, Nat.reduceLeDiff, reduceCtorEq, Int.reduceToNat, Int.reduceNeg]
  rotate_left
  · refine must_clx (fun _ => F (hbad ?_) ⟨rfl, rfl, rfl⟩ ⟨rfl, rfl⟩) fun h => absurd h (by decide)
    rw [routeF, if_neg (fun h => e2 ?_)]
    omega
  refine ⟨by omega, by omega, ?_⟩
  refine must_dec (fun e3 => F (hbad ?_) ⟨rfl, rfl, rfl⟩ ⟨rfl, rfl⟩) fun e3 => ?_
  · rw [routeF, if_neg (fun h => e3 h.2.2)]
  have hne : r.nodes ≠ [] := fun e => by rw [e] at e1; simp at e1
  have hlen : r.frm.length = r.nodes.length := by omega
  have hif : routeF g (c.sel, seen) r = foldO (stepF g r) (c.sel, seen) (List.range r.nodes.length) := by rw [routeF, if_pos ⟨hne, hlen, e3⟩]
  rw [hif] at hbad
  simp only [hif] at hQ
  simp only [push_cast, reduceIte, Nat.reduceEqDiff, Nat.reduceAdd, Nat.reduceSub, Nat.reduceMul, Nat.reduceBEq, Nat.reduceLT, Nat.reduceLeDiff, reduceCtorEq, Int.reduceToNat, Int.reduceNeg]
  refine loop_of (fun m st => ∃ (i : Nat) (a : List Int × List Int), i ≤ r.nodes.length ∧ m = r.nodes.length - i ∧ a.1.length = (countF g).toNat ∧ foldO (stepF g r) (c.sel, seen) ((List.range r.nodes.length).take i) = some a ∧
    st = ⟨rtL l k r i, rtB g r ++ [(103, routeC false r)], encA { c with sel := a.1 }, rtM a.2⟩) r.nodes.length ?_ ?_
  · refine ⟨0, (c.sel, seen), by omega, by omega, hcs, rfl, ?_⟩
    simp only [rtL, rtS, rtB, rtM, List.cons_append, List.nil_append, push_cast, reduceIte, Nat.reduceEqDiff, Nat.reduceAdd, Nat.reduceSub, Nat.reduceMul, Nat.reduceBEq, Nat.reduceLT, Nat.reduceLeDiff, reduceCtorEq, Int.reduceToNat, Int.reduceNeg]
  rintro m st ⟨i, ⟨sel, sn⟩, hi, rfl, hsl, hf, rfl⟩
  simp only at hsl hf
  simp only [rtL, rtS, rtB, rtM, List.cons_append, List.nil_append, push_cast, reduceIte, Nat.reduceEqDiff, Nat.reduceAdd, Nat.reduceSub, Nat.reduceMul, Nat.reduceBEq, Nat.reduceLT, Nat.reduceLeDiff, reduceCtorEq, Int.reduceToNat, Int.reduceNeg]
  refine cond_dec (fun h => ⟨by omega, by omega, ?_⟩) fun h => ?_
  · have hi' : i < r.nodes.length := by omega
    have hri : (List.range r.nodes.length)[i]? = some i := by simp [hi']
    have hstep := foldO_take hri hf
    have hbs : stepF g r (sel, sn) i = none → bad := fun e => hbad (foldO_none (k := i + 1) (by rw [hstep]; exact e))
    have e0 : ∀ (l : List Int) (j : Nat), l.getD j default = l.getD j 0 := fun _ _ => rfl
    simp only [e0]
    simp only [stepF] at hstep hbs
    generalize hnd : r.nodes.getD i 0 = node at hstep hbs ⊢
    refine clx_of (once_ok bad g hg l k r i { c with sel := sel } hsl node sn (fun hn => hbs (if_neg hn))) ?_
    rintro rv st' ⟨rfl, hn, rfl⟩
    simp only [onS, rtS, rtB, rtM, List.cons_append, List.nil_append, push_cast, reduceIte, Nat.reduceEqDiff, Nat.reduceAdd, Nat.reduceSub, Nat.reduceMul, Nat.reduceBEq, Nat.reduceLT, Nat.reduceLeDiff, reduceCtorEq, Int.reduceToNat, Int.reduceNeg]
    simp only at hn
    have hsN : ∀ f x, stepN g (sel, sn) i node f x = _ := fun f x => if_pos hn
    simp only [hsN] at hstep hbs
    refine cal_sub (drivers_ok g hg node (by omega)) (by simp only [push_cast, reduceIte, Nat.reduceEqDiff, Nat.reduceAdd, Nat.reduceSub, Nat.reduceMul, Nat.reduceBEq, Nat.reduceLT, Nat.reduceLeDiff, reduceCtorEq, Int.reduceToNat, Int.reduceNeg]) ?_
    simp only [push_cast, reduceIte, Nat.reduceEqDiff, Nat.reduceAdd, Nat.reduceSub, Nat.reduceMul, Nat.reduceBEq, Nat.reduceLT, Nat.reduceLeDiff, reduceCtorEq, Int.reduceToNat, Int.reduceNeg]
    refine cond_dec (fun h0 => ?_) fun h0 => ?_
    · have h0 : i = 0 := by omega
      rw [if_pos h0] at hstep hbs
      refine must_dec (fun hd => F (hbs (if_neg fun e => hd (by rw [e]; rfl))) ⟨rfl, rfl, rfl⟩ ⟨rfl, rfl⟩) fun hd => ?_
      have hd : driversF g node = [] := List.length_eq_zero_iff.1 (by omega)
      rw [if_pos hd] at hstep
      simp only [push_cast, reduceIte, Nat.reduceEqDiff, Nat.reduceAdd, Nat.reduceSub, Nat.reduceMul, Nat.reduceBEq, Nat.reduceLT, Nat.reduceLeDiff, reduceCtorEq, Int.reduceToNat, Int.reduceNeg]
      refine ⟨by omega, _, ?_, i + 1, (sel, sn ++ [node]), by omega, rfl, hsl, hstep, ?_⟩
      · omega
      · simp only [rtL, rtS, rtB, rtM, List.cons_append, List.nil_append, push_cast, reduceIte, Nat.reduceEqDiff, Nat.reduceAdd, Nat.reduceSub, Nat.reduceMul, Nat.reduceBEq, Nat.reduceLT, Nat.reduceLeDiff, reduceCtorEq, Int.reduceToNat, Int.reduceNeg]
    · have h0' : ¬ i = 0 := by omega
      simp only [if_neg h0'] at hstep hbs
      refine ⟨by omega, by omega, by omega, ?_⟩
      refine cal_eq (within_ok _ _ _) ?_
      simp only [e0, push_cast, reduceIte, Nat.reduceEqDiff, Nat.reduceAdd, Nat.reduceSub, Nat.reduceMul, Nat.reduceBEq, Nat.reduceLT, Nat.reduceLeDiff, reduceCtorEq, Int.reduceToNat, Int.reduceNeg]
      generalize hfd : r.frm.getD i 0 = f at hstep hbs ⊢
      refine must_dec (fun hw => F (hbs (if_neg hw)) ⟨rfl, rfl, rfl⟩ ⟨rfl, rfl⟩) fun hw => ?_
      simp only [if_pos hw] at hstep hbs
      simp only [ac58_100_q10, e0, push_cast, reduceIte, Nat.reduceEqDiff, Nat.reduceAdd, Nat.reduceSub, Nat.reduceMul, Nat.reduceBEq, Nat.reduceLT, Nat.reduceLeDiff, reduceCtorEq, Int.reduceToNat, Int.reduceNeg]
      simp only [hfd]
      generalize r.nodes.getD f.toNat 0 = x at hstep hbs ⊢
      refine ⟨by omega, by omega, by omega, by omega, ?_⟩
      have hdl := driversF_len g hg node
      refine cal_sub (bsearch_ok (driversF g node) x ((driversF_ord g node).imp fun h => Int.le_of_lt h) (by omega)) (by simp only [push_cast, reduceIte, Nat.reduceEqDiff, Nat.reduceAdd, Nat.reduceSub, Nat.reduceMul, Nat.reduceBEq, Nat.reduceLT, Nat.reduceLeDiff, reduceCtorEq, Int.reduceToNat, Int.reduceNeg]) ?_
      simp only [push_cast, reduceIte, Nat.reduceEqDiff, Nat.reduceAdd, Nat.reduceSub, Nat.reduceMul, Nat.reduceBEq, Nat.reduceLT, Nat.reduceLeDiff, reduceCtorEq, Int.reduceToNat, Int.reduceNeg]
      refine must_clx (fun e => F (hbs (if_neg (by simpa using e))) ⟨rfl, rfl, rfl⟩ ⟨rfl, rfl⟩) fun e => ?_
      rw [if_pos (by simpa using e)] at hstep
      have hcp : (driversF g node).countP (fun y => decide (y < x)) ≤ (driversF g node).length := List.countP_le_length
      simp only [push_cast, reduceIte, Nat.reduceEqDiff, Nat.reduceAdd, Nat.reduceSub, Nat.reduceMul, Nat.reduceBEq, Nat.reduceLT, Nat.reduceLeDiff, reduceCtorEq, Int.reduceToNat, Int.reduceNeg]
      refine ⟨by omega, by omega, by omega, by omega, _, ?_, i + 1, _, by omega, rfl, ?_, hstep, ?_⟩
      · omega
      · simpa using hsl
      · simp only [rtL, rtS, rtB, rtM, List.cons_append, List.nil_append, push_cast, reduceIte, Nat.reduceEqDiff, Nat.reduceAdd, Nat.reduceSub, Nat.reduceMul, Nat.reduceBEq, Nat.reduceLT, Nat.reduceLeDiff, reduceCtorEq, Int.reduceToNat, Int.reduceNeg]
  · rw [List.take_of_length_le (by simp; omega)] at hf
    exact hQ _ hf
theorem stepF_len {g : Grid} {r : Route} {a b : List Int × List Int} {i : Nat} (h : stepF g r a i = some b) : b.1.length = a.1.length := by
  unfold stepF stepN at h
  split at h <;> try cases h
  split at h <;> split at h <;> try cases h
  · rfl
  · split at h <;> cases h
    simp
theorem foldO_len {α β γ : Type} {f : α → β → Option α} {m : α → γ} (hf : ∀ a x b, f a x = some b → m b = m a) : ∀ (l : List β) (a b : α), foldO f a l = some b → m b = m a
  | [], a, b, h => by cases h; rfl
  | x :: r, a, b, h => by
    simp only [foldO] at h
    cases e : f a x with
    | none => rw [e] at h; cases h
    | some c => rw [e] at h; exact (foldO_len hf r c b h).trans (hf a x c e)
theorem routeF_len {g : Grid} {r : Route} {a b : List Int × List Int} (h : routeF g a r = some b) : b.1.length = a.1.length := by
  unfold routeF at h
  split at h
  · exact foldO_len (m := fun x => x.1.length) (fun a i b h => stepF_len h) _ _ _ h
  · cases h
theorem route_ok (bad : Prop) (g : Grid) (hg : GOk g) (l : Layout) (k : Nat) (c : Cfg) (hc : CfgOk g c) (seen : List Int) (r : Route) (hr : (r.nodes.length : Int) ≤ 1000000) (hbad : routeF g (c.sel, seen) r = none → bad) :
    FnX ⟨Try.prog, 0, fun _ _ _ _ => False, panE bad⟩ 58 [.ptr 19 0, .agg (routeC false r)] ⟨rtS l k r, rtB g r, encA c, rtM seen⟩
      (fun rv st' => rv = .tup [] ∧ ∃ a, routeF g (c.sel, seen) r = some a ∧ st' = ⟨rtS l k r, rtB g r, encA { c with sel := a.1 }, rtM a.2⟩) :=
  FnX.dropB 103 (route_q bad g hg l k c hc seen r hr hbad fun a h => ⟨rfl, a, h, rfl⟩)
end Go.Proofs.Ytledbjkolidhkaa
namespace Go.Proofs.Ytledbjkolidhkaa
open Go Go.Vc Txt
theorem blockF_ok {g : Grid} {c c' : Cfg} {x : Block × Int} (hc : CfgOk g c) (h : blockF g c x = some c') : CfgOk g c' := by
  unfold blockF at h
  split at h <;> try cases h
  split at h <;> try cases h
  split at h <;> cases h
  have h1 := hc.sel
  have h2 := hc.mode
  have h3 := hc.tab
  have h4 := hc.ram
  unfold blockSet
  split
  · exact ⟨h1, by simpa using h2, h3, by simpa using h4⟩
  · split
    · exact ⟨h1, by simpa using h2, by simpa using h3, by simpa using h4⟩
    · exact ⟨h1, by simpa using h2, by simpa using h3, h4⟩
set_option maxHeartbeats 4000000 in
set_option maxRecDepth 20000 in
theorem encode_ok (p : Packed) (g : Grid) (hg : GOk g) (l : Layout) (hl : (l.pos.length : Int) ≤ 1000000) (hl2 : (l.routes.length : Int) ≤ 1000000) (hl3 : ∀ r ∈ l.routes, (r.nodes.length : Int) ≤ 1000000) : FnEq Try.prog 36 [.agg (packC false p), .agg (gridC false g), .agg (layC false l)] (encV (encF p g l)) := by
  refine FnOK.res (FnOK.mono (FnOK.of_dfr (post := fun x => Sub x (encV (encF p g l))) (ids := [6, 7]) (pan := panE (encF p g l = (cfg0, 350))) Try.func36 ok36 (by show 3 ≤ _; decide) (enc_pan id) ?_) fun _ hx => ⟨_, hx, by simp only [encV, push_cast, reduceIte, Nat.reduceEqDiff, Nat.reduceAdd, Nat.reduceSub, Nat.reduceMul, Nat.reduceBEq, Nat.reduceLT, Nat.reduceLeDiff, reduceCtorEq, Int.reduceToNat, Int.reduceNeg] <;> simp, rfl⟩)
  have e60 : Try.f36.ntmps = 60 := by kernel_rfl
  simp only [ac36, ac36b, List.map_cons, List.map_nil, e60, push_cast, reduceIte, Nat.reduceEqDiff, Nat.reduceAdd, Nat.reduceSub, Nat.reduceMul, Nat.reduceBEq, Nat.reduceLT, Nat.reduceLeDiff, reduceCtorEq, Int.reduceToNat, Int.reduceNeg]
  generalize hQ : Exit.thn _ _ _ = Q
  show allK _ xs36_2 7 [] _ _
  suffices hfin : Q ⟨[(3, .ptr 3 0), (4, .ptr 4 0), (5, .ptr 5 0), (6, .ptr 6 0), (7, .ptr 7 0), (8, .ptr 19 0), (14, .agg (gridC false g)), (15, .agg (gridC false g)), (16, .agg [.view 109 0 (countF g).toNat, .view 111 0 g.kind.length, .view 113 0 g.kind.length, .view 115 0 g.kind.length]),
      (17, .mp 17), (18, .agg (wrC g)), (19, .ptr 19 0), (60, .clo 55 [6, 7])], encB p g l ++ [(19, wrC g)], encA (blankF g), [(17, ⟨.int .i64, [], none⟩)]⟩ by
    repeat' (first
      | exact hfin
      | (with_reducible refine allK_nil ?_ ?_)
      | (refine (?_ : allDn _ _ = true); rfl)
      | (refine (?_ : allDn _ _ = false); rfl)
      | (refine (?_ : List.all _ _ = true); rfl)
      | (with_reducible refine allK_cons ?_ ?_ ?_; rotate_left 2; rw [xs36_2_all]; simp only [rdyB, List.contains_cons, List.contains_nil, List.all_cons, List.all_nil, Nat.reduceBEq, Bool.not_true, Bool.not_false, Bool.or_false, Bool.or_true, Bool.and_true, Bool.and_false, Bool.true_and, Bool.false_and, Bool.false_or, Bool.true_or, beq_self_eq_true, Bool.false_eq_true, true_implies, false_implies, true_and, and_true]; simp only [push_cast, reduceIte, Nat.reduceEqDiff, Nat.reduceAdd, Nat.reduceSub, Nat.reduceMul, Nat.reduceBEq, Nat.reduceLT, Nat.reduceLeDiff, reduceCtorEq, Int.reduceToNat, Int.reduceNeg])
      | (refine clm_eq (blankm_ok p g hg l false false) ?_; simp only [bSt, encB, List.cons_append, List.nil_append, push_cast, reduceIte, Nat.reduceEqDiff, Nat.reduceAdd, Nat.reduceSub, Nat.reduceMul, Nat.reduceBEq, Nat.reduceLT, Nat.reduceLeDiff, reduceCtorEq, Int.reduceToNat, Int.reduceNeg])
      | (refine clm_eq (blankm_ok p g hg l false true) ?_; simp only [bSt, encB, List.cons_append, List.nil_append, push_cast, reduceIte, Nat.reduceEqDiff, Nat.reduceAdd, Nat.reduceSub, Nat.reduceMul, Nat.reduceBEq, Nat.reduceLT, Nat.reduceLeDiff, reduceCtorEq, Int.reduceToNat, Int.reduceNeg])
      | (refine clm_eq (blankm_ok p g hg l true false) ?_; simp only [bSt, encB, List.cons_append, List.nil_append, push_cast, reduceIte, Nat.reduceEqDiff, Nat.reduceAdd, Nat.reduceSub, Nat.reduceMul, Nat.reduceBEq, Nat.reduceLT, Nat.reduceLeDiff, reduceCtorEq, Int.reduceToNat, Int.reduceNeg])
      | (refine clm_eq (blankm_ok p g hg l true true) ?_; simp only [bSt, encB, List.cons_append, List.nil_append, push_cast, reduceIte, Nat.reduceEqDiff, Nat.reduceAdd, Nat.reduceSub, Nat.reduceMul, Nat.reduceBEq, Nat.reduceLT, Nat.reduceLeDiff, reduceCtorEq, Int.reduceToNat, Int.reduceNeg])
      | (refine And.intro ?_ ?_))
  subst hQ
  simp only [encB, List.cons_append, List.nil_append, push_cast, reduceIte, Nat.reduceEqDiff, Nat.reduceAdd, Nat.reduceSub, Nat.reduceMul, Nat.reduceBEq, Nat.reduceLT, Nat.reduceLeDiff, reduceCtorEq, Int.reduceToNat, Int.reduceNeg]
  refine must_dec (fun h1 => ⟨⟨rfl, ?_⟩, ⟨rfl, rfl, rfl⟩, rfl, rfl⟩) fun h1 => ?_
  · have h1 : ¬ l.pos.length = p.blocks.length := by omega
    rw [encF, encO, if_neg h1]
  have hlen : l.pos.length = p.blocks.length := by omega
  simp only [push_cast, reduceIte, Nat.reduceEqDiff, Nat.reduceAdd, Nat.reduceSub, Nat.reduceMul, Nat.reduceBEq, Nat.reduceLT, Nat.reduceLeDiff, reduceCtorEq, Int.reduceToNat, Int.reduceNeg]
  refine loop_of (fun m st => ∃ (k : Nat) (c : Cfg), k ≤ l.pos.length ∧ m = l.pos.length - k ∧ CfgOk g c ∧ foldO (blockF g) (blankF g) ((p.blocks.zip l.pos).take k) = some c ∧ st = ⟨[(3, .ptr 3 0), (5, .ptr 5 0), (6, .ptr 6 0), (7, .ptr 7 0), (8, .ptr 19 0), (29, .sl false 1 (ints l.pos)), (30, .int l.pos.length), (31, .int k), (60, .clo 55 [6, 7])],
    [(3, packC false p), (5, layC false l), (6, [.nil, .nil, .nil, .nil]), (7, [.int 0]), (19, wrC g)], encA c, [(17, ⟨.int .i64, [], none⟩)]⟩) l.pos.length ?_ ?_
  · refine ⟨0, blankF g, by omega, by omega, ⟨by simp [blankF], by simp [blankF], by simp [blankF], by simp [blankF]⟩, rfl, ?_⟩
    simp only [push_cast, reduceIte, Nat.reduceEqDiff, Nat.reduceAdd, Nat.reduceSub, Nat.reduceMul, Nat.reduceBEq, Nat.reduceLT, Nat.reduceLeDiff, reduceCtorEq, Int.reduceToNat, Int.reduceNeg]
  rintro m st ⟨k, c, hk, rfl, hc, hf, rfl⟩
  simp only [push_cast, reduceIte, Nat.reduceEqDiff, Nat.reduceAdd, Nat.reduceSub, Nat.reduceMul, Nat.reduceBEq, Nat.reduceLT, Nat.reduceLeDiff, reduceCtorEq, Int.reduceToNat, Int.reduceNeg]
  refine cond_dec (fun h => ⟨by omega, by omega, ?_⟩) fun h => ?_
  · have hk' : k < l.pos.length := by omega
    have hz : (p.blocks.zip l.pos)[k]? = some (p.blocks.getD k default, l.pos.getD k default) := by
      rw [List.getElem?_eq_getElem (by simp; omega)]
      simp [show k < p.blocks.length by omega, hk']
    have hstep := foldO_take hz hf
    refine ⟨by omega, by omega, ?_⟩
    refine clx_of (block_ok (encF p g l = (cfg0, 350)) p g hg l k c hc (p.blocks.getD k default) (l.pos.getD k default) (fun hn => ?_)) ?_
    · rw [encF, encO, if_pos hlen, foldO_none (k := k + 1) (by rw [hstep]; exact hn)]
      rfl
    rintro r st' ⟨rfl, c', hb, rfl⟩
    rw [hb] at hstep
    simp only [bkS, bkB, bkM, push_cast, reduceIte, Nat.reduceEqDiff, Nat.reduceAdd, Nat.reduceSub, Nat.reduceMul, Nat.reduceBEq, Nat.reduceLT, Nat.reduceLeDiff, reduceCtorEq, Int.reduceToNat, Int.reduceNeg]
    refine ⟨by omega, _, ?_, k + 1, c', by omega, rfl, blockF_ok hc hb, hstep, ?_⟩
    · omega
    · simp only [push_cast, reduceIte, Nat.reduceEqDiff, Nat.reduceAdd, Nat.reduceSub, Nat.reduceMul, Nat.reduceBEq, Nat.reduceLT, Nat.reduceLeDiff, reduceCtorEq, Int.reduceToNat, Int.reduceNeg]
  rw [List.take_of_length_le (by simp; omega)] at hf
  have hif : encO p g l = (foldO (routeF g) (c.sel, []) l.routes).map fun a => { c with sel := a.1 } := by rw [encO, if_pos hlen, hf]; rfl
  refine loop_of (fun m st => ∃ (k : Nat) (a : List Int × List Int), k ≤ l.routes.length ∧ m = l.routes.length - k ∧ CfgOk g { c with sel := a.1 } ∧ foldO (routeF g) (c.sel, []) (l.routes.take k) = some a ∧ st = ⟨[(6, .ptr 6 0), (7, .ptr 7 0), (8, .ptr 19 0), (46, .sl false 3 (rows (routeC false) l.routes)), (47, .int l.routes.length), (48, .int k), (60, .clo 55 [6, 7])],
    [(6, [.nil, .nil, .nil, .nil]), (7, [.int 0]), (19, wrC g)], encA { c with sel := a.1 }, rtM a.2⟩) l.routes.length ?_ ?_
  · refine ⟨0, (c.sel, []), by omega, by omega, hc, rfl, ?_⟩
    simp only [rtM, push_cast, reduceIte, Nat.reduceEqDiff, Nat.reduceAdd, Nat.reduceSub, Nat.reduceMul, Nat.reduceBEq, Nat.reduceLT, Nat.reduceLeDiff, reduceCtorEq, Int.reduceToNat, Int.reduceNeg]
    rfl
  rintro m st ⟨k, a, hk, rfl, hca, hfr, rfl⟩
  simp only [rtM, push_cast, reduceIte, Nat.reduceEqDiff, Nat.reduceAdd, Nat.reduceSub, Nat.reduceMul, Nat.reduceBEq, Nat.reduceLT, Nat.reduceLeDiff, reduceCtorEq, Int.reduceToNat, Int.reduceNeg]
  refine cond_dec (fun h => ⟨by omega, by omega, ?_⟩) fun h => ?_
  · have hk' : k < l.routes.length := by omega
    have hz : l.routes[k]? = some (l.routes.getD k default) := by simp [hk']
    have hstep := foldO_take hz hfr
    refine clx_of (route_ok (encF p g l = (cfg0, 350)) g hg l k { c with sel := a.1 } hca a.2 (l.routes.getD k default) (hl3 _ (List.mem_of_getElem? hz)) (fun hn => ?_)) ?_
    · rw [encF, hif, foldO_none (k := k + 1) (by rw [hstep]; exact hn)]
      rfl
    rintro rv st' ⟨rfl, a', ha, rfl⟩
    have ha' : routeF g a (l.routes.getD k default) = some a' := ha
    rw [ha'] at hstep
    have hla := routeF_len ha'
    simp only [rtS, rtB, rtM, push_cast, reduceIte, Nat.reduceEqDiff, Nat.reduceAdd, Nat.reduceSub, Nat.reduceMul, Nat.reduceBEq, Nat.reduceLT, Nat.reduceLeDiff, reduceCtorEq, Int.reduceToNat, Int.reduceNeg]
    refine ⟨by omega, _, ?_, k + 1, a', by omega, rfl, ⟨hla.trans hca.sel, hc.mode, hc.tab, hc.ram⟩, hstep, ?_⟩
    · omega
    · simp only [push_cast, reduceIte, Nat.reduceEqDiff, Nat.reduceAdd, Nat.reduceSub, Nat.reduceMul, Nat.reduceBEq, Nat.reduceLT, Nat.reduceLeDiff, reduceCtorEq, Int.reduceToNat, Int.reduceNeg]
  · rw [List.take_of_length_le (by omega)] at hfr
    have hE : encF p g l = ({ c with sel := a.1 }, 0) := by rw [encF, hif, hfr]; rfl
    have h1 := hca.sel
    have h2 := hc.mode
    have h3 := hc.tab
    have h4 := hc.ram
    simp only at h1
    refine ⟨rfl, rfl, FnD.sub ⟨encP, _, _, _⟩ (FnD.mono clos0_ok ?_) (subL_lk (r := encP) ⟨rfl, rfl, trivial⟩) (fun i v hl => hl) (fun i v hl => hl) (fun i v hl => hl)⟩
    rintro st' rfl
    rw [hE]
    simp only [encP, encV, rv36, push_cast, reduceIte, Nat.reduceEqDiff, Nat.reduceAdd, Nat.reduceSub, Nat.reduceMul, Nat.reduceBEq, Nat.reduceLT, Nat.reduceLeDiff, reduceCtorEq, Int.reduceToNat, Int.reduceNeg]
    rw [List.take_of_length_le (by omega), List.take_of_length_le (by omega), List.take_of_length_le (by omega), List.take_of_length_le (by omega)]
    exact ⟨⟨fun _ _ => trivial, fun _ _ => trivial, fun _ _ => trivial, fun _ _ => trivial⟩, .refl _, .refl _, .refl _, .refl _⟩
end Go.Proofs.Ytledbjkolidhkaa
namespace Go.Proofs.Ytledbjkolidhkaa
open Go Go.Vc Txt
def Rng (g : Grid) (n : Int) : Prop := 0 ≤ n ∧ n < countF g
structure DOk (g : Grid) (d : Spot) : Prop where
  kind : 1 ≤ d.kind ∧ d.kind ≤ 7
  pos : d.kind ≤ 5 → (0 ≤ d.x ∧ d.x < g.w) ∧ (0 ≤ d.y ∧ d.y < g.h)
  i0 : d.kind ≤ 2 → d.i = 0
  i3 : d.kind = 3 → 0 ≤ d.i ∧ d.i < 4
  i4 : d.kind = 4 ∨ d.kind = 5 → 0 ≤ d.i ∧ d.i < g.tracks
  k6 : d.kind = 6 → d.x = -1 ∧ d.y = d.i % g.h ∧ 0 ≤ d.i ∧ d.i < g.pads
  k7 : d.kind = 7 → d.x = g.w ∧ d.y = d.i % g.h ∧ 0 ≤ d.i ∧ d.i < g.pads
theorem desc_all {g : Grid} (hg : GOk g) {n : Int} (hn : Rng g n) : DOk g (descF g n) ∧ nodeN g (descF g n) = n := by
  obtain ⟨n1, n2⟩ := hn
  have h1 := hg.each
  have h2 := hg.w
  have h3 := hg.h
  have h4 := hg.tracks
  have h5 := hg.pads
  have hc : countF g = allI g + 2 * g.pads := rfl
  rw [descF]
  split
  · refine ⟨⟨by simp, fun h => by simp at h, fun h => by simp at h, fun h => by simp at h, fun h => by simp at h, fun h => by simp at h, fun _ => ⟨rfl, rfl, by simp only; omega, by simp only; omega⟩⟩, ?_⟩
    simp only [nodeN]; simp; omega
  rename_i c1
  split
  · refine ⟨⟨by simp, fun h => by simp at h, fun h => by simp at h, fun h => by simp at h, fun h => by simp at h, fun _ => ⟨rfl, rfl, by simp only; omega, by simp only; omega⟩, fun h => by simp at h⟩, ?_⟩
    simp only [nodeN]; simp; omega
  rename_i c2
  have ha : n < g.w * g.h * eachI g := by unfold allI at c2; omega
  have hdm : eachI g * (n / eachI g) + n % eachI g = n := Int.mul_ediv_add_emod n (eachI g)
  have hm1 : 0 ≤ n % eachI g := Int.emod_nonneg _ (by omega)
  have hm2 : n % eachI g < eachI g := Int.emod_lt_of_pos _ (by omega)
  have he : eachI g = 6 + 2 * g.tracks := rfl
  have ht0 : 0 ≤ n / eachI g := Int.ediv_nonneg n1 (by omega)
  have ht1 : n / eachI g < g.w * g.h := Int.ediv_lt_of_lt_mul (by omega) ha
  dsimp only
  generalize n / eachI g = t at *
  generalize n % eachI g = i at *
  have hdm2 : g.w * (t / g.w) + t % g.w = t := Int.mul_ediv_add_emod t g.w
  have hx1 : 0 ≤ t % g.w := Int.emod_nonneg _ (by omega)
  have hx2 : t % g.w < g.w := Int.emod_lt_of_pos _ (by omega)
  have hy1 : 0 ≤ t / g.w := Int.ediv_nonneg ht0 (by omega)
  have hy2 : t / g.w < g.h := Int.ediv_lt_of_lt_mul (by omega) (by rw [Int.mul_comm]; exact ht1)
  have hb : (t / g.w * g.w + t % g.w) * eachI g + i = n := by rw [Int.mul_comm (t / g.w), hdm2, Int.mul_comm]; exact hdm
  generalize t % g.w = x at *
  generalize t / g.w = y at *
  have hbase : ∀ k j : Int, baseF g ⟨k, x, y, j⟩ + i = n := fun k j => hb
  split
  · refine ⟨⟨by simp, fun _ => ⟨⟨hx1, hx2⟩, hy1, hy2⟩, fun h => by simp at h, fun h => by simp at h, fun _ => ⟨by simp only; omega, by simp only; omega⟩, fun h => by simp at h, fun h => by simp at h⟩, ?_⟩
    have := hbase 5 (i - 6 - g.tracks)
    simp only [nodeN]; simp; omega
  split
  · refine ⟨⟨by simp, fun _ => ⟨⟨hx1, hx2⟩, hy1, hy2⟩, fun h => by simp at h, fun h => by simp at h, fun _ => ⟨by simp only; omega, by simp only; omega⟩, fun h => by simp at h, fun h => by simp at h⟩, ?_⟩
    have := hbase 4 (i - 6)
    simp only [nodeN]; simp; omega
  split
  · refine ⟨⟨by simp, fun _ => ⟨⟨hx1, hx2⟩, hy1, hy2⟩, fun h => by simp at h, fun _ => ⟨by simp only; omega, by simp only; omega⟩, fun h => by simp at h, fun h => by simp at h, fun h => by simp at h⟩, ?_⟩
    have := hbase 3 (i - 2)
    simp only [nodeN]; simp; omega
  split
  · refine ⟨⟨by simp, fun _ => ⟨⟨hx1, hx2⟩, hy1, hy2⟩, fun _ => rfl, fun h => by simp at h, fun h => by simp at h, fun h => by simp at h, fun h => by simp at h⟩, ?_⟩
    have := hbase 2 0
    simp only [nodeN]; simp; omega
  · refine ⟨⟨by simp, fun _ => ⟨⟨hx1, hx2⟩, hy1, hy2⟩, fun _ => rfl, fun h => by simp at h, fun h => by simp at h, fun h => by simp at h, fun h => by simp at h⟩, ?_⟩
    have := hbase 1 0
    simp only [nodeN]; simp; omega
theorem descE_rng {g : Grid} {n : Int} (h : Rng g n) : descE g n = (descF g n, 0) := by
  unfold Rng at h
  rw [descE, if_neg (by omega)]
theorem descE_err {g : Grid} {n : Int} (h : (descE g n).2 = 0) : Rng g n := by
  unfold descE at h
  unfold Rng
  split at h
  · cases h
  · omega
theorem addF_mem {g : Grid} (hg : GOk g) (l : List Int) (s : Spot) (x : Int) : x ∈ addF g l s ↔ x ∈ l ∨ (Rng g x ∧ descF g x = s) := by
  have key : ∀ x, Rng g x → descF g x = s → nodeF g s = (x, 0) := fun x hx e => by
    obtain ⟨_, h⟩ := desc_all hg hx
    rw [e] at h
    rw [nodeF, h, descE_rng hx, if_pos ⟨rfl, e⟩]
  rw [addF]
  split
  · rename_i h
    rw [List.mem_append, List.mem_singleton]
    have h2 : (descE g (nodeN g s)).2 = 0 ∧ (descE g (nodeN g s)).1 = s := by
      unfold nodeF at h
      split at h
      · assumption
      · cases h
    have h3 := descE_err h2.1
    have h4 : descF g (nodeN g s) = s := by rw [descE_rng h3] at h2; exact h2.2
    rw [key _ h3 h4]
    refine or_congr_right ⟨fun e => by subst e; exact ⟨h3, h4⟩, fun e => ?_⟩
    have := key x e.1 e.2
    rw [key _ h3 h4] at this
    cases this; rfl
  · rename_i h
    refine ⟨.inl, fun e => e.elim id fun e => absurd ?_ h⟩
    rw [key x e.1 e.2]
end Go.Proofs.Ytledbjkolidhkaa
namespace Go.Proofs.Ytledbjkolidhkaa
open Go Go.Vc Txt
def WireAt (g : Grid) (d : Spot) (x y : Int) : Prop := ¬ (x < 0 ∨ g.w ≤ x ∨ y < 0 ∨ g.h ≤ y) ∧ ((d.kind = 4 ∧ d.y = y ∧ (d.x = x ∨ d.x = x - 1)) ∨ (d.kind = 5 ∧ d.x = x ∧ (d.y = y ∨ d.y = y - 1)))
theorem spot_ext (d : Spot) (k x y i : Int) : d = ⟨k, x, y, i⟩ ↔ d.kind = k ∧ d.x = x ∧ d.y = y ∧ d.i = i := by
  obtain ⟨a, b, c, e⟩ := d
  simp
section
variable {g : Grid} (hg : GOk g)
include hg
theorem wiresF_mem (l : List Int) (x y t n : Int) : n ∈ wiresF g l x y t ↔ n ∈ l ∨ (Rng g n ∧ (descF g n).i = t ∧ WireAt g (descF g n) x y) := by
  unfold wiresF WireAt
  split
  · rename_i h
    simp [h]
  · rename_i h
    simp only [addF_mem hg, spot_ext]
    generalize descF g n = d
    constructor
    · rintro ((((h1 | ⟨r, h1⟩) | ⟨r, h1⟩) | ⟨r, h1⟩) | ⟨r, h1⟩)
      · exact .inl h1
      all_goals exact .inr ⟨r, by omega, h, by omega⟩
    · rintro (h1 | ⟨r, h1, _, h2⟩)
      · exact .inl (.inl (.inl (.inl h1)))
      · rcases h2 with ⟨a, b, c | c⟩ | ⟨a, b, c | c⟩
        · exact .inl (.inl (.inl (.inr ⟨r, by omega⟩)))
        · exact .inl (.inr ⟨r, by omega⟩)
        · exact .inl (.inl (.inr ⟨r, by omega⟩))
        · exact .inr ⟨r, by omega⟩
theorem allN_mem (x y n : Int) (l : List Int) : ∀ m : Nat, n ∈ allN g x y l m ↔ n ∈ l ∨ (Rng g n ∧ (0 ≤ (descF g n).i ∧ (descF g n).i < m) ∧ WireAt g (descF g n) x y)
  | 0 => by
    rw [allN]
    refine ⟨.inl, fun h => h.elim id fun h => ?_⟩
    have := h.2.1
    omega
  | m + 1 => by
    rw [allN, wiresF_mem hg, allN_mem x y n l m]
    constructor
    · rintro ((h | ⟨r, h1, h2⟩) | ⟨r, h1, h2⟩)
      · exact .inl h
      · exact .inr ⟨r, by omega, h2⟩
      · exact .inr ⟨r, by omega, h2⟩
    · rintro (h | ⟨r, h1, h2⟩)
      · exact .inl (.inl h)
      · by_cases e : (descF g n).i = m
        · exact .inr ⟨r, e, h2⟩
        · exact .inl (.inr ⟨r, by omega, h2⟩)
theorem allF_mem (x y n : Int) : n ∈ allF g [] x y ↔ Rng g n ∧ WireAt g (descF g n) x y := by
  have ht := hg.tracks
  rw [allF, allN_mem hg]
  constructor
  · rintro (h | ⟨r, _, h⟩)
    · cases h
    · exact ⟨r, h⟩
  · rintro ⟨r, h⟩
    have hd := (desc_all hg r).1.i4 (by unfold WireAt at h; omega)
    exact .inr ⟨r, by omega, h⟩
theorem padR_mem (y n : Int) : ∀ (f : Nat) (k : Int) (l : List Int), g.pads ≤ k + f → (n ∈ padR g y f k l ↔ n ∈ l ∨ (Rng g n ∧ (descF g n).kind = 6 ∧ (descF g n).x = -1 ∧ (descF g n).y = y ∧ k ≤ (descF g n).i ∧ (descF g n).i < g.pads ∧ ((descF g n).i - k) % g.h = 0))
  | 0, k, l, hf => by
    rw [padR]
    refine ⟨.inl, fun h => h.elim id fun h => ?_⟩
    omega
  | f + 1, k, l, hf => by
    have hh := hg.h
    rw [padR]
    split
    · rename_i hk
      rw [padR_mem y n f (k + g.h) _ (by omega), addF_mem hg, spot_ext]
      generalize descF g n = d
      have e : (d.i - (k + g.h)) % g.h = (d.i - k) % g.h := by
        rw [show d.i - (k + g.h) = d.i - k - g.h by omega]
        exact Int.sub_emod_right (d.i - k) g.h
      rw [e]
      constructor
      · rintro ((h | ⟨r, h⟩) | ⟨r, h⟩)
        · exact .inl h
        · refine .inr ⟨r, h.1, h.2.1, h.2.2.1, by omega, by omega, ?_⟩
          rw [h.2.2.2]; simp
        · exact .inr ⟨r, h.1, h.2.1, h.2.2.1, by omega, by omega, h.2.2.2.2.2⟩
      · rintro (h | ⟨r, h1, h2, h3, h4, h5, h6⟩)
        · exact .inl (.inl h)
        · by_cases e2 : d.i = k
          · exact .inl (.inr ⟨r, h1, h2, h3, e2⟩)
          · refine .inr ⟨r, h1, h2, h3, ?_, h5, h6⟩
            have := Int.emod_lt_of_pos (d.i - k) (show 0 < g.h by omega)
            by_cases e3 : d.i - k < g.h
            · rw [Int.emod_eq_of_lt (by omega) e3] at h6; omega
            · omega
    · rename_i hk
      refine ⟨.inl, fun h => h.elim id fun h => ?_⟩
      omega
theorem padsF_mem (l : List Int) (y n : Int) (hy : 0 ≤ y ∧ y < g.h) : n ∈ padsF g l y ↔ n ∈ l ∨ (Rng g n ∧ (descF g n).kind = 6 ∧ (descF g n).y = y) := by
  have hp := hg.pads
  rw [padsF, padR_mem hg _ _ _ _ _ (by omega)]
  refine or_congr_right ⟨fun h => ⟨h.1, h.2.1, h.2.2.2.1⟩, fun ⟨r, h1, h2⟩ => ?_⟩
  obtain ⟨k1, k2, k3, k4⟩ := (desc_all hg r).1.k6 h1
  generalize descF g n = d at *
  have hh := hg.h
  have e := Int.mul_ediv_add_emod d.i g.h
  have hle : d.i % g.h ≤ d.i := by
    have := Int.ediv_nonneg k3 (show 0 ≤ g.h by omega)
    have := Int.mul_nonneg (show 0 ≤ g.h by omega) this
    omega
  refine ⟨r, h1, k1, h2, by omega, k4, ?_⟩
  rw [show d.i - y = g.h * (d.i / g.h) by omega]
  exact Int.mul_emod_right _ _
theorem endF_mem (s : Spot) (l : List Int) (x y n : Int) (hy : 0 ≤ y ∧ y < g.h) : n ∈ endF g s l x y ↔ n ∈ l ∨ (Rng g n ∧ (((descF g n).kind = 1 ∧ (descF g n).x = x ∧ (descF g n).y = y) ∨ ((descF g n).kind = 2 ∧ (descF g n).x = x ∧ (descF g n).y = y) ∨
    ((descF g n).i = s.i ∧ WireAt g (descF g n) x y) ∨ (x = 0 ∧ (descF g n).kind = 6 ∧ (descF g n).y = y))) := by
  have key : n ∈ wiresF g (addF g (addF g l ⟨1, x, y, 0⟩) ⟨2, x, y, 0⟩) x y s.i ↔ n ∈ l ∨ (Rng g n ∧ (((descF g n).kind = 1 ∧ (descF g n).x = x ∧ (descF g n).y = y) ∨ ((descF g n).kind = 2 ∧ (descF g n).x = x ∧ (descF g n).y = y) ∨
    ((descF g n).i = s.i ∧ WireAt g (descF g n) x y))) := by
    rw [wiresF_mem hg, addF_mem hg, addF_mem hg, spot_ext, spot_ext]
    constructor
    · rintro (((h | ⟨r, h⟩) | ⟨r, h⟩) | ⟨r, h⟩)
      · exact .inl h
      · exact .inr ⟨r, .inl ⟨h.1, h.2.1, h.2.2.1⟩⟩
      · exact .inr ⟨r, .inr (.inl ⟨h.1, h.2.1, h.2.2.1⟩)⟩
      · exact .inr ⟨r, .inr (.inr h)⟩
    · rintro (h | ⟨r, h | h | h⟩)
      · exact .inl (.inl (.inl h))
      · exact .inl (.inl (.inr ⟨r, h.1, h.2.1, h.2.2, (desc_all hg r).1.i0 (by omega)⟩))
      · exact .inl (.inr ⟨r, h.1, h.2.1, h.2.2, (desc_all hg r).1.i0 (by omega)⟩)
      · exact .inr ⟨r, h⟩
  simp only [endF]
  split
  · rename_i hx
    rw [padsF_mem hg _ _ _ hy, key]
    constructor
    · rintro ((h | ⟨r, h | h | h⟩) | ⟨r, h⟩)
      · exact .inl h
      · exact .inr ⟨r, .inl h⟩
      · exact .inr ⟨r, .inr (.inl h)⟩
      · exact .inr ⟨r, .inr (.inr (.inl h))⟩
      · exact .inr ⟨r, .inr (.inr (.inr ⟨hx, h⟩))⟩
    · rintro (h | ⟨r, h | h | h | h⟩)
      · exact .inl (.inl h)
      · exact .inl (.inr ⟨r, .inl h⟩)
      · exact .inl (.inr ⟨r, .inr (.inl h)⟩)
      · exact .inl (.inr ⟨r, .inr (.inr h)⟩)
      · exact .inr ⟨r, h.2⟩
  · rename_i hx
    rw [key]
    constructor
    · rintro (h | ⟨r, h | h | h⟩)
      · exact .inl h
      · exact .inr ⟨r, .inl h⟩
      · exact .inr ⟨r, .inr (.inl h)⟩
      · exact .inr ⟨r, .inr (.inr (.inl h))⟩
    · rintro (h | ⟨r, h | h | h | h⟩)
      · exact .inl h
      · exact .inr ⟨r, .inl h⟩
      · exact .inr ⟨r, .inr (.inl h)⟩
      · exact .inr ⟨r, .inr (.inr h)⟩
      · exact absurd h.1 hx
end
end Go.Proofs.Ytledbjkolidhkaa
namespace Go.Proofs.Ytledbjkolidhkaa
open Go Go.Vc Txt
theorem adj_no {g : Grid} {w : Spot} {x y : Int} (h : w.kind ≠ 4) (h2 : w.kind ≠ 5) : ¬ Adj g w x y := by unfold Adj; omega
theorem adj_wire {g : Grid} {d : Spot} {x y : Int} : Adj g d x y ↔ WireAt g d x y := by
  obtain ⟨k, dx, dy, i⟩ := d
  simp only [Adj, WireAt]
  refine and_congr_right fun _ => ?_
  omega
def Can2 (g : Grid) (a b : Spot) : Prop := (a.kind = 1 ∧ (Adj g b a.x a.y ∨ (b.kind = 3 ∧ b.i = 3 ∧ b.x = a.x ∧ b.y = a.y + 1))) ∨ (a.kind = 2 ∧ Adj g b a.x a.y) ∨ (a.kind = 6 ∧ Adj g b 0 a.y) ∨
  ((a.kind = 4 ∨ a.kind = 5) ∧ (b.kind = 4 ∨ b.kind = 5) ∧ a ≠ b ∧ a.i = b.i ∧ Meet g a b) ∨ ((a.kind = 4 ∨ a.kind = 5) ∧ b.kind = 3 ∧ Adj g a b.x b.y) ∨ ((a.kind = 4 ∨ a.kind = 5) ∧ b.kind = 7 ∧ Adj g a (g.w - 1) b.y)
theorem canD_eq (g : Grid) (a b : Spot) : CanD g a b ↔ Can2 g a b := by
  unfold CanD Can2
  by_cases h1 : a.kind = 1
  · simp [h1]
  by_cases h2 : a.kind = 2
  · simp [h2]
  by_cases h6 : a.kind = 6
  · simp [h6]
  by_cases h4 : a.kind = 4 ∨ a.kind = 5
  · rw [if_neg h1, if_neg h2, if_neg h6, if_pos h4]
    simp only [h1, h2, h6, h4, false_and, false_or, true_and]
    split
    · rename_i hb
      have h3 : ¬ b.kind = 3 := by omega
      have h7 : ¬ b.kind = 7 := by omega
      simp [hb, h3, h7]
    · rename_i hb
      simp [hb]
  · rw [if_neg h1, if_neg h2, if_neg h6, if_neg h4]
    simp [h1, h2, h6, h4]
section
variable {g : Grid} (hg : GOk g)
include hg
theorem raw_pin (s : Spot) (hs : DOk g s) (k3 : s.kind = 3) (n : Int) (hn : Rng g n) : (n ∈ rawD g s ∧ descF g n ≠ s) ↔ CanD g (descF g n) s := by
  have hd := (desc_all hg hn).1
  have e1 : n ∈ rawD g s ↔ WireAt g (descF g n) s.x s.y ∨ (s.i = 3 ∧ (descF g n).kind = 1 ∧ (descF g n).x = s.x ∧ (descF g n).y = s.y - 1) := by
    rw [rawD, if_pos k3]
    split
    · rename_i h3
      rw [addF_mem hg, allF_mem hg, spot_ext]
      refine or_congr ⟨fun h => h.2, fun h => ⟨hn, h⟩⟩ ⟨fun h => ⟨h3, h.2.1, h.2.2.1, h.2.2.2.1⟩, fun h => ⟨hn, h.2.1, h.2.2.1, h.2.2.2, hd.i0 (by omega)⟩⟩
    · rename_i h3
      rw [allF_mem hg]
      exact ⟨fun h => .inl h.2, fun h => h.elim (fun h => ⟨hn, h⟩) fun h => absurd h.1 h3⟩
  have n1 : ∀ x y, ¬ Adj g s x y := fun x y => adj_no (by omega) (by omega)
  rw [e1, canD_eq, Can2]
  simp only [n1, adj_wire, k3, true_and, false_or, and_false, show ¬ ((3 : Int) = 4 ∨ (3 : Int) = 5) by decide, show ¬ (3 : Int) = 7 by decide, false_and, or_false]
  generalize descF g n = d at *
  constructor
  · rintro ⟨h | h, _⟩
    · refine .inr ⟨?_, h⟩
      unfold WireAt at h; omega
    · exact .inl ⟨h.2.1, h.1, h.2.2.1.symm, by omega⟩
  · rintro (h | h)
    · exact ⟨.inr ⟨h.2.1, h.1, h.2.2.1.symm, by omega⟩, fun e => by rw [e] at h; omega⟩
    · exact ⟨.inl h.2, fun e => by rw [e] at h; omega⟩
theorem raw_out (s : Spot) (hs : DOk g s) (k7 : s.kind = 7) (n : Int) (hn : Rng g n) : (n ∈ rawD g s ∧ descF g n ≠ s) ↔ CanD g (descF g n) s := by
  have e1 : n ∈ rawD g s ↔ WireAt g (descF g n) (g.w - 1) s.y := by
    rw [rawD, if_neg (by omega), if_pos k7, allF_mem hg]
    exact ⟨fun h => h.2, fun h => ⟨hn, h⟩⟩
  have n1 : ∀ x y, ¬ Adj g s x y := fun x y => adj_no (by omega) (by omega)
  rw [e1, canD_eq, Can2]
  simp only [n1, adj_wire, k7, true_and, false_or, and_false, show ¬ ((7 : Int) = 4 ∨ (7 : Int) = 5) by decide, show ¬ (7 : Int) = 3 by decide, false_and, or_false]
  generalize descF g n = d at *
  constructor
  · rintro ⟨h, _⟩
    refine ⟨?_, h⟩
    unfold WireAt at h; omega
  · rintro h
    exact ⟨h.2, fun e => by rw [e] at h; omega⟩
omit hg in
theorem raw_none (s : Spot) (k : s.kind = 1 ∨ s.kind = 2 ∨ s.kind = 6) (n : Int) : (n ∈ rawD g s ∧ descF g n ≠ s) ↔ CanD g (descF g n) s := by
  have e1 : rawD g s = [] := by rw [rawD, if_neg (by omega), if_neg (by omega), if_neg (by omega)]
  have n1 : ∀ x y, ¬ Adj g s x y := fun x y => adj_no (by omega) (by omega)
  rw [e1, canD_eq, Can2]
  simp only [n1, List.not_mem_nil, false_and, false_or, and_false, show ¬ (s.kind = 4 ∨ s.kind = 5) by omega, show ¬ s.kind = 3 by omega, show ¬ s.kind = 7 by omega, or_false]
end
theorem meet_wire {g : Grid} (d s : Spot) (hs : s.kind = 4 ∨ s.kind = 5) (hsx : (0 ≤ s.x ∧ s.x < g.w) ∧ (0 ≤ s.y ∧ s.y < g.h)) (hdx : (0 ≤ d.x ∧ d.x < g.w) ∧ (0 ≤ d.y ∧ d.y < g.h)) (hd : d.kind = 4 ∨ d.kind = 5) :
    Meet g d s ↔ WireAt g d s.x s.y ∨ (s.kind = 4 ∧ s.x + 1 < g.w ∧ WireAt g d (s.x + 1) s.y) ∨ (s.kind = 5 ∧ s.y + 1 < g.h ∧ WireAt g d s.x (s.y + 1)) := by
  obtain ⟨k, x, y, i⟩ := d
  obtain ⟨k', x', y', i'⟩ := s
  simp only [Meet, Adj, WireAt] at *
  rcases hs with rfl | rfl <;> rcases hd with rfl | rfl <;> simp only [show ¬ (4 : Int) = 5 by decide, show ¬ (5 : Int) = 4 by decide, or_false, false_or, true_or, or_true, true_and, false_and] <;> omega
section
variable {g : Grid} (hg : GOk g)
include hg
theorem raw_wire (s : Spot) (hs : DOk g s) (k : s.kind = 4 ∨ s.kind = 5) (n : Int) (hn : Rng g n) : (n ∈ rawD g s ∧ descF g n ≠ s) ↔ CanD g (descF g n) s := by
  have hd := (desc_all hg hn).1
  obtain ⟨sx, sy⟩ := hs.pos (by omega)
  have hw := hg.w
  have hh := hg.h
  have e1 : n ∈ rawD g s ↔ n ∈ endsF2 g s (endF g s [] s.x s.y) := by
    rw [rawD, if_neg (by omega), if_neg (by omega), if_pos k]; rfl
  have hsk3 : ¬ s.kind = 3 := by omega
  have hsk7 : ¬ s.kind = 7 := by omega
  have hh0 : 0 < g.h := by omega
  let E : Int → Int → Prop := fun x y => ((descF g n).kind = 1 ∧ (descF g n).x = x ∧ (descF g n).y = y) ∨ ((descF g n).kind = 2 ∧ (descF g n).x = x ∧ (descF g n).y = y) ∨ ((descF g n).i = s.i ∧ WireAt g (descF g n) x y) ∨ (x = 0 ∧ (descF g n).kind = 6 ∧ (descF g n).y = y)
  have e2 : n ∈ endsF2 g s (endF g s [] s.x s.y) ↔ E s.x s.y ∨ (s.kind = 4 ∧ s.x + 1 < g.w ∧ E (s.x + 1) s.y) ∨ (s.kind = 5 ∧ s.y + 1 < g.h ∧ E s.x (s.y + 1)) := by
    have m1 : n ∈ endF g s [] s.x s.y ↔ E s.x s.y := by
      rw [endF_mem hg _ _ _ _ _ sy]
      simp only [List.not_mem_nil, false_or, hn, true_and]
      rfl
    rw [endsF2]
    split
    · rename_i k4
      have h5 : ¬ s.kind = 5 := by omega
      simp only [k4, show ¬ (4 : Int) = 5 by decide, false_and, or_false, true_and]
      split
      · rename_i hh2
        rw [endF_mem hg _ _ _ _ _ sy, m1]
        exact or_congr_right ⟨fun h => ⟨hh2.1, h.2⟩, fun h => ⟨hn, h.2⟩⟩
      · rename_i hh2
        rw [m1]
        exact ⟨.inl, fun h => h.elim _root_.id fun h => absurd ⟨h.1, sy.2⟩ hh2⟩
    · rename_i k4
      have h5 : s.kind = 5 := by omega
      simp only [h5, show ¬ (5 : Int) = 4 by decide, false_and, false_or, true_and]
      split
      · rename_i hh2
        rw [endF_mem hg _ _ _ _ _ (by omega), m1]
        exact or_congr_right ⟨fun h => ⟨hh2.2, h.2⟩, fun h => ⟨hn, h.2⟩⟩
      · rename_i hh2
        rw [m1]
        exact ⟨.inl, fun h => h.elim _root_.id fun h => absurd ⟨sx.2, h.1⟩ hh2⟩
  rw [e1, e2, canD_eq, Can2]
  show ((((descF g n).kind = 1 ∧ _ ∧ _) ∨ _) ∨ _) ∧ _ ↔ _
  have dpos := hd.pos
  have d6 := hd.k6
  have hmw := meet_wire (g := g) (descF g n) s k ⟨sx, sy⟩
  have dk := hd.kind
  have dy : (descF g n).kind = 6 → 0 ≤ (descF g n).y ∧ (descF g n).y < g.h := fun h => by
    obtain ⟨_, e, _⟩ := d6 h
    rw [e]
    exact ⟨Int.emod_nonneg _ (fun e => by rw [e] at hh0; exact absurd hh0 (by decide)), Int.emod_lt_of_pos _ hh0⟩
  simp only [E]
  clear e1 e2 E hs hd d6
  generalize descF g n = d at *
  have hne : ¬ (d.kind = 4 ∨ d.kind = 5) → d ≠ s := fun h e => by rw [e] at h; exact h k
  have hwn : ¬ (d.kind = 4 ∨ d.kind = 5) → ∀ x y, ¬ WireAt g d x y := fun h x y hW => h (hW.2.elim (fun z => .inl z.1) fun z => .inr z.1)
  by_cases k45 : d.kind = 4 ∨ d.kind = 5
  · have m := hmw (dpos (by rcases k45 with h | h <;> rw [h] <;> decide)) k45
    have a1 : ¬ d.kind = 1 := fun e => by rw [e] at k45; exact absurd k45 (by decide)
    have a2 : ¬ d.kind = 2 := fun e => by rw [e] at k45; exact absurd k45 (by decide)
    have a6 : ¬ d.kind = 6 := fun e => by rw [e] at k45; exact absurd k45 (by decide)
    simp only [a1, a2, a6, hsk3, hsk7, k45, k, m, false_and, and_false, or_false, false_or, true_and]
    constructor
    · rintro ⟨h | ⟨b, c, h⟩ | ⟨b, c, h⟩, h2⟩
      · exact ⟨h2, h.1, .inl h.2⟩
      · exact ⟨h2, h.1, .inr (.inl ⟨b, c, h.2⟩)⟩
      · exact ⟨h2, h.1, .inr (.inr ⟨b, c, h.2⟩)⟩
    · rintro ⟨h2, h1, h | ⟨b, c, h⟩ | ⟨b, c, h⟩⟩
      · exact ⟨.inl ⟨h1, h⟩, h2⟩
      · exact ⟨.inr (.inl ⟨b, c, h1, h⟩), h2⟩
      · exact ⟨.inr (.inr ⟨b, c, h1, h⟩), h2⟩
  · have hn2 := hne k45
    have hw2 := hwn k45
    clear hne hwn hmw
    simp only [hw2, hn2, k45, hsk3, hsk7, and_false, false_and, or_false, false_or, ne_eq, not_false_eq_true, and_true]
    by_cases a1 : d.kind = 1
    · have dp := dpos (by rw [a1]; decide)
      clear dpos dy hw2
      simp only [a1, true_and, show ¬ (1 : Int) = 2 by decide, show ¬ (1 : Int) = 6 by decide, false_and, and_false, or_false, Adj, k, true_and]
      omega
    by_cases a2 : d.kind = 2
    · have dp := dpos (by rw [a2]; decide)
      clear dpos dy hw2
      simp only [a2, true_and, show ¬ (2 : Int) = 1 by decide, show ¬ (2 : Int) = 6 by decide, false_and, and_false, or_false, false_or, Adj, k, true_and]
      omega
    by_cases a6 : d.kind = 6
    · have dp := dy a6
      clear dpos dy hw2
      simp only [a6, true_and, show ¬ (6 : Int) = 1 by decide, show ¬ (6 : Int) = 2 by decide, false_and, and_false, or_false, false_or, and_true, Adj, k]
      omega
    · simp only [a1, a2, a6, false_and, and_false, or_false]
theorem raw_can (s : Spot) (hs : DOk g s) (n : Int) (hn : Rng g n) : (n ∈ rawD g s ∧ descF g n ≠ s) ↔ CanD g (descF g n) s := by
  have h1 := hs.kind
  by_cases k3 : s.kind = 3
  · exact raw_pin hg s hs k3 n hn
  by_cases k7 : s.kind = 7
  · exact raw_out hg s hs k7 n hn
  by_cases k4 : s.kind = 4 ∨ s.kind = 5
  · exact raw_wire hg s hs k4 n hn
  · exact raw_none s (by omega) n
theorem raw_rng (s : Spot) (hs : DOk g s) (n : Int) (h : n ∈ rawD g s) : Rng g n := by
  have hE : ∀ (x y : Int) (l : List Int), (n ∈ l → Rng g n) → 0 ≤ y ∧ y < g.h → n ∈ endF g s l x y → Rng g n := fun x y l hl hy hm => by
    rw [endF_mem hg _ _ _ _ _ hy] at hm
    exact hm.elim hl fun h => h.1
  rw [rawD] at h
  split at h
  · split at h
    · rw [addF_mem hg, allF_mem hg] at h
      exact h.elim (fun h => h.1) fun h => h.1
    · rw [allF_mem hg] at h
      exact h.1
  · split at h
    · rw [allF_mem hg] at h
      exact h.1
    · split at h
      · rename_i k
        obtain ⟨sx, sy⟩ := hs.pos (by omega)
        have h0 := hE s.x s.y [] (fun h => by cases h) sy
        simp only [endsF] at h
        split at h
        · split at h
          · exact hE _ _ _ h0 sy h
          · exact h0 h
        · split at h
          · exact hE _ _ _ h0 (by omega) h
          · exact h0 h
      · cases h
end
theorem pair_eq : ∀ {l1 l2 : List Int}, l1.Pairwise (· < ·) → l2.Pairwise (· < ·) → (∀ x, x ∈ l1 ↔ x ∈ l2) → l1 = l2
  | [], [], _, _, _ => rfl
  | [], y :: r, _, _, h => by have := (h y).2 List.mem_cons_self; cases this
  | x :: r, [], _, _, h => by have := (h x).1 List.mem_cons_self; cases this
  | x :: r, y :: s, h1, h2, h => by
    have e : x = y := by
      have a := (h x).1 List.mem_cons_self
      have b := (h y).2 List.mem_cons_self
      rcases List.mem_cons.1 a with a | a
      · exact a
      rcases List.mem_cons.1 b with b | b
      · exact b.symm
      have c := (List.pairwise_cons.1 h2).1 x a
      have d := (List.pairwise_cons.1 h1).1 y b
      omega
    subst e
    rw [pair_eq (List.pairwise_cons.1 h1).2 (List.pairwise_cons.1 h2).2 fun z => ⟨fun hz => ?_, fun hz => ?_⟩]
    · have := (h z).1 (List.mem_cons_of_mem _ hz)
      rcases List.mem_cons.1 this with e | e
      · subst e
        have := (List.pairwise_cons.1 h1).1 z hz
        omega
      · exact e
    · have := (h z).2 (List.mem_cons_of_mem _ hz)
      rcases List.mem_cons.1 this with e | e
      · subst e
        have := (List.pairwise_cons.1 h2).1 z hz
        omega
      · exact e
theorem candN_ord (g : Grid) (s : Spot) : ∀ k : Nat, (candN g s k).Pairwise (· < ·) ∧ ∀ x, x ∈ candN g s k ↔ (0 ≤ x ∧ x < k) ∧ CanD g (descF g x) s
  | 0 => ⟨.nil, fun x => by simp [candN]; omega⟩
  | k + 1 => by
    obtain ⟨h1, h2⟩ := candN_ord g s k
    have hm : ∀ x, x ∈ candN g s (k + 1) ↔ (0 ≤ x ∧ x < ((k + 1 : Nat) : Int)) ∧ CanD g (descF g x) s := fun x => by
      rw [candN, List.mem_append, h2 x]
      split
      · rename_i hc
        rw [List.mem_singleton]
        constructor
        · rintro (h | h)
          · exact ⟨by omega, h.2⟩
          · subst h; exact ⟨by omega, hc⟩
        · rintro ⟨h, h3⟩
          by_cases e : x = k
          · exact .inr e
          · exact .inl ⟨by omega, h3⟩
      · rename_i hc
        simp only [List.not_mem_nil, or_false]
        constructor
        · exact fun h => ⟨by omega, h.2⟩
        · rintro ⟨h, h3⟩
          by_cases e : x = k
          · subst e; exact absurd h3 hc
          · exact ⟨by omega, h3⟩
    refine ⟨?_, hm⟩
    rw [candN]
    split
    · refine List.pairwise_append.2 ⟨h1, List.pairwise_singleton _ _, fun x hx y hy => ?_⟩
      rw [List.mem_singleton] at hy
      have := ((h2 x).1 hx).1
      omega
    · simpa using h1
theorem drivers_eq {g : Grid} (hg : GOk g) (n : Int) : driversF g n = rdrF g n := by
  have hc := hg.count
  rw [rdrF]
  split
  · rename_i h
    have hr := descE_err h
    have he := descE_rng hr
    refine pair_eq (driversF_ord g n) (candN_ord g _ _).1 fun x => ?_
    rw [driversF_mem, (candN_ord g _ _).2 x, he]
    simp only [true_and]
    obtain ⟨hd, hN⟩ := desc_all hg hr
    constructor
    · rintro ⟨h1, h2⟩
      have hx := raw_rng hg _ hd x h1
      refine ⟨by unfold Rng at hx; omega, (raw_can hg _ hd x hx).1 ⟨h1, fun e => h2 ?_⟩⟩
      rw [← (desc_all hg hx).2, e, hN]
    · rintro ⟨h1, h2⟩
      have hx : Rng g x := by unfold Rng; omega
      have := (raw_can hg _ hd x hx).2 h2
      exact ⟨this.1, fun e => this.2 (by rw [e])⟩
  · rename_i h
    rw [driversF, if_neg h]
end Go.Proofs.Ytledbjkolidhkaa
