/- H I J R S Gp Hp: lemmas for PMatches -/
import Derived.Test.YtbdamnfkgdbidaaPart09
set_option linter.unusedSimpArgs false
set_option linter.unusedVariables false
namespace Go.Proofs.Ytbdamnfkgdbidaa
open Go Go.Vc Txt
theorem suitsR_rng {j : Job} {b t : Int} (h : suitsR j b t = true) : 0 ≤ b ∧ b < j.p.blocks.length ∧ 0 ≤ t ∧ t < j.g.w * j.g.h := by
  unfold suitsR at h
  split at h
  · cases h
  · omega
theorem fidx_spec {p : Int → Bool} {l : List Int} (h : 0 ≤ fidx p l) : ∃ k : Nat, fidx p l = k ∧ ∃ hk : k < l.length, p l[k] = true ∧ ∀ i, ∀ hi : i < k, p (l[i]'(by omega)) = false := by
  unfold fidx at h ⊢
  cases hf : l.findIdx? p with
  | none => rw [hf] at h; simp at h
  | some k =>
    obtain ⟨h1, h2, h3⟩ := List.findIdx?_eq_some_iff_getElem.1 hf
    exact ⟨k, rfl, h1, h2, fun i hi => by have := h3 i hi; simpa using this⟩
theorem fidx_neg {p : Int → Bool} {l : List Int} (h : ¬ 0 ≤ fidx p l) : ∀ x ∈ l, p x = false := by
  rw [fidx_nonneg] at h
  intro x hx
  cases hp : p x
  · rfl
  · exact absurd (List.any_eq_true.2 ⟨x, hx, hp⟩) h
theorem nodup_get {l : List Int} : l.Nodup ↔ ∀ i j (hi : i < l.length) (hj : j < l.length), i < j → l[i] ≠ l[j] := List.pairwise_iff_getElem
theorem nodup_inj {l : List Int} (h : l.Nodup) {i j : Nat} (hi : i < l.length) (hj : j < l.length) (e : l[i] = l[j]) : i = j := by
  have h := nodup_get.1 h
  rcases Nat.lt_trichotomy i j with h1 | h1 | h1
  · exact absurd e (h i j hi hj h1)
  · exact h1
  · exact absurd e.symm (h j i hj hi h1)
theorem nodup_set {l : List Int} (h : l.Nodup) {k : Nat} {x : Int} (hx : x ∉ l) : (l.set k x).Nodup := by
  refine nodup_get.2 fun i j hi hj hij => ?_
  rw [List.length_set] at hi hj
  rw [List.getElem_set, List.getElem_set]
  split <;> split
  · omega
  · intro e; exact hx (e ▸ List.getElem_mem hj)
  · intro e; exact hx (e ▸ List.getElem_mem hi)
  · exact nodup_get.1 h i j hi hj hij
theorem nodup_swap {l : List Int} (h : l.Nodup) {k o : Nat} (hk : k < l.length) (ho : o < l.length) : ((l.set k l[o]).set o l[k]).Nodup := by
  refine nodup_get.2 fun i j hi hj hij => ?_
  simp only [List.length_set] at hi hj
  simp only [List.getElem_set]
  intro e
  split at e <;> split at e <;> (try split at e) <;> (try split at e) <;> (have := nodup_inj h (by omega) (by omega) e; omega)
theorem exch_isPl {j : Job} {fx at_ a : List Int} {k t : Nat} (hp : IsPl j at_) (hk : k < at_.length) (h : exchF j fx at_ k t = some a) : IsPl j a := by
  unfold exchF at h
  simp only at h
  split at h
  · cases h
  rename_i h1
  split at h
  · cases h
  rename_i h2
  have hs : suitsR j k t = true := by cases hc : suitsR j k t <;> simp_all
  have ht := suitsR_rng hs
  have hg : at_.getD k default = at_[k] := by simp [hk]
  rw [hg] at h1 h2 h
  injection h with h
  subst h
  split
  · rename_i ho
    obtain ⟨i, e, hi, hpi, _⟩ := fidx_spec ho
    rw [e, Int.toNat_natCast]
    have hpi : at_[i] = t := by simpa using hpi
    have hki : k ≠ i := fun e => by subst e; exact h1 (.inl (by rw [hpi]))
    refine ⟨by simpa using hp.1, ?_, ?_⟩
    · intro x hx
      rcases List.mem_or_eq_of_mem_set hx with hx | rfl
      · rcases List.mem_or_eq_of_mem_set hx with hx | rfl
        · exact hp.2.1 x hx
        · omega
      · exact hp.2.1 _ (List.getElem_mem hk)
    · rw [← hpi]; exact nodup_swap hp.2.2 hk hi
  · rename_i ho
    have hno := fidx_neg ho
    refine ⟨by simpa using hp.1, ?_, nodup_set hp.2.2 fun hx => by have := hno _ hx; simp at this⟩
    intro x hx
    rcases List.mem_or_eq_of_mem_set hx with hx | rfl
    · exact hp.2.1 x hx
    · omega
theorem exch_undo {j : Job} {fx at_ a : List Int} {k t : Nat} (hk : k < at_.length) (h : exchF j fx at_ k t = some a) :
    a.length = at_.length ∧ (if 0 ≤ fidx (fun x => decide (x = (t : Int))) at_ then (a.set k (at_.getD k default)).set (fidx (fun x => decide (x = (t : Int))) at_).toNat t else a.set k (at_.getD k default)) = at_ := by
  unfold exchF at h
  simp only at h
  split at h
  · cases h
  rename_i h1
  split at h
  · cases h
  have hg : at_.getD k default = at_[k] := by simp [hk]
  rw [hg] at h1 h ⊢
  injection h with h
  subst h
  split
  · rename_i ho
    obtain ⟨i, e, hi, hpi, _⟩ := fidx_spec ho
    rw [e, Int.toNat_natCast]
    have hpi : at_[i] = t := by simpa using hpi
    have hki : k ≠ i := fun e => by subst e; exact h1 (.inl (by rw [hpi]))
    refine ⟨by simp, List.ext_getElem (by simp) fun m h3 h4 => ?_⟩
    simp only [List.getElem_set]
    split
    · rename_i e; subst e; exact hpi.symm
    · split
      · rename_i e; subst e; rfl
      · rfl
  · refine ⟨by simp, List.ext_getElem (by simp) fun m h3 h4 => ?_⟩
    simp only [List.getElem_set]
    split
    · rename_i e; subst e; rfl
    · rfl
abbrev Im := List Int × Int × Int
def tileStep (j : Job) (fx : List Int) (k : Nat) (s : Im) (t : Nat) : Im :=
  match exchF j fx s.1 k t with
  | none => s
  | some a => if costF j a < s.2.1 then (a, costF j a, s.2.2 + 1) else s
def blockStep (j : Job) (fx : List Int) (s : Im) (k : Nat) : Im := (List.range j.g.kind.length).foldl (tileStep j fx k) s
def passStep (j : Job) (fx : List Int) (n : Nat) (s : Im) : Im := (List.range n).foldl (blockStep j fx) s
def passesF (j : Job) (fx : List Int) (n : Nat) : Nat → Im → Im
  | 0, s => s
  | p + 1, s => let s' := passStep j fx n s; if s'.2.2 = s.2.2 then s' else passesF j fx n p s'
def improveF (j : Job) (fx at_ : List Int) (passes : Nat) : Im := passesF j fx at_.length passes (at_, costF j at_, 0)
structure ImOk (j : Job) (at0 : List Int) (s : Im) : Prop where
  pl : IsPl j s.1
  len : s.1.length = at0.length
  cost : s.2.1 = costF j s.1
  tot : 0 ≤ s.2.2
  low : s.2.2 + s.2.1 ≤ costF j at0
theorem costF_bd {j : Job} (hj : j.Ok) {at_ : List Int} (hp : IsPl j at_) : -4100000000000 ≤ costF j at_ ∧ costF j at_ ≤ 4100000000000 := by
  obtain ⟨h1, h2⟩ := foldF_bd hj hp
  have key : ∀ L : EM, (∀ x ∈ L, Bd x.2) → -4000004 * (L.length : Int) ≤ emLen L ∧ emLen L ≤ 4000004 * (L.length : Int) := by
    intro L
    induction L with
    | nil => intro _; exact ⟨by simp [emLen], by simp [emLen]⟩
    | cons x r ih =>
      intro h
      have h3 := ih fun y hy => h y (List.mem_cons_of_mem _ hy)
      obtain ⟨b1, b2, b3, b4⟩ := h x List.mem_cons_self
      have e : emLen (x :: r) = extLen x.2 + emLen r := by simp [emLen]
      have e2 : extLen x.2 = x.2.x1 - x.2.x0 + x.2.y1 - x.2.y0 := rfl
      simp only [List.length_cons]
      omega
  have h3 := key _ h1
  unfold costF
  omega
theorem tileStep_ok {j : Job} {fx at0 : List Int} {k : Nat} {s : Im} (h : ImOk j at0 s) (hk : k < at0.length) (t : Nat) : ImOk j at0 (tileStep j fx k s t) := by
  unfold tileStep
  cases he : exchF j fx s.1 k t with
  | none => exact h
  | some a =>
    simp only
    split
    · rename_i hc
      have h1 := h.len
      exact ⟨exch_isPl h.pl (by omega) he, by show a.length = _; rw [(exch_undo (by omega) he).1, h1], rfl, by have := h.tot; show 0 ≤ s.2.2 + 1; omega, by have := h.low; show s.2.2 + 1 + costF j a ≤ _; omega⟩
    · exact h
theorem tiles_ok {j : Job} {fx at0 : List Int} {k : Nat} (hk : k < at0.length) : ∀ (l : List Nat) {s : Im}, ImOk j at0 s → ImOk j at0 (l.foldl (tileStep j fx k) s)
  | [], _, h => h
  | t :: l, _, h => tiles_ok hk l (tileStep_ok h hk t)
theorem blocks_ok {j : Job} {fx at0 : List Int} : ∀ (l : List Nat) {s : Im}, (∀ k ∈ l, k < at0.length) → ImOk j at0 s → ImOk j at0 (l.foldl (blockStep j fx) s)
  | [], _, _, h => h
  | k :: l, _, hl, h => blocks_ok l (fun m hm => hl m (List.mem_cons_of_mem _ hm)) (tiles_ok (hl k List.mem_cons_self) _ h)
theorem foldl_range_succ {α : Type} (f : α → Nat → α) (s : α) (n : Nat) : (List.range (n + 1)).foldl f s = f ((List.range n).foldl f s) n := by simp [List.range_succ]
theorem improve_ok (E : Env) (hE : E.p = Try.prog) (hkk : E.kk ≤ 300) (j : Job) (hj : j.Ok) (fx at0 : List Int) (hfx : (fx.length : Int) ≤ 1000000) (n passes : Nat) (hn : at0.length = n) (hps : passes ≤ 1000) (hp : IsPl j at0) :
    FnM E 72 [.agg (jobC false j), .view 705 0 n, .sl false 1 (ints fx), .int passes] ⟨[(16, .view 705 0 n)], [], [(705, ⟨1, 3, ints at0⟩)], []⟩
      (fun rv st' => rv = .int (improveF j fx at0 passes).2.2 ∧ st' = ⟨[(16, .view 705 0 n)], [], [(705, ⟨1, 3, ints (improveF j fx at0 passes).1⟩)], []⟩) := by
  have key : FnM E 72 [.agg (jobC false j), .view 705 0 n, .sl false 1 (ints fx), .int passes] ⟨[(16, .view 705 0 n)], [], [(705, ⟨1, 3, ints at0⟩)], []⟩
      (fun rv st' => rv = .int (improveF j fx at0 passes).2.2 ∧ st'.onlyB [] = ⟨[(16, .view 705 0 n)], [], [(705, ⟨1, 3, ints (improveF j fx at0 passes).1⟩)], []⟩) := by
    refine fnM_of 300 (by rw [hE]; exact Try.func72) (by rw [hE]; exact ok72_300) (by show 4 ≤ _; decide) rfl hkk ?_
    simp only [ac72_300, rv72_300, push_cast, reduceIte, Nat.reduceEqDiff, Nat.reduceAdd, Nat.reduceSub, Nat.reduceMul, Nat.reduceBEq, Nat.reduceLT, Nat.reduceLeDiff, reduceCtorEq, Int.reduceToNat, Int.reduceNeg]
    rw [List.take_of_length_le (by omega)]
    refine cal_sub (by rw [hE]; exact cost_ok j hj at0 hp) (by simp only [push_cast, reduceIte, Nat.reduceEqDiff, Nat.reduceAdd, Nat.reduceSub, Nat.reduceMul, Nat.reduceBEq, Nat.reduceLT, Nat.reduceLeDiff, reduceCtorEq, Int.reduceToNat, Int.reduceNeg]) ?_
    simp only [push_cast, reduceIte, Nat.reduceEqDiff, Nat.reduceAdd, Nat.reduceSub, Nat.reduceMul, Nat.reduceBEq, Nat.reduceLT, Nat.reduceLeDiff, reduceCtorEq, Int.reduceToNat, Int.reduceNeg]
    subst hn
    have hb0 := costF_bd hj hp
    have hnb := hj.nb
    have hpl := hp.1
    have hkl := hj.kind
    have hwh := hj.wh
    refine loop_of (fun m st => ∃ (p : Nat) (s : Im), p ≤ passes ∧ m = passes - p ∧ ImOk j at0 s ∧ passesF j fx at0.length (passes - p) s = improveF j fx at0 passes ∧
      st = ⟨[(16, .view 705 0 at0.length), (301, .view 705 0 at0.length), (302, .sl false 1 (ints fx)), (304, .ptr 304 0), (309, .int s.2.2), (310, .int s.2.1), (320, .int passes), (321, .int p)], [(304, jobC false j)], [(705, ⟨1, 3, ints s.1⟩)], []⟩) passes ?_ ?_
    · refine ⟨0, (at0, costF j at0, 0), by omega, by omega, ⟨hp, rfl, rfl, by show (0 : Int) ≤ 0; omega, by show 0 + costF j at0 ≤ _; omega⟩, rfl, ?_⟩
      simp only [push_cast, reduceIte, Nat.reduceEqDiff, Nat.reduceAdd, Nat.reduceSub, Nat.reduceMul, Nat.reduceBEq, Nat.reduceLT, Nat.reduceLeDiff, reduceCtorEq, Int.reduceToNat, Int.reduceNeg]
    · rintro m st ⟨p, s, hp1, rfl, hs, hF, rfl⟩
      simp only [push_cast, reduceIte, Nat.reduceEqDiff, Nat.reduceAdd, Nat.reduceSub, Nat.reduceMul, Nat.reduceBEq, Nat.reduceLT, Nat.reduceLeDiff, reduceCtorEq, Int.reduceToNat, Int.reduceNeg]
      refine cond_dec (fun h1 => ?_) fun h1 => ?_
      · refine loop_of (fun m st => ∃ (k : Nat), k ≤ at0.length ∧ m = at0.length - k ∧ ImOk j at0 ((List.range k).foldl (blockStep j fx) s) ∧
          st = ⟨[(16, .view 705 0 at0.length), (301, .view 705 0 at0.length), (302, .sl false 1 (ints fx)), (304, .ptr 304 0), (309, .int ((List.range k).foldl (blockStep j fx) s).2.2), (310, .int ((List.range k).foldl (blockStep j fx) s).2.1), (311, .int s.2.2), (320, .int passes), (321, .int p), (325, .int at0.length), (326, .int k)], [(304, jobC false j)], [(705, ⟨1, 3, ints ((List.range k).foldl (blockStep j fx) s).1⟩)], []⟩) at0.length ?_ ?_
        · refine ⟨0, by omega, by omega, hs, ?_⟩
          simp only [push_cast, reduceIte, Nat.reduceEqDiff, Nat.reduceAdd, Nat.reduceSub, Nat.reduceMul, Nat.reduceBEq, Nat.reduceLT, Nat.reduceLeDiff, reduceCtorEq, Int.reduceToNat, Int.reduceNeg]
          rfl
        · rintro m st ⟨k, hk, rfl, hs1, rfl⟩
          have hsucc := foldl_range_succ (blockStep j fx) s k
          generalize hse : (List.range k).foldl (blockStep j fx) s = s1 at hs1 hsucc ⊢
          simp only [push_cast, reduceIte, Nat.reduceEqDiff, Nat.reduceAdd, Nat.reduceSub, Nat.reduceMul, Nat.reduceBEq, Nat.reduceLT, Nat.reduceLeDiff, reduceCtorEq, Int.reduceToNat, Int.reduceNeg]
          refine cond_dec (fun h2 => ?_) fun h2 => ?_
          · have hk' : k < at0.length := by omega
            refine loop_of (fun m st => ∃ (t : Nat), t ≤ j.g.kind.length ∧ m = j.g.kind.length - t ∧ ImOk j at0 ((List.range t).foldl (tileStep j fx k) s1) ∧
              st = stI j fx at0.length k t ((List.range t).foldl (tileStep j fx k) s1).2.2 ((List.range t).foldl (tileStep j fx k) s1).2.1 s.2.2 passes p [] [] ((List.range t).foldl (tileStep j fx k) s1).1) j.g.kind.length ?_ ?_
            · refine ⟨0, by omega, by omega, hs1, ?_⟩
              simp only [stI_eq, push_cast, reduceIte, Nat.reduceEqDiff, Nat.reduceAdd, Nat.reduceSub, Nat.reduceMul, Nat.reduceBEq, Nat.reduceLT, Nat.reduceLeDiff, reduceCtorEq, Int.reduceToNat, Int.reduceNeg]
              rfl
            · rintro m st ⟨t, ht, rfl, hs2, rfl⟩
              have hsucc2 := foldl_range_succ (tileStep j fx k) s1 t
              generalize hse2 : (List.range t).foldl (tileStep j fx k) s1 = s2 at hs2 hsucc2 ⊢
              simp only [stI_eq, push_cast, reduceIte, Nat.reduceEqDiff, Nat.reduceAdd, Nat.reduceSub, Nat.reduceMul, Nat.reduceBEq, Nat.reduceLT, Nat.reduceLeDiff, reduceCtorEq, Int.reduceToNat, Int.reduceNeg]
              refine cond_dec (fun h3 => ?_) fun h3 => ?_
              · have ht' : t < j.g.kind.length := by omega
                refine clm_of (FnM.only [16, 301, 302, 304, 309, 310, 311, 312, 320, 321, 325, 326, 332, 333] [304] [705] [] (exch_ok E hE (by omega) j fx at0.length k t s2.2.2 s2.2.1 s.2.2 passes p s2.1 hj hfx hs2.len (by omega) hk')) ?_
                intro rv st' hex
                unfold exQ at hex
                have hl2 := hs2.len
                cases he : exchF j fx s2.1 k t with
                | none =>
                  rw [he] at hex
                  obtain ⟨rfl, rfl⟩ := hex
                  simp only [stI_eq, push_cast, reduceIte, Nat.reduceEqDiff, Nat.reduceAdd, Nat.reduceSub, Nat.reduceMul, Nat.reduceBEq, Nat.reduceLT, Nat.reduceLeDiff, reduceCtorEq, Int.reduceToNat, Int.reduceNeg]
                  have hstep : tileStep j fx k s2 t = s2 := by unfold tileStep; rw [he]
                  rw [hstep] at hsucc2
                  refine ⟨⟨by omega, by omega⟩, _, ?_, t + 1, by omega, rfl, by rw [hsucc2]; exact hs2, ?_⟩
                  · omega
                  · rw [hsucc2]; simp
                | some a =>
                  rw [he] at hex
                  obtain ⟨rfl, rfl⟩ := hex
                  have hpa := exch_isPl hs2.pl (by omega) he
                  have hun := exch_undo (by omega) he
                  have hok := tileStep_ok hs2 hk' (fx := fx) t
                  have hcb := costF_bd hj hs2.pl
                  have hct := hs2.cost
                  have htl := hs2.low
                  have htt := hs2.tot
                  simp only [stI_eq, cbI_eq, push_cast, reduceIte, Nat.reduceEqDiff, Nat.reduceAdd, Nat.reduceSub, Nat.reduceMul, Nat.reduceBEq, Nat.reduceLT, Nat.reduceLeDiff, reduceCtorEq, Int.reduceToNat, Int.reduceNeg]
                  rw [List.take_of_length_le (by have := hun.1; omega)]
                  refine cal_sub (by rw [hE]; exact cost_ok j hj a hpa) (by simp only [push_cast, reduceIte, Nat.reduceEqDiff, Nat.reduceAdd, Nat.reduceSub, Nat.reduceMul, Nat.reduceBEq, Nat.reduceLT, Nat.reduceLeDiff, reduceCtorEq, Int.reduceToNat, Int.reduceNeg]) ?_
                  simp only [push_cast, reduceIte, Nat.reduceEqDiff, Nat.reduceAdd, Nat.reduceSub, Nat.reduceMul, Nat.reduceBEq, Nat.reduceLT, Nat.reduceLeDiff, reduceCtorEq, Int.reduceToNat, Int.reduceNeg]
                  refine cond_dec (fun h4 => ?_) fun h4 => ?_
                  · have hstep : tileStep j fx k s2 t = (a, costF j a, s2.2.2 + 1) := by unfold tileStep; rw [he]; simp only; rw [if_pos h4]
                    rw [hstep] at hsucc2 hok
                    refine ⟨⟨by omega, by omega⟩, ⟨by omega, by omega⟩, _, ?_, t + 1, by omega, rfl, by rw [hsucc2]; exact hok, ?_⟩
                    · omega
                    · rw [hsucc2]; simp
                  · have hstep : tileStep j fx k s2 t = s2 := by unfold tileStep; rw [he]; simp only; rw [if_neg h4]
                    rw [hstep] at hsucc2
                    have hol : fidx (fun x => decide (x = (t : Int))) s2.1 < at0.length := by
                      rcases fidx_lt (fun x => decide (x = (t : Int))) s2.1 with h5 | h5
                      · omega
                      · rw [h5] at hl2; simp at hl2; omega
                    refine clm_of (FnM.only [16, 301, 302, 304, 309, 310, 311, 312, 320, 321, 325, 326, 332, 333] [304, 406, 408, 409, 412, 413, 414] [705] [] (undo_ok E hE (by omega) j fx at0.length k t s2.2.2 s2.2.1 s.2.2 passes p (s2.1.getD k default) (fidx (fun x => decide (x = (t : Int))) s2.1) a (by omega) hk' hol)) ?_
                    rintro rv _ ⟨rfl, rfl⟩
                    rw [hun.2]
                    simp only [stI_eq, cbI_eq, push_cast, reduceIte, Nat.reduceEqDiff, Nat.reduceAdd, Nat.reduceSub, Nat.reduceMul, Nat.reduceBEq, Nat.reduceLT, Nat.reduceLeDiff, reduceCtorEq, Int.reduceToNat, Int.reduceNeg]
                    refine ⟨⟨by omega, by omega⟩, _, ?_, t + 1, by omega, rfl, by rw [hsucc2]; exact hs2, ?_⟩
                    · omega
                    · rw [hsucc2]; simp
              · have htt : t = j.g.kind.length := by omega
                subst htt
                have hb : blockStep j fx s1 k = s2 := hse2
                rw [hb] at hsucc
                refine ⟨⟨by omega, by omega⟩, _, ?_, k + 1, by omega, rfl, by rw [hsucc]; exact hs2, ?_⟩
                · omega
                · rw [hsucc]; simp
          · have hkk' : k = at0.length := by omega
            subst hkk'
            obtain ⟨q, hq⟩ : ∃ q, passes - p = q + 1 := ⟨passes - p - 1, by omega⟩
            rw [hq] at hF
            simp only [passesF, passStep, hse] at hF
            refine cond_dec (fun h3 => ?_) fun h3 => ?_
            · rw [if_pos h3] at hF
              rw [← hF]; exact ⟨rfl, rfl⟩
            · rw [if_neg h3] at hF
              refine ⟨⟨by omega, by omega⟩, _, ?_, p + 1, s1, by omega, rfl, hs1, by rw [show passes - (p + 1) = q by omega]; exact hF, ?_⟩
              · omega
              · simp
      · rw [show passes - p = 0 by omega] at hF
        simp only [passesF] at hF
        rw [← hF]; exact ⟨rfl, rfl⟩
  refine FnM.mono (FnM.postB (fun _ => []) key) ?_
  rintro rv _ ⟨st1, ⟨h1, h2⟩, rfl⟩
  exact ⟨h1, h2⟩
end Go.Proofs.Ytbdamnfkgdbidaa
namespace Go.Proofs.Ytbdamnfkgdbidaa
open Go Go.Vc Txt
def packedC (q : Bool) (p : Packed) : List PV := [.sl q 3 (rows wireC p.ins), .sl q 5 (rows (blockC q) p.blocks), .sl q 3 (rows wireC p.out), .sl q 1 (ints p.drive)]
def badC (q : Bool) (b : Bad) : List PV := [.sl q 1 (ints b.tiles), .sl q 1 (ints b.nodes)]
@[push_cast] theorem packedC_eq (q : Bool) (p : Packed) : packedC q p = [.sl q 3 (rows wireC p.ins), .sl q 5 (rows (blockC q) p.blocks), .sl q 3 (rows wireC p.out), .sl q 1 (ints p.drive)] := rfl
@[push_cast] theorem badC_eq (q : Bool) (b : Bad) : badC q b = [.sl q 1 (ints b.tiles), .sl q 1 (ints b.nodes)] := rfl
theorem suits_exp (j : Job) (hj : j.Ok) (block tile : Int) : FnEq Try.prog 12 [.agg (packedC false j.p), .agg (gridC false j.g), .agg (badC false j.bad), .int block, .int tile] (.bool (suitsR j block tile)) := by
  refine FnEq.of_awp Try.func12 ok12 (by show 5 ≤ _; decide) (by simp only [push_cast, reduceIte, Nat.reduceEqDiff, Nat.reduceAdd, Nat.reduceSub, Nat.reduceMul, Nat.reduceBEq, Nat.reduceLT, Nat.reduceLeDiff, reduceCtorEq, Int.reduceToNat, Int.reduceNeg] <;> first | exact fun _ _ => trivial | simp) ?_
  simp only [ac12, rv12, push_cast, reduceIte, Nat.reduceEqDiff, Nat.reduceAdd, Nat.reduceSub, Nat.reduceMul, Nat.reduceBEq, Nat.reduceLT, Nat.reduceLeDiff, reduceCtorEq, Int.reduceToNat, Int.reduceNeg]
  refine cal_sub (psuits_ok j hj block tile) (by simp only [push_cast, reduceIte, Nat.reduceEqDiff, Nat.reduceAdd, Nat.reduceSub, Nat.reduceMul, Nat.reduceBEq, Nat.reduceLT, Nat.reduceLeDiff, reduceCtorEq, Int.reduceToNat, Int.reduceNeg]) ?_
  simp only [push_cast, reduceIte, Nat.reduceEqDiff, Nat.reduceAdd, Nat.reduceSub, Nat.reduceMul, Nat.reduceBEq, Nat.reduceLT, Nat.reduceLeDiff, reduceCtorEq, Int.reduceToNat, Int.reduceNeg]
def Legal (j : Job) (at_ : List Int) : Prop := Fits j ∧ IsPl j at_ ∧ ∀ k : Nat, k < at_.length → suitsR j k (at_.getD k default) = true
def checkF (j : Job) (at_ : List Int) : Int := if Fits j ∧ IsPl j at_ ∧ (List.range at_.length).all (fun k => suitsR j k (at_.getD k default)) = true then 0 else 290
theorem check_exp (j : Job) (hj : j.Ok) (at_ : List Int) (hl : (at_.length : Int) ≤ 1000000) : FnEq Try.prog 38 [.agg (packedC false j.p), .agg (gridC false j.g), .agg (badC false j.bad), .sl false 1 (ints at_)] (.int (checkF j at_)) := by
  refine FnEq.of_awp Try.func38 ok38 (by show 4 ≤ _; decide) (by simp only [push_cast, reduceIte, Nat.reduceEqDiff, Nat.reduceAdd, Nat.reduceSub, Nat.reduceMul, Nat.reduceBEq, Nat.reduceLT, Nat.reduceLeDiff, reduceCtorEq, Int.reduceToNat, Int.reduceNeg] <;> first | exact fun _ _ => trivial | simp) ?_
  simp only [ac38, rv38, push_cast, reduceIte, Nat.reduceEqDiff, Nat.reduceAdd, Nat.reduceSub, Nat.reduceMul, Nat.reduceBEq, Nat.reduceLT, Nat.reduceLeDiff, reduceCtorEq, Int.reduceToNat, Int.reduceNeg]
  have hi := hj.ins
  have ho := hj.outs
  refine cal_sub (pfits_ok j (by omega) (by omega)) (by simp only [push_cast, reduceIte, Nat.reduceEqDiff, Nat.reduceAdd, Nat.reduceSub, Nat.reduceMul, Nat.reduceBEq, Nat.reduceLT, Nat.reduceLeDiff, reduceCtorEq, Int.reduceToNat, Int.reduceNeg]) ?_
  simp only [push_cast, reduceIte, Nat.reduceEqDiff, Nat.reduceAdd, Nat.reduceSub, Nat.reduceMul, Nat.reduceBEq, Nat.reduceLT, Nat.reduceLeDiff, reduceCtorEq, Int.reduceToNat, Int.reduceNeg]
  refine cut_of ⟨[(3, .sl false 1 (ints at_)), (9, .ptr 9 0), (24, .bool (decide ¬ (Fits j ∧ IsPl j at_)))], [(4, packedC false j.p), (5, gridC false j.g), (6, badC false j.bad), (9, jobC false j)], [], []⟩ ?_ ?_
  · refine grd_bf rfl (fun h1 => ?_) fun h1 => ?_ <;> simp only [push_cast, reduceIte, Nat.reduceEqDiff, Nat.reduceAdd, Nat.reduceSub, Nat.reduceMul, Nat.reduceBEq, Nat.reduceLT, Nat.reduceLeDiff, reduceCtorEq, Int.reduceToNat, Int.reduceNeg]
    · have : ¬ Fits j := by simpa using h1
      simp [this]
    · have h1 : Fits j := by simpa using h1
      refine cal_sub (placed_ok j hj at_ hl) (by simp only [push_cast, reduceIte, Nat.reduceEqDiff, Nat.reduceAdd, Nat.reduceSub, Nat.reduceMul, Nat.reduceBEq, Nat.reduceLT, Nat.reduceLeDiff, reduceCtorEq, Int.reduceToNat, Int.reduceNeg]) ?_
      simp only [push_cast, reduceIte, Nat.reduceEqDiff, Nat.reduceAdd, Nat.reduceSub, Nat.reduceMul, Nat.reduceBEq, Nat.reduceLT, Nat.reduceLeDiff, reduceCtorEq, Int.reduceToNat, Int.reduceNeg]
      simp [h1]
  simp only [push_cast, reduceIte, Nat.reduceEqDiff, Nat.reduceAdd, Nat.reduceSub, Nat.reduceMul, Nat.reduceBEq, Nat.reduceLT, Nat.reduceLeDiff, reduceCtorEq, Int.reduceToNat, Int.reduceNeg]
  refine cond_dec (fun h => ?_) fun h => ?_
  · rw [checkF, if_neg fun hh => h ⟨hh.1, hh.2.1⟩]
  have h := Classical.not_not.1 h
  refine loop_of (fun m st => ∃ k : Nat, k ≤ at_.length ∧ m = at_.length - k ∧ (∀ i : Nat, i < k → suitsR j i (at_.getD i default) = true) ∧
    st = ⟨[(9, .ptr 9 0), (25, .sl false 1 (ints at_)), (26, .int at_.length), (27, .int k)], [(9, jobC false j)], [], []⟩) at_.length ?_ ?_
  · refine ⟨0, by omega, by omega, fun i hi => by omega, ?_⟩
    simp only [push_cast, reduceIte, Nat.reduceEqDiff, Nat.reduceAdd, Nat.reduceSub, Nat.reduceMul, Nat.reduceBEq, Nat.reduceLT, Nat.reduceLeDiff, reduceCtorEq, Int.reduceToNat, Int.reduceNeg]
  · rintro m st ⟨k, hk, rfl, h1, rfl⟩
    simp only [push_cast, reduceIte, Nat.reduceEqDiff, Nat.reduceAdd, Nat.reduceSub, Nat.reduceMul, Nat.reduceBEq, Nat.reduceLT, Nat.reduceLeDiff, reduceCtorEq, Int.reduceToNat, Int.reduceNeg]
    refine cond_dec (fun h2 => ?_) fun h2 => ?_
    · refine ⟨⟨by omega, by omega⟩, by omega, ?_⟩
      refine cal_sub (psuits_ok j hj k (at_.getD k default)) (by simp only [push_cast, reduceIte, Nat.reduceEqDiff, Nat.reduceAdd, Nat.reduceSub, Nat.reduceMul, Nat.reduceBEq, Nat.reduceLT, Nat.reduceLeDiff, reduceCtorEq, Int.reduceToNat, Int.reduceNeg]) ?_
      simp only [push_cast, reduceIte, Nat.reduceEqDiff, Nat.reduceAdd, Nat.reduceSub, Nat.reduceMul, Nat.reduceBEq, Nat.reduceLT, Nat.reduceLeDiff, reduceCtorEq, Int.reduceToNat, Int.reduceNeg]
      refine cond_of (fun h3 => ?_) fun h3 => ?_
      · rw [checkF, if_neg]
        rintro ⟨_, _, h4⟩
        rw [List.all_eq_true] at h4
        have h5 := h4 k (List.mem_range.2 (by omega))
        rw [h5] at h3; cases h3
      · have h3 : suitsR j k (at_.getD k default) = true := by simpa using h3
        refine ⟨⟨by omega, by omega⟩, _, ?_, k + 1, by omega, rfl, fun i hi => ?_, ?_⟩
        · omega
        · by_cases e : i = k
          · subst e; exact h3
          · exact h1 i (by omega)
        · simp
    · rw [checkF, if_pos ⟨h.1, h.2, by rw [List.all_eq_true]; intro k hk; exact h1 k (by have := List.mem_range.1 hk; omega)⟩]
def cost1F (j : Job) (at_ : List Int) : Int × Int := if IsPl j at_ then (costF j at_, 0) else (0, 290)
theorem cost_exp (j : Job) (hj : j.Ok) (at_ : List Int) (hl : (at_.length : Int) ≤ 1000000) : FnEq Try.prog 41 [.agg (packedC false j.p), .agg (gridC false j.g), .sl false 1 (ints at_)] (.tup [.int (cost1F j at_).1, .int (cost1F j at_).2]) := by
  refine FnEq.of_awp Try.func41 ok41 (by show 3 ≤ _; decide) (by simp only [push_cast, reduceIte, Nat.reduceEqDiff, Nat.reduceAdd, Nat.reduceSub, Nat.reduceMul, Nat.reduceBEq, Nat.reduceLT, Nat.reduceLeDiff, reduceCtorEq, Int.reduceToNat, Int.reduceNeg] <;> first | exact fun _ _ => trivial | simp) ?_
  simp only [ac41, rv41, push_cast, reduceIte, Nat.reduceEqDiff, Nat.reduceAdd, Nat.reduceSub, Nat.reduceMul, Nat.reduceBEq, Nat.reduceLT, Nat.reduceLeDiff, reduceCtorEq, Int.reduceToNat, Int.reduceNeg]
  have hj0 : (⟨j.p, j.g, ⟨[], []⟩⟩ : Job).Ok := ⟨hj.wh, hj.tr, hj.kind, hj.nb, hj.nin, hj.ins, hj.outs, by simp, by simp, by simp, hj.w, hj.h, hj.nd, hj.sb, hj.sd⟩
  refine cal_sub (placed_ok ⟨j.p, j.g, ⟨[], []⟩⟩ hj0 at_ hl) (by simp only [push_cast, reduceIte, Nat.reduceEqDiff, Nat.reduceAdd, Nat.reduceSub, Nat.reduceMul, Nat.reduceBEq, Nat.reduceLT, Nat.reduceLeDiff, reduceCtorEq, Int.reduceToNat, Int.reduceNeg]; done) ?_
  simp only [push_cast, reduceIte, Nat.reduceEqDiff, Nat.reduceAdd, Nat.reduceSub, Nat.reduceMul, Nat.reduceBEq, Nat.reduceLT, Nat.reduceLeDiff, reduceCtorEq, Int.reduceToNat, Int.reduceNeg]
  refine cond_of (fun h => ?_) fun h => ?_
  · have h : ¬ IsPl j at_ := by
      have h : ¬ IsPl ⟨j.p, j.g, ⟨[], []⟩⟩ at_ := by simpa using h
      exact h
    rw [cost1F, if_neg h]
    exact ⟨rfl, rfl⟩
  · have h : IsPl ⟨j.p, j.g, ⟨[], []⟩⟩ at_ := by simpa using h
    refine cal_sub (cost_ok ⟨j.p, j.g, ⟨[], []⟩⟩ hj0 at_ h) (by simp only [push_cast, reduceIte, Nat.reduceEqDiff, Nat.reduceAdd, Nat.reduceSub, Nat.reduceMul, Nat.reduceBEq, Nat.reduceLT, Nat.reduceLeDiff, reduceCtorEq, Int.reduceToNat, Int.reduceNeg]; done) ?_
    simp only [push_cast, reduceIte, Nat.reduceEqDiff, Nat.reduceAdd, Nat.reduceSub, Nat.reduceMul, Nat.reduceBEq, Nat.reduceLT, Nat.reduceLeDiff, reduceCtorEq, Int.reduceToNat, Int.reduceNeg]
    rw [cost1F, if_pos (show IsPl j at_ from h)]
    exact ⟨rfl, rfl⟩
theorem lcheck_ok (j : Job) (hj : j.Ok) (at_ : List Int) (hl : (at_.length : Int) ≤ 1000000) : FnEq Try.prog 15 [.agg (jobC false j), .sl false 1 (ints at_)] (.int (checkF j at_)) := by
  refine FnEq.of_awp Try.func15 ok15 (by show 2 ≤ _; decide) (by simp only [push_cast, reduceIte, Nat.reduceEqDiff, Nat.reduceAdd, Nat.reduceSub, Nat.reduceMul, Nat.reduceBEq, Nat.reduceLT, Nat.reduceLeDiff, reduceCtorEq, Int.reduceToNat, Int.reduceNeg] <;> first | exact fun _ _ => trivial | simp) ?_
  simp only [ac15, rv15, push_cast, reduceIte, Nat.reduceEqDiff, Nat.reduceAdd, Nat.reduceSub, Nat.reduceMul, Nat.reduceBEq, Nat.reduceLT, Nat.reduceLeDiff, reduceCtorEq, Int.reduceToNat, Int.reduceNeg]
  refine cal_sub (check_exp j hj at_ hl) (by simp only [push_cast, reduceIte, Nat.reduceEqDiff, Nat.reduceAdd, Nat.reduceSub, Nat.reduceMul, Nat.reduceBEq, Nat.reduceLT, Nat.reduceLeDiff, reduceCtorEq, Int.reduceToNat, Int.reduceNeg]) ?_
  simp only [push_cast, reduceIte, Nat.reduceEqDiff, Nat.reduceAdd, Nat.reduceSub, Nat.reduceMul, Nat.reduceBEq, Nat.reduceLT, Nat.reduceLeDiff, reduceCtorEq, Int.reduceToNat, Int.reduceNeg]
theorem lcost_ok (j : Job) (hj : j.Ok) (at_ : List Int) (hl : (at_.length : Int) ≤ 1000000) : FnEq Try.prog 17 [.agg (jobC false j), .sl false 1 (ints at_)] (.agg [.int (cost1F j at_).1, .int (cost1F j at_).2]) := by
  refine FnEq.of_awp Try.func17 ok17 (by show 2 ≤ _; decide) (by simp only [push_cast, reduceIte, Nat.reduceEqDiff, Nat.reduceAdd, Nat.reduceSub, Nat.reduceMul, Nat.reduceBEq, Nat.reduceLT, Nat.reduceLeDiff, reduceCtorEq, Int.reduceToNat, Int.reduceNeg] <;> first | exact fun _ _ => trivial | simp) ?_
  simp only [ac17, rv17, push_cast, reduceIte, Nat.reduceEqDiff, Nat.reduceAdd, Nat.reduceSub, Nat.reduceMul, Nat.reduceBEq, Nat.reduceLT, Nat.reduceLeDiff, reduceCtorEq, Int.reduceToNat, Int.reduceNeg]
  refine cal_sub (cost_exp j hj at_ hl) (by simp only [push_cast, reduceIte, Nat.reduceEqDiff, Nat.reduceAdd, Nat.reduceSub, Nat.reduceMul, Nat.reduceBEq, Nat.reduceLT, Nat.reduceLeDiff, reduceCtorEq, Int.reduceToNat, Int.reduceNeg]) ?_
  simp only [push_cast, reduceIte, Nat.reduceEqDiff, Nat.reduceAdd, Nat.reduceSub, Nat.reduceMul, Nat.reduceBEq, Nat.reduceLT, Nat.reduceLeDiff, reduceCtorEq, Int.reduceToNat, Int.reduceNeg]
end Go.Proofs.Ytbdamnfkgdbidaa
namespace Go.Proofs.Ytbdamnfkgdbidaa
open Go Go.Vc Txt
theorem clone_ok (E : Env) (hE : E.p = Try.prog) (hkk : E.kk ≤ 700) (j : Job) (at_ fx : List Int) (passes : Int) (hl : (at_.length : Int) ≤ 1000000) :
    FnM E 71 [.sl false 1 (ints at_)] ⟨[(4, .sl false 1 (ints fx)), (5, .int passes), (6, .ptr 6 0), (7, .ptr 7 0), (8, .ptr 8 0)], [(6, packedC false j.p), (7, gridC false j.g), (8, badC false j.bad)], [], []⟩
      (fun rv st' => (at_ = [] ∧ rv = .nil ∧ st' = ⟨[(4, .sl false 1 (ints fx)), (5, .int passes), (6, .ptr 6 0), (7, .ptr 7 0), (8, .ptr 8 0)], [(6, packedC false j.p), (7, gridC false j.g), (8, badC false j.bad)], [], []⟩) ∨
        (rv = .view 705 0 at_.length ∧ st' = ⟨[(4, .sl false 1 (ints fx)), (5, .int passes), (6, .ptr 6 0), (7, .ptr 7 0), (8, .ptr 8 0)], [(6, packedC false j.p), (7, gridC false j.g), (8, badC false j.bad)], [(705, ⟨1, 3, ints at_⟩)], []⟩)) := by
  refine fnM_of 700 (by rw [hE]; exact Try.func71) (by rw [hE]; exact ok71_700) (by show 1 ≤ _; decide) rfl hkk ?_
  simp only [ac71_700, rv71_700, push_cast, reduceIte, Nat.reduceEqDiff, Nat.reduceAdd, Nat.reduceSub, Nat.reduceMul, Nat.reduceBEq, Nat.reduceLT, Nat.reduceLeDiff, reduceCtorEq, Int.reduceToNat, Int.reduceNeg]
  refine niqK_any _ fun b hb => ?_
  refine cond_of (fun e => ?_) fun e => ?_
  · have hb := hb e
    exact .inl (by simpa [rows] using hb)
  · simp only [List.replicate_zero, List.length_nil, Nat.zero_add, List.nil_append]
    refine ⟨⟨by omega, by omega⟩, ?_, ?_⟩
    · simp [flatB]
    · simp
theorem improve_nil (E : Env) (hE : E.p = Try.prog) (hkk : E.kk ≤ 300) (j : Job) (hj : j.Ok) (fx : List Int) (passes : Nat) (hps : passes ≤ 1000) (hp : IsPl j []) :
    FnM E 72 [.agg (jobC false j), .nil, .sl false 1 (ints fx), .int passes] ⟨[(16, .nil)], [], [], []⟩
      (fun rv st' => rv = .int 0 ∧ st' = ⟨[(16, .nil)], [], [], []⟩) := by
  have key : FnM E 72 [.agg (jobC false j), .nil, .sl false 1 (ints fx), .int passes] ⟨[(16, .nil)], [], [], []⟩
      (fun rv st' => rv = .int 0 ∧ st'.onlyB [] = ⟨[(16, .nil)], [], [], []⟩) := by
    refine fnM_of 300 (by rw [hE]; exact Try.func72) (by rw [hE]; exact ok72_300) (by show 4 ≤ _; decide) rfl hkk ?_
    simp only [ac72_300, rv72_300, push_cast, reduceIte, Nat.reduceEqDiff, Nat.reduceAdd, Nat.reduceSub, Nat.reduceMul, Nat.reduceBEq, Nat.reduceLT, Nat.reduceLeDiff, reduceCtorEq, Int.reduceToNat, Int.reduceNeg]
    refine cal_sub (by rw [hE]; exact cost_ok j hj [] hp) (by simp only [push_cast, reduceIte, Nat.reduceEqDiff, Nat.reduceAdd, Nat.reduceSub, Nat.reduceMul, Nat.reduceBEq, Nat.reduceLT, Nat.reduceLeDiff, reduceCtorEq, Int.reduceToNat, Int.reduceNeg]) ?_
    simp only [push_cast, reduceIte, Nat.reduceEqDiff, Nat.reduceAdd, Nat.reduceSub, Nat.reduceMul, Nat.reduceBEq, Nat.reduceLT, Nat.reduceLeDiff, reduceCtorEq, Int.reduceToNat, Int.reduceNeg]
    refine loop_of (fun m st => m = 0 ∧ st = ⟨[(16, .nil), (301, .nil), (302, .sl false 1 (ints fx)), (304, .ptr 304 0), (309, .int 0), (310, .int (costF j [])), (320, .int passes), (321, .int 0)], [(304, jobC false j)], [], []⟩) 0 ?_ ?_
    · refine ⟨rfl, ?_⟩
      simp only [push_cast, reduceIte, Nat.reduceEqDiff, Nat.reduceAdd, Nat.reduceSub, Nat.reduceMul, Nat.reduceBEq, Nat.reduceLT, Nat.reduceLeDiff, reduceCtorEq, Int.reduceToNat, Int.reduceNeg]
    · rintro m st ⟨rfl, rfl⟩
      simp only [push_cast, reduceIte, Nat.reduceEqDiff, Nat.reduceAdd, Nat.reduceSub, Nat.reduceMul, Nat.reduceBEq, Nat.reduceLT, Nat.reduceLeDiff, reduceCtorEq, Int.reduceToNat, Int.reduceNeg]
      refine cond_dec (fun h1 => ?_) fun h1 => ?_
      · refine loop_of (fun m st => m = 0 ∧ st = ⟨[(16, .nil), (301, .nil), (302, .sl false 1 (ints fx)), (304, .ptr 304 0), (309, .int 0), (310, .int (costF j [])), (311, .int 0), (320, .int passes), (321, .int 0), (325, .int 0), (326, .int 0)], [(304, jobC false j)], [], []⟩) 0 ?_ ?_
        · refine ⟨rfl, ?_⟩
          simp only [push_cast, reduceIte, Nat.reduceEqDiff, Nat.reduceAdd, Nat.reduceSub, Nat.reduceMul, Nat.reduceBEq, Nat.reduceLT, Nat.reduceLeDiff, reduceCtorEq, Int.reduceToNat, Int.reduceNeg]
        · rintro m st ⟨rfl, rfl⟩
          simp only [push_cast, reduceIte, Nat.reduceEqDiff, Nat.reduceAdd, Nat.reduceSub, Nat.reduceMul, Nat.reduceBEq, Nat.reduceLT, Nat.reduceLeDiff, reduceCtorEq, Int.reduceToNat, Int.reduceNeg]
          refine cond_dec (fun h2 => absurd h2 (by omega)) fun h2 => ?_
          trivial
      · trivial
  refine FnM.mono (FnM.postB (fun _ => []) key) ?_
  rintro rv _ ⟨st1, ⟨h1, h2⟩, rfl⟩
  exact ⟨h1, h2⟩
def improvedF (j : Job) (at_ fx : List Int) (passes : Int) : List Int × Int × Int :=
  if passes < 0 ∨ 1000 < passes then ([], 0, 1)
  else if checkF j at_ ≠ 0 then ([], 0, checkF j at_)
  else ((improveF j fx at_ passes.toNat).1, (improveF j fx at_ passes.toNat).2.2, 0)
theorem checkF_zero {j : Job} {at_ : List Int} (h : checkF j at_ = 0) : IsPl j at_ := by
  unfold checkF at h
  split at h
  · rename_i h1; exact h1.2.1
  · cases h
theorem improveF_nil (j : Job) (fx : List Int) (p : Nat) : (improveF j fx [] p).1 = [] ∧ (improveF j fx [] p).2.2 = 0 := by
  cases p <;> simp [improveF, passesF, passStep]
theorem passes_ok {j : Job} {fx at0 : List Int} : ∀ (p : Nat) {s : Im}, ImOk j at0 s → ImOk j at0 (passesF j fx at0.length p s)
  | 0, _, h => h
  | p + 1, s, h => by
    have h1 : ImOk j at0 (passStep j fx at0.length s) := blocks_ok (List.range at0.length) (fun k hk => List.mem_range.1 hk) h
    simp only [passesF]
    split
    · exact h1
    · exact passes_ok p h1
theorem improveF_ok {j : Job} {fx at0 : List Int} (hp : IsPl j at0) (p : Nat) : ImOk j at0 (improveF j fx at0 p) := passes_ok p ⟨hp, rfl, rfl, by show (0 : Int) ≤ 0; omega, by show 0 + costF j at0 ≤ _; omega⟩
theorem improve_exp (j : Job) (hj : j.Ok) (at_ fx : List Int) (passes : Int) (hl : (at_.length : Int) ≤ 1000000) (hfx : (fx.length : Int) ≤ 1000000) :
    FnEq Try.prog 44 [.agg (packedC false j.p), .agg (gridC false j.g), .agg (badC false j.bad), .sl false 1 (ints at_), .sl false 1 (ints fx), .int passes]
      (.tup [.sl true 1 (ints (improvedF j at_ fx passes).1), .int (improvedF j at_ fx passes).2.1, .int (improvedF j at_ fx passes).2.2]) := by
  refine FnEq.of_awp Try.func44 ok44 (by show 6 ≤ _; decide) (by simp only [push_cast, reduceIte, Nat.reduceEqDiff, Nat.reduceAdd, Nat.reduceSub, Nat.reduceMul, Nat.reduceBEq, Nat.reduceLT, Nat.reduceLeDiff, reduceCtorEq, Int.reduceToNat, Int.reduceNeg] <;> first | exact fun _ _ => trivial | simp) ?_
  simp only [ac44, rv44, push_cast, reduceIte, Nat.reduceEqDiff, Nat.reduceAdd, Nat.reduceSub, Nat.reduceMul, Nat.reduceBEq, Nat.reduceLT, Nat.reduceLeDiff, reduceCtorEq, Int.reduceToNat, Int.reduceNeg]
  refine cut_of ⟨[(3, .sl false 1 (ints at_)), (4, .sl false 1 (ints fx)), (5, .int passes), (6, .ptr 6 0), (7, .ptr 7 0), (8, .ptr 8 0), (23, .bool (decide (passes < 0 ∨ 1000 < passes)))], [(6, packedC false j.p), (7, gridC false j.g), (8, badC false j.bad)], [], []⟩ ?_ ?_
  · (repeat' (first | (refine grd_dec rfl (fun _ => ?_) fun _ => ?_ <;> simp only [push_cast, reduceIte, Nat.reduceEqDiff, Nat.reduceAdd, Nat.reduceSub, Nat.reduceMul, Nat.reduceBEq, Nat.reduceLT, Nat.reduceLeDiff, reduceCtorEq, Int.reduceToNat, Int.reduceNeg]) | (refine grd_decf rfl (fun _ => ?_) fun _ => ?_ <;> simp only [push_cast, reduceIte, Nat.reduceEqDiff, Nat.reduceAdd, Nat.reduceSub, Nat.reduceMul, Nat.reduceBEq, Nat.reduceLT, Nat.reduceLeDiff, reduceCtorEq, Int.reduceToNat, Int.reduceNeg])))
    all_goals simp [*]
  simp only [push_cast, reduceIte, Nat.reduceEqDiff, Nat.reduceAdd, Nat.reduceSub, Nat.reduceMul, Nat.reduceBEq, Nat.reduceLT, Nat.reduceLeDiff, reduceCtorEq, Int.reduceToNat, Int.reduceNeg]
  refine cond_dec (fun h => ?_) fun h => ?_
  · rw [improvedF, if_pos h]
    simp only [push_cast, reduceIte, Nat.reduceEqDiff, Nat.reduceAdd, Nat.reduceSub, Nat.reduceMul, Nat.reduceBEq, Nat.reduceLT, Nat.reduceLeDiff, reduceCtorEq, Int.reduceToNat, Int.reduceNeg]
    done
  refine cal_sub (check_exp j hj at_ hl) (by simp only [push_cast, reduceIte, Nat.reduceEqDiff, Nat.reduceAdd, Nat.reduceSub, Nat.reduceMul, Nat.reduceBEq, Nat.reduceLT, Nat.reduceLeDiff, reduceCtorEq, Int.reduceToNat, Int.reduceNeg]) ?_
  simp only [push_cast, reduceIte, Nat.reduceEqDiff, Nat.reduceAdd, Nat.reduceSub, Nat.reduceMul, Nat.reduceBEq, Nat.reduceLT, Nat.reduceLeDiff, reduceCtorEq, Int.reduceToNat, Int.reduceNeg]
  refine cond_dec (fun h1 => ?_) fun h1 => ?_
  · rw [improvedF, if_neg h, if_pos h1]
    simp only [push_cast, reduceIte, Nat.reduceEqDiff, Nat.reduceAdd, Nat.reduceSub, Nat.reduceMul, Nat.reduceBEq, Nat.reduceLT, Nat.reduceLeDiff, reduceCtorEq, Int.reduceToNat, Int.reduceNeg]
    done
  have h1 := Classical.not_not.1 h1
  have hp := checkF_zero h1
  obtain ⟨pn, rfl⟩ : ∃ pn : Nat, passes = pn := ⟨passes.toNat, by omega⟩
  refine clm_of (FnM.only [4, 5, 6, 7, 8] [6, 7, 8] [] [] (clone_ok (Env.of Try.prog) rfl (by show 0 ≤ 700; decide) j at_ fx pn hl)) ?_
  rw [improvedF, if_neg h, if_neg (fun hh => hh h1), Int.toNat_natCast]
  rintro rv _ (⟨e, rfl, rfl⟩ | ⟨rfl, rfl⟩)
  · subst e
    simp only [push_cast, reduceIte, Nat.reduceEqDiff, Nat.reduceAdd, Nat.reduceSub, Nat.reduceMul, Nat.reduceBEq, Nat.reduceLT, Nat.reduceLeDiff, reduceCtorEq, Int.reduceToNat, Int.reduceNeg]
    refine clm_of (FnM.only [16] [] [] [] (improve_nil (Env.of Try.prog) rfl (by show 0 ≤ 300; decide) j hj fx pn (by omega) hp)) ?_
    rintro rv _ ⟨rfl, rfl⟩
    have hz := improveF_nil j fx pn
    rw [hz.1, hz.2]
    simp only [push_cast, reduceIte, Nat.reduceEqDiff, Nat.reduceAdd, Nat.reduceSub, Nat.reduceMul, Nat.reduceBEq, Nat.reduceLT, Nat.reduceLeDiff, reduceCtorEq, Int.reduceToNat, Int.reduceNeg]
    done
  · simp only [push_cast, reduceIte, Nat.reduceEqDiff, Nat.reduceAdd, Nat.reduceSub, Nat.reduceMul, Nat.reduceBEq, Nat.reduceLT, Nat.reduceLeDiff, reduceCtorEq, Int.reduceToNat, Int.reduceNeg]
    refine clm_of (FnM.only [16] [] [705] [] (improve_ok (Env.of Try.prog) rfl (by show 0 ≤ 300; decide) j hj fx at_ hfx at_.length pn rfl (by omega) hp)) ?_
    rintro rv _ ⟨rfl, rfl⟩
    simp only [push_cast, reduceIte, Nat.reduceEqDiff, Nat.reduceAdd, Nat.reduceSub, Nat.reduceMul, Nat.reduceBEq, Nat.reduceLT, Nat.reduceLeDiff, reduceCtorEq, Int.reduceToNat, Int.reduceNeg]
    rw [List.take_of_length_le (by rw [(improveF_ok hp pn).len]; omega)]
    exact ⟨fun _ _ => trivial, .refl _⟩
structure Start where
  at_ : List Int
  fixed : List Int
  passes : Int
def startC (q : Bool) (z : Start) : List PV := [.sl q 1 (ints z.at_), .sl q 1 (ints z.fixed), .int z.passes]
@[push_cast] theorem startC_eq (q : Bool) (z : Start) : startC q z = [.sl q 1 (ints z.at_), .sl q 1 (ints z.fixed), .int z.passes] := rfl
def placedC (q : Bool) (r : List Int × Int × Int) : List PV := [.sl q 1 (ints r.1), .int r.2.1, .int r.2.2]
@[push_cast] theorem placedC_eq (q : Bool) (r : List Int × Int × Int) : placedC q r = [.sl q 1 (ints r.1), .int r.2.1, .int r.2.2] := rfl
theorem limproved_ok (j : Job) (hj : j.Ok) (z : Start) (hl : (z.at_.length : Int) ≤ 1000000) (hfx : (z.fixed.length : Int) ≤ 1000000) :
    FnEq Try.prog 20 [.agg (jobC false j), .agg (startC false z)] (.agg (placedC true (improvedF j z.at_ z.fixed z.passes))) := by
  refine FnEq.of_awp Try.func20 ok20 (by show 2 ≤ _; decide) (by simp only [push_cast, reduceIte, Nat.reduceEqDiff, Nat.reduceAdd, Nat.reduceSub, Nat.reduceMul, Nat.reduceBEq, Nat.reduceLT, Nat.reduceLeDiff, reduceCtorEq, Int.reduceToNat, Int.reduceNeg] <;> first | exact fun _ _ => trivial | simp) ?_
  simp only [ac20, rv20, push_cast, reduceIte, Nat.reduceEqDiff, Nat.reduceAdd, Nat.reduceSub, Nat.reduceMul, Nat.reduceBEq, Nat.reduceLT, Nat.reduceLeDiff, reduceCtorEq, Int.reduceToNat, Int.reduceNeg]
  refine cal_sub (improve_exp j hj z.at_ z.fixed z.passes hl hfx) (by simp only [push_cast, reduceIte, Nat.reduceEqDiff, Nat.reduceAdd, Nat.reduceSub, Nat.reduceMul, Nat.reduceBEq, Nat.reduceLT, Nat.reduceLeDiff, reduceCtorEq, Int.reduceToNat, Int.reduceNeg]) ?_
  simp only [push_cast, reduceIte, Nat.reduceEqDiff, Nat.reduceAdd, Nat.reduceSub, Nat.reduceMul, Nat.reduceBEq, Nat.reduceLT, Nat.reduceLeDiff, reduceCtorEq, Int.reduceToNat, Int.reduceNeg]
  exact fun _ _ => trivial
end Go.Proofs.Ytbdamnfkgdbidaa
namespace Go.Proofs.Ytbdamnfkgdbidaa
open Go Go.Vc Txt
theorem wrap_u64 {x : Int} (h0 : 0 ≤ x) (h1 : x < 18446744073709551616) : IntKind.wrap .u64 x = x := by
  unfold IntKind.wrap
  have h1' : (2 ^ IntKind.u64.bits : Int) = 18446744073709551616 := by decide
  have h3 : IntKind.u64.signed = false := rfl
  simp only [h1', h3, Bool.false_and, Bool.false_eq_true, if_false]
  omega
theorem and32 {y : Int} (h0 : 0 ≤ y) (h1 : y < 4294967296) : bitF .and .u64 y 4294967295 = y := by
  unfold bitF
  have e : (BitVec.ofInt IntKind.u64.bits y &&& BitVec.ofInt IntKind.u64.bits 4294967295).toNat = y.toNat := by
    have h3 : IntKind.u64.bits = 64 := rfl
    rw [h3, BitVec.toNat_and, BitVec.toNat_ofInt, BitVec.toNat_ofInt]
    have e1 : (y % ((2 ^ 64 : Nat) : Int)).toNat = y.toNat := by omega
    have e2 : ((4294967295 : Int) % ((2 ^ 64 : Nat) : Int)).toNat = 2 ^ 32 - 1 := by decide
    rw [e1, e2, Nat.and_two_pow_sub_one_eq_mod]
    omega
  simp only [e]
  rw [wrap_u64] <;> omega
theorem shr32 {y : Int} (h0 : 0 ≤ y) (h1 : y < 4294967296) : shfF .shr .u64 y 32 = 0 := by
  unfold shfF
  have : (2 : Int) ^ (min (32 : Int).toNat IntKind.u64.bits) = 4294967296 := by decide
  simp only [this]
  rw [Int.fdiv_eq_ediv_of_nonneg _ (by omega)]
  omega
theorem mul64_gen (x y z : Int) (hx : x = 1) (hz : z = 0) (h0 : 0 ≤ y) (h1 : y < 4294967296) : FnEq Try.prog 95 [.sc (.int .u64 x), .sc (.int .u64 y)] (.tup [.sc (.int .u64 z), .sc (.int .u64 y)]) := by
  have a1 : bitF .and .u64 x 4294967295 = x := and32 (by omega) (by omega)
  have a2 : bitF .and .u64 y 4294967295 = y := and32 h0 h1
  have a3 : bitF .and .u64 z 4294967295 = z := and32 (by omega) (by omega)
  have s1 : shfF .shr .u64 x 32 = z := by rw [hz]; exact shr32 (by omega) (by omega)
  have s2 : shfF .shr .u64 y 32 = z := by rw [hz]; exact shr32 h0 h1
  have s3 : shfF .shr .u64 z 32 = z := by rw [hz]; exact shr32 (by omega) (by omega)
  have w1 : IntKind.wrap .u64 (x * y) = y := by rw [hx, Int.one_mul, wrap_u64] <;> omega
  have w2 : IntKind.wrap .u64 (z * y) = z := by rw [hz, Int.zero_mul, wrap_u64] <;> omega
  have w3 : IntKind.wrap .u64 (z + z) = z := by rw [wrap_u64] <;> omega
  have w4 : IntKind.wrap .u64 (x * z) = z := by rw [hz, Int.mul_zero, wrap_u64] <;> omega
  have w5 : IntKind.wrap .u64 (z * z) = z := by rw [hz, Int.mul_zero, wrap_u64] <;> omega
  have z0 : (0 : Int) ≤ 32 := by omega
  refine FnEq.of_awp Try.func95 ok95 (by show 2 ≤ _; decide) (by simp only [push_cast, reduceIte, Nat.reduceEqDiff, Nat.reduceAdd, Nat.reduceSub, Nat.reduceMul, Nat.reduceBEq, Nat.reduceLT, Nat.reduceLeDiff, reduceCtorEq, Int.reduceToNat, Int.reduceNeg]) ?_
  clear hx hz h0 h1
  simp only [ac95, rv95, push_cast, reduceIte, Nat.reduceEqDiff, Nat.reduceAdd, Nat.reduceSub, Nat.reduceMul, Nat.reduceBEq, Nat.reduceLT, Nat.reduceLeDiff, reduceCtorEq, Int.reduceToNat, Int.reduceNeg, a1, a2, a3, s1, s2, s3, w1, w2, w3, w4, w5, z0]
  done
def cpyL {α : Type} (xs : List α) (lo : Nat) (ys : List α) : List α := xs.take lo ++ ys ++ xs.drop (lo + ys.length)
theorem cpyF_rows {α : Type} (f : α → List PV) (xs : List α) (lo : Nat) (ys : List α) : cpyF (rows f xs) lo (rows f ys) = rows f (cpyL xs lo ys) := by
  simp [cpyF, cpyL, rows, List.map_take, List.map_drop]
theorem mul_one_ok (y : Int) (h0 : 0 ≤ y) (h1 : y < 4294967296) : FnEq Try.prog 87 [.sc (.int .u64 1), .sc (.int .u64 y)] (.tup [.sc (.int .u64 0), .sc (.int .u64 y)]) := by
  refine FnEq.of_awp Try.func87 ok87 (by show 2 ≤ _; decide) (by simp only [push_cast, reduceIte, Nat.reduceEqDiff, Nat.reduceAdd, Nat.reduceSub, Nat.reduceMul, Nat.reduceBEq, Nat.reduceLT, Nat.reduceLeDiff, reduceCtorEq, Int.reduceToNat, Int.reduceNeg] <;> first | exact fun _ _ => trivial | simp) ?_
  simp only [ac87, rv87, push_cast, reduceIte, Nat.reduceEqDiff, Nat.reduceAdd, Nat.reduceSub, Nat.reduceMul, Nat.reduceBEq, Nat.reduceLT, Nat.reduceLeDiff, reduceCtorEq, Int.reduceToNat, Int.reduceNeg]
  refine cal_sub (mul64_gen 1 y 0 rfl rfl h0 h1) (by simp only [push_cast, reduceIte, Nat.reduceEqDiff, Nat.reduceAdd, Nat.reduceSub, Nat.reduceMul, Nat.reduceBEq, Nat.reduceLT, Nat.reduceLeDiff, reduceCtorEq, Int.reduceToNat, Int.reduceNeg]) ?_
  simp only [push_cast, reduceIte, Nat.reduceEqDiff, Nat.reduceAdd, Nat.reduceSub, Nat.reduceMul, Nat.reduceBEq, Nat.reduceLT, Nat.reduceLeDiff, reduceCtorEq, Int.reduceToNat, Int.reduceNeg]
  done
theorem repeat_ok (E : Env) (hE : E.p = Try.prog) (hkk : E.kk ≤ 675) (fx : List Int) (passes : Int) (j : Job) (n : Nat) (hn : n ≤ 1000000) :
    FnM E 73 [.view 48 0 1, .int n] ⟨[(3, .sl false 1 (ints fx)), (4, .int passes), (5, .ptr 5 0), (6, .ptr 6 0), (12, .ptr 12 0)], [(5, [.sl false 3 (rows wireC j.p.ins), .sl false 5 (rows (blockC false) j.p.blocks), .sl false 3 (rows wireC j.p.out), .sl false 1 (ints j.p.drive)]), (6, gridC false j.g), (12, jobC false j)], [(48, ⟨1, 3, ints [-1]⟩)], []⟩
      (fun rv st' => rv = .view 705 0 n ∧ st' = ⟨[(3, .sl false 1 (ints fx)), (4, .int passes), (5, .ptr 5 0), (6, .ptr 6 0), (12, .ptr 12 0)], [(5, [.sl false 3 (rows wireC j.p.ins), .sl false 5 (rows (blockC false) j.p.blocks), .sl false 3 (rows wireC j.p.out), .sl false 1 (ints j.p.drive)]), (6, gridC false j.g), (12, jobC false j)], [(705, ⟨1, 3, ints (List.replicate n (-1))⟩)], []⟩) := by
  refine fnM_of 675 (by rw [hE]; exact Try.func73) (by rw [hE]; exact ok73_675) (by show 2 ≤ _; decide) rfl hkk ?_
  simp only [ac73_675, rv73_675, push_cast, reduceIte, Nat.reduceEqDiff, Nat.reduceAdd, Nat.reduceSub, Nat.reduceMul, Nat.reduceBEq, Nat.reduceLT, Nat.reduceLeDiff, reduceCtorEq, Int.reduceToNat, Int.reduceNeg]
  refine cond_dec (fun h => absurd h (by omega)) fun _ => ?_
  refine ⟨⟨by decide, by decide⟩, ⟨by show (0 : Int) ≤ _; omega, by show (n : Int) ≤ 18446744073709551615; omega⟩, ?_⟩
  refine cal_sub (by rw [hE]; exact mul_one_ok n (by omega) (by omega)) (by simp only [push_cast, reduceIte, Nat.reduceEqDiff, Nat.reduceAdd, Nat.reduceSub, Nat.reduceMul, Nat.reduceBEq, Nat.reduceLT, Nat.reduceLeDiff, reduceCtorEq, Int.reduceToNat, Int.reduceNeg] <;> rfl) ?_
  simp only [push_cast, reduceIte, Nat.reduceEqDiff, Nat.reduceAdd, Nat.reduceSub, Nat.reduceMul, Nat.reduceBEq, Nat.reduceLT, Nat.reduceLeDiff, reduceCtorEq, Int.reduceToNat, Int.reduceNeg]
  refine cut_of ⟨[(3, .sl false 1 (ints fx)), (4, .int passes), (5, .ptr 5 0), (6, .ptr 6 0), (12, .ptr 12 0), (675, .view 48 0 1), (681, .sc (.int .u64 n)), (701, .bool false)], [(5, [.sl false 3 (rows wireC j.p.ins), .sl false 5 (rows (blockC false) j.p.blocks), .sl false 3 (rows wireC j.p.out), .sl false 1 (ints j.p.drive)]), (6, gridC false j.g), (12, jobC false j)], [(48, ⟨1, 3, ints [-1]⟩)], []⟩ ?_ ?_
  · (repeat' (first | (refine grd_dec rfl (fun _ => ?_) fun _ => ?_ <;> simp only [push_cast, reduceIte, Nat.reduceEqDiff, Nat.reduceAdd, Nat.reduceSub, Nat.reduceMul, Nat.reduceBEq, Nat.reduceLT, Nat.reduceLeDiff, reduceCtorEq, Int.reduceToNat, Int.reduceNeg]) | (refine grd_decf rfl (fun _ => ?_) fun _ => ?_ <;> simp only [push_cast, reduceIte, Nat.reduceEqDiff, Nat.reduceAdd, Nat.reduceSub, Nat.reduceMul, Nat.reduceBEq, Nat.reduceLT, Nat.reduceLeDiff, reduceCtorEq, Int.reduceToNat, Int.reduceNeg])))
    have e : decide ((9223372036854775807 : Int) < n) = false := decide_eq_false (by omega)
    all_goals first | (exfalso; omega) | rw [decide_eq_false (show ¬ ((9223372036854775807 : Int) < n) by omega)]
  simp only [push_cast, reduceIte, Nat.reduceEqDiff, Nat.reduceAdd, Nat.reduceSub, Nat.reduceMul, Nat.reduceBEq, Nat.reduceLT, Nat.reduceLeDiff, reduceCtorEq, Int.reduceToNat, Int.reduceNeg]
  refine ⟨by omega, by omega, ?_⟩
  refine loop_of (fun m st => ∃ k : Nat, k ≤ n ∧ (k = 0 → n = 0) ∧ m = n - k ∧
    st = ⟨[(3, .sl false 1 (ints fx)), (4, .int passes), (5, .ptr 5 0), (6, .ptr 6 0), (12, .ptr 12 0), (682, .view 705 0 n), (683, .int k)], [(5, [.sl false 3 (rows wireC j.p.ins), .sl false 5 (rows (blockC false) j.p.blocks), .sl false 3 (rows wireC j.p.out), .sl false 1 (ints j.p.drive)]), (6, gridC false j.g), (12, jobC false j)], [(705, ⟨1, 3, ints (List.replicate k (-1) ++ List.replicate (n - k) 0)⟩)], []⟩) (n - min 1 n) ?_ ?_
  · refine ⟨min 1 n, by omega, by omega, rfl, ?_⟩
    simp only [cpyF_rows, push_cast, reduceIte, Nat.reduceEqDiff, Nat.reduceAdd, Nat.reduceSub, Nat.reduceMul, Nat.reduceBEq, Nat.reduceLT, Nat.reduceLeDiff, reduceCtorEq, Int.reduceToNat, Int.reduceNeg]
    have e1 : cpyL (List.replicate n (0 : Int)) 0 (List.take (List.replicate n (0 : Int)).length (List.take 1 [-1])) = List.replicate (min 1 n) (-1) ++ List.replicate (n - min 1 n) 0 := by
      cases n with
      | zero => rfl
      | succ n => simp [cpyL, List.replicate_succ, show min 1 (n + 1) = 1 by omega]
    rw [e1, List.length_replicate, show min (List.take 1 [(-1 : Int)]).length n = min 1 n from rfl]
  · rintro m st ⟨k, hk, hk0, rfl, rfl⟩
    simp only [push_cast, reduceIte, Nat.reduceEqDiff, Nat.reduceAdd, Nat.reduceSub, Nat.reduceMul, Nat.reduceBEq, Nat.reduceLT, Nat.reduceLeDiff, reduceCtorEq, Int.reduceToNat, Int.reduceNeg]
    refine cond_dec (fun h => ?_) fun h => ?_
    · simp only [cpyF_rows, push_cast, reduceIte, Nat.reduceEqDiff, Nat.reduceAdd, Nat.reduceSub, Nat.reduceMul, Nat.reduceBEq, Nat.reduceLT, Nat.reduceLeDiff, reduceCtorEq, Int.reduceToNat, Int.reduceNeg]
      have e2 : List.take (k - 0) (List.replicate k (-1 : Int) ++ List.replicate (n - k) 0) = List.replicate k (-1) := by simp
      have e3 : cpyL (List.replicate k (-1 : Int) ++ List.replicate (n - k) 0) k (List.take (n - k) (List.replicate k (-1))) = List.replicate (k + min k (n - k)) (-1) ++ List.replicate (n - (k + min k (n - k))) 0 := by
        unfold cpyL
        rw [List.take_left' (by simp), List.take_replicate, List.length_replicate, List.drop_append, List.drop_eq_nil_of_le (by simp), List.nil_append, List.length_replicate, List.drop_replicate, List.replicate_append_replicate]
        congr 2 <;> omega
      rw [e2, List.length_replicate]
      refine ⟨by omega, by omega, by omega, _, ?_, k + min k (n - k), by omega, by omega, rfl, ?_⟩
      · omega
      · rw [e3]; simp
    · have e : k = n := by omega
      subst e
      simp
      rfl
end Go.Proofs.Ytbdamnfkgdbidaa
namespace Go.Proofs.Ytbdamnfkgdbidaa
open Go Go.Vc Txt
def keepF (j : Job) : List Int → Nat → List Int × List Int → Option (List Int × List Int)
  | [], _, s => some s
  | t :: r, i, s => if t = -1 then keepF j r (i + 1) s else if suitsR j i t = false ∨ t ∈ s.1 then none else keepF j r (i + 1) (s.1.set i t, s.2 ++ [(i : Int)])
def findT (j : Job) (a : List Int) (b : Nat) : Option Nat := (List.range j.g.kind.length).find? fun t => suitsR j b t && !decide ((t : Int) ∈ a)
def fillStep (j : Job) (reads : Bool) (a : List Int) (b : Nat) : Option (List Int) :=
  if 0 ≤ a.getD b default ∨ decide ((j.p.blocks.getD b default).ram ≠ -1) ≠ reads then some a
  else match findT j a b with
    | none => none
    | some t => some (a.set b t)
def fillF (j : Job) (reads : Bool) : Nat → Nat → List Int → Option (List Int)
  | 0, _, a => some a
  | n + 1, b, a => match fillStep j reads a b with
    | none => none
    | some a' => fillF j reads n (b + 1) a'
def fillAll (j : Job) : List Bool → List Int → Option (List Int)
  | [], a => some a
  | r :: rs, a => match fillF j r j.p.blocks.length 0 a with
    | none => none
    | some a' => fillAll j rs a'
structure Part (j : Job) (a : List Int) : Prop where
  len : a.length = j.p.blocks.length
  rng : ∀ x ∈ a, x = -1 ∨ (0 ≤ x ∧ x < j.g.w * j.g.h)
  inj : ∀ i k (hi : i < a.length) (hk : k < a.length), a[i] = a[k] → 0 ≤ a[i] → i = k
theorem suitsR_at {j : Job} {b t : Int} (h : suitsR j b t = true) : 0 ≤ b ∧ b < j.p.blocks.length ∧ 0 ≤ t ∧ t < j.g.w * j.g.h := by
  unfold suitsR at h
  split at h
  · cases h
  · omega
theorem part_set {j : Job} {a : List Int} (h : Part j a) {i : Nat} {t : Int} (hs : suitsR j i t = true) (ht : t ∉ a) : Part j (a.set i t) := by
  have hr := suitsR_at hs
  refine ⟨by simpa using h.len, fun x hx => ?_, fun p q hp hq e e0 => ?_⟩
  · rcases List.mem_or_eq_of_mem_set hx with hx | rfl
    · exact h.rng x hx
    · exact .inr ⟨hr.2.2.1, hr.2.2.2⟩
  · simp only [List.length_set] at hp hq
    simp only [List.getElem_set] at e e0
    split at e <;> split at e
    · omega
    · exact absurd (e ▸ List.getElem_mem hq) ht
    · exact absurd (e ▸ List.getElem_mem hp) ht
    · rename_i h1 h2
      rw [if_neg h1] at e0
      exact h.inj p q hp hq e e0
theorem part_init (j : Job) : Part j (List.replicate j.p.blocks.length (-1)) := by
  refine ⟨by simp, fun x hx => .inl (List.eq_of_mem_replicate hx), fun p q hp hq e e0 => ?_⟩
  simp only [List.getElem_replicate] at e0
  omega
theorem keepF_part {j : Job} : ∀ (l : List Int) (i : Nat) (s s' : List Int × List Int), keepF j l i s = some s' → Part j s.1 → Part j s'.1 ∧ s'.2.length ≤ s.2.length + l.length
  | [], _, s, s', h, hp => by cases h; exact ⟨hp, by simp⟩
  | t :: r, i, s, s', h, hp => by
    simp only [keepF] at h
    split at h
    · have := keepF_part r (i + 1) s s' h hp
      exact ⟨this.1, by have := this.2; simp only [List.length_cons]; omega⟩
    · split at h
      · cases h
      · rename_i h1
        have hs : suitsR j i t = true := by cases hc : suitsR j i t <;> simp_all
        have := keepF_part r (i + 1) _ s' h (part_set hp hs fun hh => h1 (.inr hh))
        refine ⟨this.1, ?_⟩
        have := this.2
        simp only [List.length_append, List.length_cons, List.length_nil] at this ⊢
        omega
theorem findT_spec {j : Job} {a : List Int} {b t : Nat} (h : findT j a b = some t) : suitsR j b t = true ∧ (t : Int) ∉ a ∧ t < j.g.kind.length := by
  have h1 := List.find?_some h
  have h2 := List.mem_of_find?_eq_some h
  simp only [Bool.and_eq_true, Bool.not_eq_true', decide_eq_false_iff_not] at h1
  exact ⟨h1.1, h1.2, List.mem_range.1 h2⟩
theorem fillStep_part {j : Job} {reads : Bool} {a a' : List Int} {b : Nat} (h : fillStep j reads a b = some a') (hp : Part j a) (hb : b < a.length) :
    Part j a' ∧ (∀ i, 0 ≤ a.getD i default → 0 ≤ a'.getD i default ∧ a'.getD i default = a.getD i default) ∧ (decide ((j.p.blocks.getD b default).ram ≠ -1) = reads → 0 ≤ a'.getD b default) := by
  unfold fillStep at h
  split at h
  · rename_i h1
    cases h
    exact ⟨hp, fun i hi => ⟨hi, rfl⟩, fun e => by rcases h1 with h1 | h1; exact h1; exact absurd e h1⟩
  · rename_i h1
    split at h
    · cases h
    · rename_i t ht
      cases h
      obtain ⟨h2, h3, h4⟩ := findT_spec ht
      refine ⟨part_set hp h2 h3, fun i hi => ?_, fun _ => ?_⟩
      · by_cases e : b = i
        · subst e; exact absurd hi fun hh => h1 (.inl hh)
        · have : (a.set b t).getD i default = a.getD i default := by simp [List.getD_eq_getElem?_getD, List.getElem?_set_ne e]
          rw [this]; exact ⟨hi, rfl⟩
      · have : (a.set b t).getD b default = t := by simp [List.getD_eq_getElem?_getD, hb]
        rw [this]; omega
theorem fillF_part {j : Job} {reads : Bool} : ∀ (n b : Nat) (a a' : List Int), fillF j reads n b a = some a' → Part j a → b + n ≤ a.length →
    Part j a' ∧ (∀ i, 0 ≤ a.getD i default → 0 ≤ a'.getD i default ∧ a'.getD i default = a.getD i default) ∧ ∀ i, b ≤ i → i < b + n → decide ((j.p.blocks.getD i default).ram ≠ -1) = reads → 0 ≤ a'.getD i default
  | 0, b, a, a', h, hp, _ => by cases h; exact ⟨hp, fun i hi => ⟨hi, rfl⟩, fun i h1 h2 => by omega⟩
  | n + 1, b, a, a', h, hp, hl => by
    simp only [fillF] at h
    split at h
    · cases h
    · rename_i a1 h1
      obtain ⟨p1, p2, p3⟩ := fillStep_part h1 hp (by omega)
      have hl1 : a1.length = a.length := by rw [p1.len, hp.len]
      obtain ⟨q1, q2, q3⟩ := fillF_part n (b + 1) a1 a' h p1 (by omega)
      refine ⟨q1, fun i hi => ?_, fun i h2 h3 h4 => ?_⟩
      · have e1 := p2 i hi
        have e2 := q2 i e1.1
        exact ⟨e2.1, e2.2.trans e1.2⟩
      · by_cases e : i = b
        · subst e; exact (q2 i (p3 h4)).1
        · exact q3 i (by omega) (by omega) h4
theorem isPl_of_part {j : Job} {a : List Int} (h : Part j a) (h0 : ∀ i, i < a.length → 0 ≤ a.getD i default) : IsPl j a := by
  have h1 : ∀ i (hi : i < a.length), 0 ≤ a[i] := fun i hi => by have := h0 i hi; simpa [List.getD_eq_getElem?_getD, hi] using this
  refine ⟨h.len, fun x hx => ?_, ?_⟩
  · obtain ⟨i, hi, rfl⟩ := List.mem_iff_getElem.1 hx
    have h2 := h1 i hi
    rcases h.rng _ hx with h3 | h3
    · omega
    · exact h3
  · refine List.pairwise_iff_getElem.2 fun i k hi hk hik e => ?_
    have := h.inj i k hi hk e (h1 i hi)
    omega
theorem fillAll_pl {j : Job} {a a' : List Int} (h : fillAll j [true, false] a = some a') (hp : Part j a) : IsPl j a' ∧ ∀ i, 0 ≤ a.getD i default → a'.getD i default = a.getD i default := by
  simp only [fillAll] at h
  split at h
  · cases h
  rename_i a1 h1
  split at h
  · cases h
  rename_i a2 h2
  cases h
  obtain ⟨p1, p2, p3⟩ := fillF_part _ _ _ _ h1 hp (by rw [hp.len]; omega)
  obtain ⟨q1, q2, q3⟩ := fillF_part _ _ _ _ h2 p1 (by rw [p1.len]; omega)
  refine ⟨isPl_of_part q1 fun i hi => ?_, fun i hi => ?_⟩
  · rw [q1.len] at hi
    cases hr : decide ((j.p.blocks.getD i default).ram ≠ -1)
    · exact q3 i (by omega) (by omega) hr
    · exact (q2 i (p3 i (by omega) (by omega) hr)).1
  · rw [(q2 i (p2 i hi).1).2, (p2 i hi).2]
end Go.Proofs.Ytbdamnfkgdbidaa
namespace Go.Proofs.Ytbdamnfkgdbidaa.Pl
open Go Go.Vc Txt
def stI (j : Job) (fx : List Int) (n k t : Nat) (total now bef np pi : Int) (xs : List (Nat × PV)) (xb : List (Nat × List PV)) (at_ : List Int) : St :=
  ⟨[(13, .view 705 0 n), (301, .view 705 0 n), (302, .sl false 1 (ints fx)), (304, .ptr 304 0), (309, .int total), (310, .int now), (311, .int bef), (312, .int k), (320, .int np), (321, .int pi), (325, .int n), (326, .int k), (332, .int j.g.kind.length), (333, .int t)] ++ xs, (304, jobC false j) :: xb, [(705, ⟨1, 3, ints at_⟩)], []⟩
theorem stI_eq (j : Job) (fx : List Int) (n k t : Nat) (total now bef np pi : Int) (xs : List (Nat × PV)) (xb : List (Nat × List PV)) (at_ : List Int) : stI j fx n k t total now bef np pi xs xb at_ =
  ⟨[(13, .view 705 0 n), (301, .view 705 0 n), (302, .sl false 1 (ints fx)), (304, .ptr 304 0), (309, .int total), (310, .int now), (311, .int bef), (312, .int k), (320, .int np), (321, .int pi), (325, .int n), (326, .int k), (332, .int j.g.kind.length), (333, .int t)] ++ xs, (304, jobC false j) :: xb, [(705, ⟨1, 3, ints at_⟩)], []⟩ := rfl
def cbI (n k t : Nat) (fr o : Int) : List (Nat × List PV) := [(406, [.view 705 0 n]), (408, [.int k]), (409, [.int t]), (412, [.int fr]), (413, [.int o]), (414, [.clo 92 [406, 408, 413]])]
theorem cbI_eq (n k t : Nat) (fr o : Int) : cbI n k t fr o = [(406, [.view 705 0 n]), (408, [.int k]), (409, [.int t]), (412, [.int fr]), (413, [.int o]), (414, [.clo 92 [406, 408, 413]])] := rfl
theorem setA_ok (E : Env) (hE : E.p = Try.prog) (hkk : E.kk ≤ 500) (j : Job) (fx : List Int) (n k t : Nat) (total now bef np pi : Int) (fr o x y : Int) (at_ : List Int) (hn : at_.length = n) (hk : k < n) (ho : o < n) :
    FnM E 92 [.int x, .int y, .ptr 406 0, .ptr 408 0, .ptr 413 0] (stI j fx n k t total now bef np pi [(409, .ptr 409 0), (412, .ptr 412 0), (414, .ptr 414 0)] (cbI n k t fr o) at_)
      (fun rv st' => rv = .tup [] ∧ st' = stI j fx n k t total now bef np pi [(409, .ptr 409 0), (412, .ptr 412 0), (414, .ptr 414 0)] (cbI n k t fr o) (if 0 ≤ o then (at_.set k x).set o.toNat y else at_.set k x)) := by
  simp only [stI_eq, cbI_eq, push_cast, reduceIte, Nat.reduceEqDiff, Nat.reduceAdd, Nat.reduceSub, Nat.reduceMul, Nat.reduceBEq, Nat.reduceLT, Nat.reduceLeDiff, reduceCtorEq, Int.reduceToNat, Int.reduceNeg]
  refine fnM_of 500 (by rw [hE]; exact Try.func92) (by rw [hE]; exact ok92_500) (by show 5 ≤ _; decide) rfl hkk ?_
  simp only [ac92_500, rv92_500, push_cast, reduceIte, Nat.reduceEqDiff, Nat.reduceAdd, Nat.reduceSub, Nat.reduceMul, Nat.reduceBEq, Nat.reduceLT, Nat.reduceLeDiff, reduceCtorEq, Int.reduceToNat, Int.reduceNeg]
  refine ⟨⟨by omega, by omega⟩, by omega, cond_dec (fun h => ?_) fun h => ?_⟩
  · refine ⟨⟨h, ho⟩, by rw [List.length_set]; omega, ?_⟩
    rw [if_pos h]
  · rw [if_neg h]
theorem setB_ok (E : Env) (hE : E.p = Try.prog) (hkk : E.kk ≤ 500) (j : Job) (fx : List Int) (n k t : Nat) (total now bef np pi : Int) (fr o x y : Int) (at_ : List Int) (hn : at_.length = n) (hk : k < n) (ho : o < n) :
    FnM E 92 [.int x, .int y, .ptr 406 0, .ptr 408 0, .ptr 413 0] (stI j fx n k t total now bef np pi [] (cbI n k t fr o) at_)
      (fun rv st' => rv = .tup [] ∧ st' = stI j fx n k t total now bef np pi [] (cbI n k t fr o) (if 0 ≤ o then (at_.set k x).set o.toNat y else at_.set k x)) := by
  simp only [stI_eq, cbI_eq, push_cast, reduceIte, Nat.reduceEqDiff, Nat.reduceAdd, Nat.reduceSub, Nat.reduceMul, Nat.reduceBEq, Nat.reduceLT, Nat.reduceLeDiff, reduceCtorEq, Int.reduceToNat, Int.reduceNeg]
  refine fnM_of 500 (by rw [hE]; exact Try.func92) (by rw [hE]; exact ok92_500) (by show 5 ≤ _; decide) rfl hkk ?_
  simp only [ac92_500, rv92_500, push_cast, reduceIte, Nat.reduceEqDiff, Nat.reduceAdd, Nat.reduceSub, Nat.reduceMul, Nat.reduceBEq, Nat.reduceLT, Nat.reduceLeDiff, reduceCtorEq, Int.reduceToNat, Int.reduceNeg]
  refine ⟨⟨by omega, by omega⟩, by omega, cond_dec (fun h => ?_) fun h => ?_⟩
  · refine ⟨⟨h, ho⟩, by rw [List.length_set]; omega, ?_⟩
    rw [if_pos h]
  · rw [if_neg h]
theorem undo_ok (E : Env) (hE : E.p = Try.prog) (hkk : E.kk ≤ 500) (j : Job) (fx : List Int) (n k t : Nat) (total now bef np pi : Int) (fr o : Int) (at_ : List Int) (hn : at_.length = n) (hk : k < n) (ho : o < n) :
    FnM E 93 [.ptr 414 0, .ptr 412 0, .ptr 409 0] (stI j fx n k t total now bef np pi [] (cbI n k t fr o) at_)
      (fun rv st' => rv = .tup [] ∧ st' = stI j fx n k t total now bef np pi [] (cbI n k t fr o) (if 0 ≤ o then (at_.set k fr).set o.toNat t else at_.set k fr)) := by
  simp only [stI_eq, cbI_eq, push_cast, reduceIte, Nat.reduceEqDiff, Nat.reduceAdd, Nat.reduceSub, Nat.reduceMul, Nat.reduceBEq, Nat.reduceLT, Nat.reduceLeDiff, reduceCtorEq, Int.reduceToNat, Int.reduceNeg]
  refine fnM_of 600 (by rw [hE]; exact Try.func93) (by rw [hE]; exact ok93_600) (by show 3 ≤ _; decide) rfl (by omega) ?_
  simp only [ac93_600, rv93_600, push_cast, reduceIte, Nat.reduceEqDiff, Nat.reduceAdd, Nat.reduceSub, Nat.reduceMul, Nat.reduceBEq, Nat.reduceLT, Nat.reduceLeDiff, reduceCtorEq, Int.reduceToNat, Int.reduceNeg]
  refine clm_of (FnM.only [13, 301, 302, 304, 309, 310, 311, 312, 320, 321, 325, 326, 332, 333] [304, 406, 408, 409, 412, 413, 414] [705] [] (setB_ok E hE hkk j fx n k t total now bef np pi fr o fr t at_ hn hk ho)) ?_
  rintro rv _ ⟨rfl, rfl⟩
  simp only [stI_eq, cbI_eq, push_cast, reduceIte, Nat.reduceEqDiff, Nat.reduceAdd, Nat.reduceSub, Nat.reduceMul, Nat.reduceBEq, Nat.reduceLT, Nat.reduceLeDiff, reduceCtorEq, Int.reduceToNat, Int.reduceNeg]
  done
theorem fidx_lt (p : Int → Bool) (l : List Int) : fidx p l < l.length ∨ l = [] := by
  unfold fidx
  cases h : l.findIdx? p with
  | none => cases l <;> simp; omega
  | some k =>
    have := (List.findIdx?_eq_some_iff_getElem.1 h).1
    left; simp only; omega
def exQ (j : Job) (fx : List Int) (n k t : Nat) (total now bef np pi : Int) (at_ : List Int) (rv : PV) (st' : St) : Prop :=
  match exchF j fx at_ k t with
  | none => rv = .tup [.sc .nilFunc, .bool false] ∧ st' = stI j fx n k t total now bef np pi [] [] at_
  | some a => rv = .tup [.clo 93 [414, 412, 409], .bool true] ∧ st' = stI j fx n k t total now bef np pi [] (cbI n k t (at_.getD k default) (fidx (fun x => decide (x = (t : Int))) at_)) a
theorem exch_ok (E : Env) (hE : E.p = Try.prog) (hkk : E.kk ≤ 400) (j : Job) (fx : List Int) (n k t : Nat) (total now bef np pi : Int) (at_ : List Int) (hj : j.Ok) (hfx : (fx.length : Int) ≤ 1000000) (hn : at_.length = n) (hn2 : n ≤ 1000000) (hk : k < n) :
    FnM E 86 [.agg (jobC false j), .view 705 0 n, .sl false 1 (ints fx), .int k, .int t] (stI j fx n k t total now bef np pi [] [] at_) (exQ j fx n k t total now bef np pi at_) := by
  have key : FnM E 86 [.agg (jobC false j), .view 705 0 n, .sl false 1 (ints fx), .int k, .int t] (stI j fx n k t total now bef np pi [] [] at_) (fun rv st1 => match exchF j fx at_ k t with
      | none => rv = .tup [.sc .nilFunc, .bool false] ∧ st1.onlyB [304] = stI j fx n k t total now bef np pi [] [] at_
      | some a => rv = .tup [.clo 93 [414, 412, 409], .bool true] ∧ st1.onlyB [304, 406, 408, 409, 412, 413, 414] = stI j fx n k t total now bef np pi [] (cbI n k t (at_.getD k default) (fidx (fun x => decide (x = (t : Int))) at_)) a) := by
    unfold exchF
    simp only [stI_eq, push_cast, reduceIte, Nat.reduceEqDiff, Nat.reduceAdd, Nat.reduceSub, Nat.reduceMul, Nat.reduceBEq, Nat.reduceLT, Nat.reduceLeDiff, reduceCtorEq, Int.reduceToNat, Int.reduceNeg]
    refine fnM_of 400 (by rw [hE]; exact Try.func86) (by rw [hE]; exact ok86_400) (by show 5 ≤ _; decide) rfl hkk ?_
    simp only [ac86_400, rv86_400, push_cast, reduceIte, Nat.reduceEqDiff, Nat.reduceAdd, Nat.reduceSub, Nat.reduceMul, Nat.reduceBEq, Nat.reduceLT, Nat.reduceLeDiff, reduceCtorEq, Int.reduceToNat, Int.reduceNeg]
    refine ⟨⟨by omega, by omega⟩, by omega, ?_⟩
    have ho := fidx_lt (fun x => decide (x = (t : Int))) at_
    generalize hfr : at_.getD k default = fr
    generalize hoo : fidx (fun x => decide (x = (t : Int))) at_ = o at ho
    refine cut_of (stI j fx n k t total now bef np pi [(402, .sl false 1 (ints fx)), (405, .ptr 405 0), (406, .ptr 406 0), (408, .ptr 408 0), (409, .ptr 409 0), (412, .ptr 412 0), (433, .bool (decide (fr = t ∨ (k : Int) ∈ fx ∨ suitsR j k t = false)))] [(405, jobC false j), (406, [.view 705 0 n]), (408, [.int k]), (409, [.int t]), (412, [.int fr])] at_) ?_ ?_
    · have hcon := contains_ok fx k (by omega)
      have hsu := psuits_ok j hj k t
      simp only [stI_eq]
      refine grd_decf rfl (fun h1 => ?_) fun h1 => ?_ <;> simp only [push_cast, reduceIte, Nat.reduceEqDiff, Nat.reduceAdd, Nat.reduceSub, Nat.reduceMul, Nat.reduceBEq, Nat.reduceLT, Nat.reduceLeDiff, reduceCtorEq, Int.reduceToNat, Int.reduceNeg]
      · simp [h1]
      refine cal_sub (by rw [hE]; exact hcon) (by simp only [push_cast, reduceIte, Nat.reduceEqDiff, Nat.reduceAdd, Nat.reduceSub, Nat.reduceMul, Nat.reduceBEq, Nat.reduceLT, Nat.reduceLeDiff, reduceCtorEq, Int.reduceToNat, Int.reduceNeg]) ?_
      simp only [push_cast, reduceIte, Nat.reduceEqDiff, Nat.reduceAdd, Nat.reduceSub, Nat.reduceMul, Nat.reduceBEq, Nat.reduceLT, Nat.reduceLeDiff, reduceCtorEq, Int.reduceToNat, Int.reduceNeg]
      refine grd_decf rfl (fun h2 => ?_) fun h2 => ?_ <;> simp only [push_cast, reduceIte, Nat.reduceEqDiff, Nat.reduceAdd, Nat.reduceSub, Nat.reduceMul, Nat.reduceBEq, Nat.reduceLT, Nat.reduceLeDiff, reduceCtorEq, Int.reduceToNat, Int.reduceNeg]
      · simp [h2]
      refine cal_sub (by rw [hE]; exact hsu) (by simp only [push_cast, reduceIte, Nat.reduceEqDiff, Nat.reduceAdd, Nat.reduceSub, Nat.reduceMul, Nat.reduceBEq, Nat.reduceLT, Nat.reduceLeDiff, reduceCtorEq, Int.reduceToNat, Int.reduceNeg]) ?_
      simp only [push_cast, reduceIte, Nat.reduceEqDiff, Nat.reduceAdd, Nat.reduceSub, Nat.reduceMul, Nat.reduceBEq, Nat.reduceLT, Nat.reduceLeDiff, reduceCtorEq, Int.reduceToNat, Int.reduceNeg]
      simp [h1, h2]
      done
    simp only [stI_eq, push_cast, reduceIte, Nat.reduceEqDiff, Nat.reduceAdd, Nat.reduceSub, Nat.reduceMul, Nat.reduceBEq, Nat.reduceLT, Nat.reduceLeDiff, reduceCtorEq, Int.reduceToNat, Int.reduceNeg]
    refine cond_dec (fun h1 => ?_) fun h1 => ?_
    · rw [if_pos h1]
      trivial
    · rw [if_neg h1, List.take_of_length_le (by omega)]
      refine cal_sub (by rw [hE]; exact index_ok at_ t (by omega)) (by simp only [push_cast, reduceIte, Nat.reduceEqDiff, Nat.reduceAdd, Nat.reduceSub, Nat.reduceMul, Nat.reduceBEq, Nat.reduceLT, Nat.reduceLeDiff, reduceCtorEq, Int.reduceToNat, Int.reduceNeg]) ?_
      simp only [push_cast, reduceIte, Nat.reduceEqDiff, Nat.reduceAdd, Nat.reduceSub, Nat.reduceMul, Nat.reduceBEq, Nat.reduceLT, Nat.reduceLeDiff, reduceCtorEq, Int.reduceToNat, Int.reduceNeg]
      rw [hoo]
      refine cut_of (stI j fx n k t total now bef np pi [(406, .ptr 406 0), (408, .ptr 408 0), (409, .ptr 409 0), (412, .ptr 412 0), (413, .ptr 413 0), (450, .bool (decide (0 ≤ o ∧ (o ∈ fx ∨ suitsR j o fr = false))))] [(405, jobC false j), (406, [.view 705 0 n]), (408, [.int k]), (409, [.int t]), (412, [.int fr]), (413, [.int o])] at_) ?_ ?_
      · have hcon := contains_ok fx o (by omega)
        have hsu := psuits_ok j hj o fr
        simp only [stI_eq, push_cast, reduceIte, Nat.reduceEqDiff, Nat.reduceAdd, Nat.reduceSub, Nat.reduceMul, Nat.reduceBEq, Nat.reduceLT, Nat.reduceLeDiff, reduceCtorEq, Int.reduceToNat, Int.reduceNeg]
        refine grd_dec rfl (fun h2 => ?_) fun h2 => ?_ <;> simp only [push_cast, reduceIte, Nat.reduceEqDiff, Nat.reduceAdd, Nat.reduceSub, Nat.reduceMul, Nat.reduceBEq, Nat.reduceLT, Nat.reduceLeDiff, reduceCtorEq, Int.reduceToNat, Int.reduceNeg]
        · refine cal_sub (by rw [hE]; exact hcon) (by simp only [push_cast, reduceIte, Nat.reduceEqDiff, Nat.reduceAdd, Nat.reduceSub, Nat.reduceMul, Nat.reduceBEq, Nat.reduceLT, Nat.reduceLeDiff, reduceCtorEq, Int.reduceToNat, Int.reduceNeg]) ?_
          simp only [push_cast, reduceIte, Nat.reduceEqDiff, Nat.reduceAdd, Nat.reduceSub, Nat.reduceMul, Nat.reduceBEq, Nat.reduceLT, Nat.reduceLeDiff, reduceCtorEq, Int.reduceToNat, Int.reduceNeg]
          refine grd_decf rfl (fun h3 => ?_) fun h3 => ?_ <;> simp only [push_cast, reduceIte, Nat.reduceEqDiff, Nat.reduceAdd, Nat.reduceSub, Nat.reduceMul, Nat.reduceBEq, Nat.reduceLT, Nat.reduceLeDiff, reduceCtorEq, Int.reduceToNat, Int.reduceNeg]
          · simp [h2, h3]
          refine cal_sub (by rw [hE]; exact hsu) (by simp only [push_cast, reduceIte, Nat.reduceEqDiff, Nat.reduceAdd, Nat.reduceSub, Nat.reduceMul, Nat.reduceBEq, Nat.reduceLT, Nat.reduceLeDiff, reduceCtorEq, Int.reduceToNat, Int.reduceNeg]) ?_
          simp only [push_cast, reduceIte, Nat.reduceEqDiff, Nat.reduceAdd, Nat.reduceSub, Nat.reduceMul, Nat.reduceBEq, Nat.reduceLT, Nat.reduceLeDiff, reduceCtorEq, Int.reduceToNat, Int.reduceNeg]
          simp [h2, h3]
        · simp [h2]
      simp only [stI_eq, push_cast, reduceIte, Nat.reduceEqDiff, Nat.reduceAdd, Nat.reduceSub, Nat.reduceMul, Nat.reduceBEq, Nat.reduceLT, Nat.reduceLeDiff, reduceCtorEq, Int.reduceToNat, Int.reduceNeg]
      refine cond_dec (fun h2 => ?_) fun h2 => ?_
      · rw [if_pos h2]
        trivial
      · rw [if_neg h2]
        refine clm_of (FnM.only [13, 301, 302, 304, 309, 310, 311, 312, 320, 321, 325, 326, 332, 333, 409, 412, 414] [304, 406, 408, 409, 412, 413, 414] [705] [] (setA_ok E hE (by omega) j fx n k t total now bef np pi fr o t fr at_ hn hk ?_)) ?_
        · rcases ho with ho | ho
          · omega
          · subst ho; simp at hn; omega
        rintro rv _ ⟨rfl, rfl⟩
        simp only [stI_eq, cbI_eq, push_cast, reduceIte, Nat.reduceEqDiff, Nat.reduceAdd, Nat.reduceSub, Nat.reduceMul, Nat.reduceBEq, Nat.reduceLT, Nat.reduceLeDiff, reduceCtorEq, Int.reduceToNat, Int.reduceNeg]
        rfl
  refine FnM.mono (FnM.postB (fun rv => match rv with | .tup (.sc _ :: _) => [304] | _ => [304, 406, 408, 409, 412, 413, 414]) key) ?_
  rintro rv _ ⟨st1, h1, rfl⟩
  unfold exQ
  revert h1
  cases exchF j fx at_ k t with
  | none => rintro ⟨rfl, h2⟩; exact ⟨rfl, h2⟩
  | some a => rintro ⟨rfl, h2⟩; exact ⟨rfl, h2⟩
end Go.Proofs.Ytbdamnfkgdbidaa.Pl
namespace Go.Proofs.Ytbdamnfkgdbidaa.Pl
open Go Go.Vc Txt
theorem improve_ok (E : Env) (hE : E.p = Try.prog) (hkk : E.kk ≤ 300) (j : Job) (hj : j.Ok) (fx at0 : List Int) (hfx : (fx.length : Int) ≤ 1000000) (n passes : Nat) (hn : at0.length = n) (hps : passes ≤ 1000) (hp : IsPl j at0) :
    FnM E 72 [.agg (jobC false j), .view 705 0 n, .sl false 1 (ints fx), .int passes] ⟨[(13, .view 705 0 n)], [], [(705, ⟨1, 3, ints at0⟩)], []⟩
      (fun rv st' => rv = .int (improveF j fx at0 passes).2.2 ∧ st' = ⟨[(13, .view 705 0 n)], [], [(705, ⟨1, 3, ints (improveF j fx at0 passes).1⟩)], []⟩) := by
  have key : FnM E 72 [.agg (jobC false j), .view 705 0 n, .sl false 1 (ints fx), .int passes] ⟨[(13, .view 705 0 n)], [], [(705, ⟨1, 3, ints at0⟩)], []⟩
      (fun rv st' => rv = .int (improveF j fx at0 passes).2.2 ∧ st'.onlyB [] = ⟨[(13, .view 705 0 n)], [], [(705, ⟨1, 3, ints (improveF j fx at0 passes).1⟩)], []⟩) := by
    refine fnM_of 300 (by rw [hE]; exact Try.func72) (by rw [hE]; exact ok72_300) (by show 4 ≤ _; decide) rfl hkk ?_
    simp only [ac72_300, rv72_300, push_cast, reduceIte, Nat.reduceEqDiff, Nat.reduceAdd, Nat.reduceSub, Nat.reduceMul, Nat.reduceBEq, Nat.reduceLT, Nat.reduceLeDiff, reduceCtorEq, Int.reduceToNat, Int.reduceNeg]
    rw [List.take_of_length_le (by omega)]
    refine cal_sub (by rw [hE]; exact cost_ok j hj at0 hp) (by simp only [push_cast, reduceIte, Nat.reduceEqDiff, Nat.reduceAdd, Nat.reduceSub, Nat.reduceMul, Nat.reduceBEq, Nat.reduceLT, Nat.reduceLeDiff, reduceCtorEq, Int.reduceToNat, Int.reduceNeg]) ?_
    simp only [push_cast, reduceIte, Nat.reduceEqDiff, Nat.reduceAdd, Nat.reduceSub, Nat.reduceMul, Nat.reduceBEq, Nat.reduceLT, Nat.reduceLeDiff, reduceCtorEq, Int.reduceToNat, Int.reduceNeg]
    subst hn
    have hb0 := costF_bd hj hp
    have hnb := hj.nb
    have hpl := hp.1
    have hkl := hj.kind
    have hwh := hj.wh
    refine loop_of (fun m st => ∃ (p : Nat) (s : Im), p ≤ passes ∧ m = passes - p ∧ ImOk j at0 s ∧ passesF j fx at0.length (passes - p) s = improveF j fx at0 passes ∧
      st = ⟨[(13, .view 705 0 at0.length), (301, .view 705 0 at0.length), (302, .sl false 1 (ints fx)), (304, .ptr 304 0), (309, .int s.2.2), (310, .int s.2.1), (320, .int passes), (321, .int p)], [(304, jobC false j)], [(705, ⟨1, 3, ints s.1⟩)], []⟩) passes ?_ ?_
    · refine ⟨0, (at0, costF j at0, 0), by omega, by omega, ⟨hp, rfl, rfl, by show (0 : Int) ≤ 0; omega, by show 0 + costF j at0 ≤ _; omega⟩, rfl, ?_⟩
      simp only [push_cast, reduceIte, Nat.reduceEqDiff, Nat.reduceAdd, Nat.reduceSub, Nat.reduceMul, Nat.reduceBEq, Nat.reduceLT, Nat.reduceLeDiff, reduceCtorEq, Int.reduceToNat, Int.reduceNeg]
    · rintro m st ⟨p, s, hp1, rfl, hs, hF, rfl⟩
      simp only [push_cast, reduceIte, Nat.reduceEqDiff, Nat.reduceAdd, Nat.reduceSub, Nat.reduceMul, Nat.reduceBEq, Nat.reduceLT, Nat.reduceLeDiff, reduceCtorEq, Int.reduceToNat, Int.reduceNeg]
      refine cond_dec (fun h1 => ?_) fun h1 => ?_
      · refine loop_of (fun m st => ∃ (k : Nat), k ≤ at0.length ∧ m = at0.length - k ∧ ImOk j at0 ((List.range k).foldl (blockStep j fx) s) ∧
          st = ⟨[(13, .view 705 0 at0.length), (301, .view 705 0 at0.length), (302, .sl false 1 (ints fx)), (304, .ptr 304 0), (309, .int ((List.range k).foldl (blockStep j fx) s).2.2), (310, .int ((List.range k).foldl (blockStep j fx) s).2.1), (311, .int s.2.2), (320, .int passes), (321, .int p), (325, .int at0.length), (326, .int k)], [(304, jobC false j)], [(705, ⟨1, 3, ints ((List.range k).foldl (blockStep j fx) s).1⟩)], []⟩) at0.length ?_ ?_
        · refine ⟨0, by omega, by omega, hs, ?_⟩
          simp only [push_cast, reduceIte, Nat.reduceEqDiff, Nat.reduceAdd, Nat.reduceSub, Nat.reduceMul, Nat.reduceBEq, Nat.reduceLT, Nat.reduceLeDiff, reduceCtorEq, Int.reduceToNat, Int.reduceNeg]
          rfl
        · rintro m st ⟨k, hk, rfl, hs1, rfl⟩
          have hsucc := foldl_range_succ (blockStep j fx) s k
          generalize hse : (List.range k).foldl (blockStep j fx) s = s1 at hs1 hsucc ⊢
          simp only [push_cast, reduceIte, Nat.reduceEqDiff, Nat.reduceAdd, Nat.reduceSub, Nat.reduceMul, Nat.reduceBEq, Nat.reduceLT, Nat.reduceLeDiff, reduceCtorEq, Int.reduceToNat, Int.reduceNeg]
          refine cond_dec (fun h2 => ?_) fun h2 => ?_
          · have hk' : k < at0.length := by omega
            refine loop_of (fun m st => ∃ (t : Nat), t ≤ j.g.kind.length ∧ m = j.g.kind.length - t ∧ ImOk j at0 ((List.range t).foldl (tileStep j fx k) s1) ∧
              st = stI j fx at0.length k t ((List.range t).foldl (tileStep j fx k) s1).2.2 ((List.range t).foldl (tileStep j fx k) s1).2.1 s.2.2 passes p [] [] ((List.range t).foldl (tileStep j fx k) s1).1) j.g.kind.length ?_ ?_
            · refine ⟨0, by omega, by omega, hs1, ?_⟩
              simp only [stI_eq, push_cast, reduceIte, Nat.reduceEqDiff, Nat.reduceAdd, Nat.reduceSub, Nat.reduceMul, Nat.reduceBEq, Nat.reduceLT, Nat.reduceLeDiff, reduceCtorEq, Int.reduceToNat, Int.reduceNeg]
              rfl
            · rintro m st ⟨t, ht, rfl, hs2, rfl⟩
              have hsucc2 := foldl_range_succ (tileStep j fx k) s1 t
              generalize hse2 : (List.range t).foldl (tileStep j fx k) s1 = s2 at hs2 hsucc2 ⊢
              simp only [stI_eq, push_cast, reduceIte, Nat.reduceEqDiff, Nat.reduceAdd, Nat.reduceSub, Nat.reduceMul, Nat.reduceBEq, Nat.reduceLT, Nat.reduceLeDiff, reduceCtorEq, Int.reduceToNat, Int.reduceNeg]
              refine cond_dec (fun h3 => ?_) fun h3 => ?_
              · have ht' : t < j.g.kind.length := by omega
                refine clm_of (FnM.only [13, 301, 302, 304, 309, 310, 311, 312, 320, 321, 325, 326, 332, 333] [304] [705] [] (exch_ok E hE (by omega) j fx at0.length k t s2.2.2 s2.2.1 s.2.2 passes p s2.1 hj hfx hs2.len (by omega) hk')) ?_
                intro rv st' hex
                unfold exQ at hex
                have hl2 := hs2.len
                cases he : exchF j fx s2.1 k t with
                | none =>
                  rw [he] at hex
                  obtain ⟨rfl, rfl⟩ := hex
                  simp only [stI_eq, push_cast, reduceIte, Nat.reduceEqDiff, Nat.reduceAdd, Nat.reduceSub, Nat.reduceMul, Nat.reduceBEq, Nat.reduceLT, Nat.reduceLeDiff, reduceCtorEq, Int.reduceToNat, Int.reduceNeg]
                  have hstep : tileStep j fx k s2 t = s2 := by unfold tileStep; rw [he]
                  rw [hstep] at hsucc2
                  refine ⟨⟨by omega, by omega⟩, _, ?_, t + 1, by omega, rfl, by rw [hsucc2]; exact hs2, ?_⟩
                  · omega
                  · rw [hsucc2]; simp
                | some a =>
                  rw [he] at hex
                  obtain ⟨rfl, rfl⟩ := hex
                  have hpa := exch_isPl hs2.pl (by omega) he
                  have hun := exch_undo (by omega) he
                  have hok := tileStep_ok hs2 hk' (fx := fx) t
                  have hcb := costF_bd hj hs2.pl
                  have hct := hs2.cost
                  have htl := hs2.low
                  have htt := hs2.tot
                  simp only [stI_eq, cbI_eq, push_cast, reduceIte, Nat.reduceEqDiff, Nat.reduceAdd, Nat.reduceSub, Nat.reduceMul, Nat.reduceBEq, Nat.reduceLT, Nat.reduceLeDiff, reduceCtorEq, Int.reduceToNat, Int.reduceNeg]
                  rw [List.take_of_length_le (by have := hun.1; omega)]
                  refine cal_sub (by rw [hE]; exact cost_ok j hj a hpa) (by simp only [push_cast, reduceIte, Nat.reduceEqDiff, Nat.reduceAdd, Nat.reduceSub, Nat.reduceMul, Nat.reduceBEq, Nat.reduceLT, Nat.reduceLeDiff, reduceCtorEq, Int.reduceToNat, Int.reduceNeg]) ?_
                  simp only [push_cast, reduceIte, Nat.reduceEqDiff, Nat.reduceAdd, Nat.reduceSub, Nat.reduceMul, Nat.reduceBEq, Nat.reduceLT, Nat.reduceLeDiff, reduceCtorEq, Int.reduceToNat, Int.reduceNeg]
                  refine cond_dec (fun h4 => ?_) fun h4 => ?_
                  · have hstep : tileStep j fx k s2 t = (a, costF j a, s2.2.2 + 1) := by unfold tileStep; rw [he]; simp only; rw [if_pos h4]
                    rw [hstep] at hsucc2 hok
                    refine ⟨⟨by omega, by omega⟩, ⟨by omega, by omega⟩, _, ?_, t + 1, by omega, rfl, by rw [hsucc2]; exact hok, ?_⟩
                    · omega
                    · rw [hsucc2]; simp
                  · have hstep : tileStep j fx k s2 t = s2 := by unfold tileStep; rw [he]; simp only; rw [if_neg h4]
                    rw [hstep] at hsucc2
                    have hol : fidx (fun x => decide (x = (t : Int))) s2.1 < at0.length := by
                      rcases fidx_lt (fun x => decide (x = (t : Int))) s2.1 with h5 | h5
                      · omega
                      · rw [h5] at hl2; simp at hl2; omega
                    refine clm_of (FnM.only [13, 301, 302, 304, 309, 310, 311, 312, 320, 321, 325, 326, 332, 333] [304, 406, 408, 409, 412, 413, 414] [705] [] (undo_ok E hE (by omega) j fx at0.length k t s2.2.2 s2.2.1 s.2.2 passes p (s2.1.getD k default) (fidx (fun x => decide (x = (t : Int))) s2.1) a (by omega) hk' hol)) ?_
                    rintro rv _ ⟨rfl, rfl⟩
                    rw [hun.2]
                    simp only [stI_eq, cbI_eq, push_cast, reduceIte, Nat.reduceEqDiff, Nat.reduceAdd, Nat.reduceSub, Nat.reduceMul, Nat.reduceBEq, Nat.reduceLT, Nat.reduceLeDiff, reduceCtorEq, Int.reduceToNat, Int.reduceNeg]
                    refine ⟨⟨by omega, by omega⟩, _, ?_, t + 1, by omega, rfl, by rw [hsucc2]; exact hs2, ?_⟩
                    · omega
                    · rw [hsucc2]; simp
              · have htt : t = j.g.kind.length := by omega
                subst htt
                have hb : blockStep j fx s1 k = s2 := hse2
                rw [hb] at hsucc
                refine ⟨⟨by omega, by omega⟩, _, ?_, k + 1, by omega, rfl, by rw [hsucc]; exact hs2, ?_⟩
                · omega
                · rw [hsucc]; simp
          · have hkk' : k = at0.length := by omega
            subst hkk'
            obtain ⟨q, hq⟩ : ∃ q, passes - p = q + 1 := ⟨passes - p - 1, by omega⟩
            rw [hq] at hF
            simp only [passesF, passStep, hse] at hF
            refine cond_dec (fun h3 => ?_) fun h3 => ?_
            · rw [if_pos h3] at hF
              rw [← hF]; exact ⟨rfl, rfl⟩
            · rw [if_neg h3] at hF
              refine ⟨⟨by omega, by omega⟩, _, ?_, p + 1, s1, by omega, rfl, hs1, by rw [show passes - (p + 1) = q by omega]; exact hF, ?_⟩
              · omega
              · simp
      · rw [show passes - p = 0 by omega] at hF
        simp only [passesF] at hF
        rw [← hF]; exact ⟨rfl, rfl⟩
  refine FnM.mono (FnM.postB (fun _ => []) key) ?_
  rintro rv _ ⟨st1, ⟨h1, h2⟩, rfl⟩
  exact ⟨h1, h2⟩
end Go.Proofs.Ytbdamnfkgdbidaa.Pl
