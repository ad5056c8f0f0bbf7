/- BB CC DD K TxtD FF GG II: lemmas for PMatches -/
import Derived.Test.YtbdamnfkgdbidaaPart11
import Derived.Test.YtbdamnfkgdbidaaPart12
import Derived.Test.YtbdamnfkgdbidaaPart07
import Derived.Test.YtbdamnfkgdbidaaPart10
import Derived.Test.YtbdamnfkgdbidaaPart05
import Derived.Test.YtbdamnfkgdbidaaChecked
set_option linter.unusedSimpArgs false
set_option linter.unusedVariables false
namespace Go.Proofs.Ytbdamnfkgdbidaa
open Go Go.Vc
def Suited (j : Job) (a : List Int) : Prop := ∀ i : Nat, i < a.length → suitsR j i (a.getD i default) = true
theorem checkF_zero_iff {j : Job} {a : List Int} : checkF j a = 0 ↔ Fits j ∧ IsPl j a ∧ Suited j a := by
  have e : (List.range a.length).all (fun k => suitsR j k (a.getD k default)) = true ↔ Suited j a := by
    rw [List.all_eq_true]
    exact ⟨fun h i hi => h i (List.mem_range.2 hi), fun h i hi => h i (List.mem_range.1 hi)⟩
  unfold checkF
  constructor
  · intro h
    split at h
    · rename_i h1
      exact ⟨h1.1, h1.2.1, e.1 h1.2.2⟩
    · cases h
  · rintro ⟨h1, h2, h3⟩
    rw [if_pos ⟨h1, h2, e.2 h3⟩]
theorem getD_set_eq {a : List Int} {k : Nat} (h : k < a.length) (x : Int) : (a.set k x).getD k default = x := by simp [List.getD_eq_getElem?_getD, h]
theorem getD_set_ne {a : List Int} {k i : Nat} (h : k ≠ i) (x : Int) : (a.set k x).getD i default = a.getD i default := by simp [List.getD_eq_getElem?_getD, List.getElem?_set_ne h]
theorem exch_spec {j : Job} {fx at_ a : List Int} {k t : Nat} (hp : IsPl j at_) (hk : k < at_.length) (h : exchF j fx at_ k t = some a) :
    (k : Int) ∉ fx ∧ suitsR j k t = true ∧ at_.getD k default ≠ t ∧
      ((∃ o : Nat, o < at_.length ∧ at_.getD o default = t ∧ o ≠ k ∧ (o : Int) ∉ fx ∧ suitsR j o (at_.getD k default) = true ∧ a = (at_.set k t).set o (at_.getD k default)) ∨
       ((t : Int) ∉ at_ ∧ a = at_.set k t)) := by
  unfold exchF at h
  simp only at h
  split at h
  · cases h
  rename_i h1
  split at h
  · cases h
  rename_i h2
  injection h with h
  have hs : suitsR j k t = true := by cases hc : suitsR j k t <;> simp_all
  refine ⟨fun hh => h1 (.inr (.inl hh)), hs, fun hh => h1 (.inl hh), ?_⟩
  subst h
  split
  · rename_i ho
    obtain ⟨i, e, hi, hpi, _⟩ := fidx_spec ho
    rw [e] at h2 ⊢
    have hpi : at_[i] = t := by simpa using hpi
    have hgi : at_.getD i default = t := by rw [← hpi]; simp [hi]
    refine .inl ⟨i, hi, hgi, fun e => ?_, fun hh => h2 ⟨by omega, .inl hh⟩, ?_, rfl⟩
    · subst e; exact h1 (.inl hgi)
    · cases hc : suitsR j i (at_.getD k default)
      · exact absurd ⟨by omega, .inr hc⟩ h2
      · rfl
  · rename_i ho
    refine .inr ⟨fun hm => ?_, rfl⟩
    have := fidx_neg ho _ hm
    simp at this
theorem exch_keeps {j : Job} {fx at_ a : List Int} {k t : Nat} (hp : IsPl j at_) (hk : k < at_.length) (h : exchF j fx at_ k t = some a) :
    (Suited j at_ → Suited j a) ∧ ∀ i : Nat, (i : Int) ∈ fx → a.getD i default = at_.getD i default := by
  obtain ⟨h1, h2, h3, h4⟩ := exch_spec hp hk h
  have hl := (exch_undo hk h).1
  rcases h4 with ⟨o, ho, hot, hok, hof, hos, rfl⟩ | ⟨ht, rfl⟩
  · refine ⟨fun hs i hi => ?_, fun i hi => ?_⟩
    · rw [hl] at hi
      by_cases e1 : o = i
      · subst e1; rw [getD_set_eq (by simpa using ho)]; exact hos
      · rw [getD_set_ne e1]
        by_cases e2 : k = i
        · subst e2; rw [getD_set_eq hk]; exact h2
        · rw [getD_set_ne e2]; exact hs i hi
    · have e1 : o ≠ i := fun e => hof (e ▸ hi)
      have e2 : k ≠ i := fun e => h1 (e ▸ hi)
      rw [getD_set_ne e1, getD_set_ne e2]
  · refine ⟨fun hs i hi => ?_, fun i hi => ?_⟩
    · rw [hl] at hi
      by_cases e2 : k = i
      · subst e2; rw [getD_set_eq hk]; exact h2
      · rw [getD_set_ne e2]; exact hs i hi
    · have e2 : k ≠ i := fun e => h1 (e ▸ hi)
      rw [getD_set_ne e2]
structure Keeps (j : Job) (fx at0 : List Int) (s : Im) : Prop where
  ok : ImOk j at0 s
  suit : Suited j at0 → Suited j s.1
  fix : ∀ i : Nat, (i : Int) ∈ fx → s.1.getD i default = at0.getD i default
theorem tile_keeps {j : Job} {fx at0 : List Int} {k : Nat} {s : Im} (h : Keeps j fx at0 s) (hk : k < at0.length) (t : Nat) : Keeps j fx at0 (tileStep j fx k s t) := by
  refine ⟨tileStep_ok h.ok hk t, ?_, ?_⟩
  all_goals
    have hl := h.ok.len
    unfold tileStep
    cases he : exchF j fx s.1 k t with
    | none => first | exact h.suit | exact h.fix
    | some a =>
      obtain ⟨e1, e2⟩ := exch_keeps h.ok.pl (by omega) he
      simp only
      split
      · first
          | exact fun hs => e1 (h.suit hs)
          | exact fun i hi => (e2 i hi).trans (h.fix i hi)
      · first | exact h.suit | exact h.fix
theorem tiles_keeps {j : Job} {fx at0 : List Int} {k : Nat} (hk : k < at0.length) : ∀ (l : List Nat) {s : Im}, Keeps j fx at0 s → Keeps j fx at0 (l.foldl (tileStep j fx k) s)
  | [], _, h => h
  | t :: l, _, h => tiles_keeps hk l (tile_keeps h hk t)
theorem blocks_keeps {j : Job} {fx at0 : List Int} : ∀ (l : List Nat) {s : Im}, (∀ k ∈ l, k < at0.length) → Keeps j fx at0 s → Keeps j fx at0 (l.foldl (blockStep j fx) s)
  | [], _, _, h => h
  | k :: l, _, hl, h => blocks_keeps l (fun m hm => hl m (List.mem_cons_of_mem _ hm)) (tiles_keeps (hl k List.mem_cons_self) _ h)
theorem pass_keeps {j : Job} {fx at0 : List Int} {s : Im} (h : Keeps j fx at0 s) : Keeps j fx at0 (passStep j fx at0.length s) := blocks_keeps (List.range at0.length) (fun k hk => List.mem_range.1 hk) h
theorem passes_keeps {j : Job} {fx at0 : List Int} : ∀ (p : Nat) {s : Im}, Keeps j fx at0 s → Keeps j fx at0 (passesF j fx at0.length p s)
  | 0, _, h => h
  | p + 1, s, h => by
    have h1 := pass_keeps h
    simp only [passesF]
    split
    · exact h1
    · exact passes_keeps p h1
theorem keeps_init {j : Job} {fx at0 : List Int} (hp : IsPl j at0) : Keeps j fx at0 (at0, costF j at0, 0) :=
  ⟨⟨hp, rfl, rfl, by show (0 : Int) ≤ 0; omega, by show 0 + costF j at0 ≤ _; omega⟩, id, fun _ _ => rfl⟩
theorem improveF_keeps {j : Job} {fx at0 : List Int} (hp : IsPl j at0) (p : Nat) : Keeps j fx at0 (improveF j fx at0 p) := passes_keeps p (keeps_init hp)
theorem tile_le {j : Job} {fx : List Int} {k : Nat} (s : Im) (t : Nat) : (tileStep j fx k s t).2.1 ≤ s.2.1 := by
  unfold tileStep
  split
  · exact Int.le_refl _
  · split
    · rename_i h; exact Int.le_of_lt h
    · exact Int.le_refl _
theorem tiles_le {j : Job} {fx : List Int} {k : Nat} : ∀ (l : List Nat) (s : Im), (l.foldl (tileStep j fx k) s).2.1 ≤ s.2.1
  | [], _ => Int.le_refl _
  | t :: l, s => Int.le_trans (tiles_le l _) (tile_le s t)
theorem blocks_le {j : Job} {fx : List Int} : ∀ (l : List Nat) (s : Im), (l.foldl (blockStep j fx) s).2.1 ≤ s.2.1
  | [], _ => Int.le_refl _
  | k :: l, s => Int.le_trans (blocks_le l _) (tiles_le _ s)
theorem passes_le {j : Job} {fx : List Int} {n : Nat} : ∀ (p : Nat) (s : Im), (passesF j fx n (p + 1) s).2.1 ≤ (passesF j fx n p s).2.1
  | 0, s => by
    simp only [passesF]
    have : (passStep j fx n s).2.1 ≤ s.2.1 := blocks_le _ s
    split <;> exact this
  | p + 1, s => by
    have ih := passes_le (j := j) (fx := fx) (n := n) p (passStep j fx n s)
    show (if (passStep j fx n s).2.2 = s.2.2 then passStep j fx n s else passesF j fx n (p + 1) (passStep j fx n s)).2.1 ≤ (if (passStep j fx n s).2.2 = s.2.2 then passStep j fx n s else passesF j fx n p (passStep j fx n s)).2.1
    split
    · exact Int.le_refl _
    · exact ih
def SuitedP (j : Job) (a : List Int) : Prop := ∀ i : Nat, 0 ≤ a.getD i default → i < a.length → suitsR j i (a.getD i default) = true
theorem suitedP_set {j : Job} {a : List Int} {i : Nat} {t : Int} (h : SuitedP j a) (hs : suitsR j i t = true) : SuitedP j (a.set i t) := by
  intro m h0 hm
  rw [List.length_set] at hm
  by_cases e : i = m
  · subst e; rw [getD_set_eq hm]; exact hs
  · rw [getD_set_ne e] at h0 ⊢; exact h m h0 hm
theorem keepF_spec {j : Job} : ∀ (l : List Int) (i : Nat) (s s' : List Int × List Int), keepF j l i s = some s' → i + l.length ≤ s.1.length → SuitedP j s.1 →
    SuitedP j s'.1 ∧ s'.1.length = s.1.length ∧ (∀ m : Nat, m < l.length → l.getD m default ≠ -1 → s'.1.getD (i + m) default = l.getD m default ∧ ((i + m : Nat) : Int) ∈ s'.2) ∧
      (∀ m : Nat, m < i → s'.1.getD m default = s.1.getD m default) ∧ ∀ x ∈ s.2, x ∈ s'.2
  | [], _, s, s', h, _, hs => by cases h; exact ⟨hs, rfl, fun m hm => absurd hm (by simp), fun _ _ => rfl, fun _ h => h⟩
  | t :: r, i, s, s', h, hl, hs => by
    simp only [List.length_cons] at hl
    simp only [keepF] at h
    split at h
    · rename_i ht
      obtain ⟨h1, h2, h3, h4, h5⟩ := keepF_spec r (i + 1) s s' h (by omega) hs
      refine ⟨h1, h2, fun m hm hne => ?_, fun m hm => h4 m (by omega), h5⟩
      cases m with
      | zero => exact absurd ht hne
      | succ m =>
        have := h3 m (by simpa using hm) (by simpa using hne)
        rw [show i + 1 + m = i + (m + 1) by omega] at this
        simpa using this
    · rename_i ht
      split at h
      · cases h
      · rename_i hn
        have hsu : suitsR j i t = true := by cases hc : suitsR j i t <;> simp_all
        obtain ⟨h1, h2, h3, h4, h5⟩ := keepF_spec r (i + 1) _ s' h (by simp only [List.length_set]; omega) (suitedP_set hs hsu)
        refine ⟨h1, by rw [h2]; simp, fun m hm hne => ?_, fun m hm => ?_, fun x hx => h5 x (List.mem_append_left _ hx)⟩
        · cases m with
          | zero =>
            have := h4 i (by omega)
            simp only [getD_set_eq (show i < s.1.length by omega)] at this
            exact ⟨this, h5 _ (List.mem_append_right _ (by simp))⟩
          | succ m =>
            have := h3 m (by simpa using hm) (by simpa using hne)
            rw [show i + 1 + m = i + (m + 1) by omega] at this
            simpa using this
        · have := h4 m (by omega)
          simp only [getD_set_ne (show i ≠ m by omega)] at this
          exact this
theorem fillStep_suit {j : Job} {reads : Bool} {a a' : List Int} {b : Nat} (h : fillStep j reads a b = some a') (hs : SuitedP j a) : SuitedP j a' := by
  unfold fillStep at h
  split at h
  · cases h; exact hs
  · split at h
    · cases h
    · rename_i t ht
      cases h
      exact suitedP_set hs (findT_spec ht).1
theorem fillF_suit {j : Job} {reads : Bool} : ∀ (n b : Nat) (a a' : List Int), fillF j reads n b a = some a' → SuitedP j a → SuitedP j a'
  | 0, _, a, a', h, hs => by cases h; exact hs
  | n + 1, b, a, a', h, hs => by
    simp only [fillF] at h
    split at h
    · cases h
    · rename_i a1 h1
      exact fillF_suit n (b + 1) a1 a' h (fillStep_suit h1 hs)
theorem fillAll_suit {j : Job} : ∀ (l : List Bool) (a a' : List Int), fillAll j l a = some a' → SuitedP j a → SuitedP j a'
  | [], a, a', h, hs => by cases h; exact hs
  | r :: rs, a, a', h, hs => by
    simp only [fillAll] at h
    split at h
    · cases h
    · rename_i a1 h1
      exact fillAll_suit rs a1 a' h (fillF_suit _ _ _ _ h1 hs)
theorem placeF_spec (j : Job) (fx : List Int) (hl : fx.length = j.p.blocks.length ∨ fx = []) :
    (∃ e : Int, (e = 290 ∨ e = 4) ∧ ∀ p : Int, 0 ≤ p → p ≤ 1000 → placeF j fx p = ([], e)) ∨
    (∃ a kept : List Int, Fits j ∧ IsPl j a ∧ Suited j a ∧ (∀ i : Nat, i < fx.length → 0 ≤ fx.getD i default → a.getD i default = fx.getD i default ∧ (i : Int) ∈ kept) ∧
      ∀ p : Int, 0 ≤ p → p ≤ 1000 → placeF j fx p = ((improveF j kept a p.toNat).1, 0)) := by
  have h0 : ∀ p : Int, 0 ≤ p → p ≤ 1000 → ¬ (p < 0 ∨ 1000 < p ∨ ((fx.length : Int) ≠ 0 ∧ (fx.length : Int) ≠ j.p.blocks.length)) := fun p h1 h2 => by
    rcases hl with hl | hl
    · omega
    · subst hl; simp; omega
  by_cases hF : Fits j
  · cases hk : keepF j fx 0 (List.replicate j.p.blocks.length (-1), []) with
    | none => exact .inl ⟨290, .inl rfl, fun p h1 h2 => by rw [placeF, if_neg (h0 p h1 h2), if_neg (fun h => h hF), hk]⟩
    | some s =>
      have hinit : SuitedP j (List.replicate j.p.blocks.length (-1)) := fun i hi hl => by
        rw [List.length_replicate] at hl
        simp [List.getD_eq_getElem?_getD, hl] at hi
      obtain ⟨k1, k2, k3, _, _⟩ := keepF_spec fx 0 _ s hk (by
        rcases hl with hl | hl
        · simp [hl]
        · subst hl; simp) hinit
      have hpart := (keepF_part fx 0 _ s hk (part_init j)).1
      cases hf : fillAll j [true, false] s.1 with
      | none => exact .inl ⟨4, .inr rfl, fun p h1 h2 => by rw [placeF, if_neg (h0 p h1 h2), if_neg (fun h => h hF), hk]; simp only [tailF, hf]⟩
      | some a =>
        obtain ⟨hpl, hst⟩ := fillAll_pl hf hpart
        have hsu := fillAll_suit _ _ _ hf k1
        refine .inr ⟨a, s.2, hF, hpl, fun i hi => hsu i ?_ hi, fun i hi h1 => ?_, fun p h1 h2 => by rw [placeF, if_neg (h0 p h1 h2), if_neg (fun h => h hF), hk]; simp only [tailF, hf]⟩
        · have := hpl.2.1 (a.getD i default) (by simp [List.getD_eq_getElem?_getD, hi])
          exact this.1
        · have h3 := k3 i hi (by omega)
          rw [Nat.zero_add] at h3
          refine ⟨?_, h3.2⟩
          rw [hst i (by rw [h3.1]; exact h1), h3.1]
  · exact .inl ⟨290, .inl rfl, fun p h1 h2 => by rw [placeF, if_neg (h0 p h1 h2), if_pos hF]⟩
end Go.Proofs.Ytbdamnfkgdbidaa
namespace Go.Proofs.Ytbdamnfkgdbidaa
open Go Go.Vc Txt
structure RawP.By (x : RawP) : Prop where
  ins : 0 ≤ x.ins ∧ x.ins ≤ 255
  out : 0 ≤ x.out ∧ x.out ≤ 255
  six : ∀ b ∈ x.blocks, b.length = 6
  byte : ∀ b ∈ x.blocks, ∀ v ∈ b, 0 ≤ v ∧ v ≤ 255
structure RawG.By (x : RawG) : Prop where
  w : 0 ≤ x.w ∧ x.w ≤ 255
  h : 0 ≤ x.h ∧ x.h ≤ 255
  tracks : 0 ≤ x.tracks ∧ x.tracks ≤ 255
  pads : 0 ≤ x.pads ∧ x.pads ≤ 255
  kind : ∀ k ∈ x.kind, 0 ≤ k ∧ k ≤ 255
structure Odd.By (z : Odd) : Prop where
  bad : ∀ b ∈ z.bad, 0 ≤ b ∧ b ≤ 255
  at_ : ∀ b ∈ z.at_, 0 ≤ b ∧ b ≤ 255
  fixed : ∀ b ∈ z.fixed, 0 ≤ b ∧ b ≤ 255
  any : ∀ b ∈ z.any, -9223372036854775808 ≤ b ∧ b ≤ 9223372036854775807
  some_ : ∀ b ∈ z.some_, -9223372036854775808 ≤ b ∧ b ≤ 9223372036854775807
  block : -9223372036854775808 ≤ z.block ∧ z.block ≤ 9223372036854775807
  tile : -9223372036854775808 ≤ z.tile ∧ z.tile ≤ 9223372036854775807
  passes : -9223372036854775808 ≤ z.passes ∧ z.passes ≤ 9223372036854775807
theorem RawP.By.ok {x : RawP} (h : x.By) (hl : x.blocks.length ≤ 9) : x.Ok := ⟨h.ins, h.out, by omega, h.six, h.byte⟩
theorem RawG.By.ok {x : RawG} (h : x.By) (hl : x.kind.length ≤ 40) : x.Ok := ⟨h.w, h.h, h.tracks, h.pads, by omega, h.kind⟩
set_option maxHeartbeats 2000000 in
theorem legal_ok (x : RawP) (hx : x.By) (y : RawG) (hy : y.By) (z : Odd) (hz : z.By) :
    FnEq Try.prog 4 [.agg (rawPC false x), .agg (rawGC false y), .agg (oddC false z)] (.bool true) := by
  refine FnEq.of_awp Try.func4 ok4 (by show 3 ≤ _; decide) (by simp only [push_cast, reduceIte, Nat.reduceEqDiff, Nat.reduceAdd, Nat.reduceSub, Nat.reduceMul, Nat.reduceBEq, Nat.reduceLT, Nat.reduceLeDiff, reduceCtorEq, Int.reduceToNat, Int.reduceNeg] <;> first | exact fun _ _ => trivial | simp) ?_
  simp only [ac4, rv4, push_cast, reduceIte, Nat.reduceEqDiff, Nat.reduceAdd, Nat.reduceSub, Nat.reduceMul, Nat.reduceBEq, Nat.reduceLT, Nat.reduceLeDiff, reduceCtorEq, Int.reduceToNat, Int.reduceNeg]
  refine cal_sub examples_ok (by simp only [push_cast, reduceIte, Nat.reduceEqDiff, Nat.reduceAdd, Nat.reduceSub, Nat.reduceMul, Nat.reduceBEq, Nat.reduceLT, Nat.reduceLeDiff, reduceCtorEq, Int.reduceToNat, Int.reduceNeg]) ?_
  simp only [push_cast, reduceIte, Nat.reduceEqDiff, Nat.reduceAdd, Nat.reduceSub, Nat.reduceMul, Nat.reduceBEq, Nat.reduceLT, Nat.reduceLeDiff, reduceCtorEq, Int.reduceToNat, Int.reduceNeg]
  refine cal_sub (small_ok x y z) (by simp only [push_cast, reduceIte, Nat.reduceEqDiff, Nat.reduceAdd, Nat.reduceSub, Nat.reduceMul, Nat.reduceBEq, Nat.reduceLT, Nat.reduceLeDiff, reduceCtorEq, Int.reduceToNat, Int.reduceNeg]) ?_
  simp only [push_cast, reduceIte, Nat.reduceEqDiff, Nat.reduceAdd, Nat.reduceSub, Nat.reduceMul, Nat.reduceBEq, Nat.reduceLT, Nat.reduceLeDiff, reduceCtorEq, Int.reduceToNat, Int.reduceNeg]
  refine cond_of (fun h => ?_) fun h => ?_
  · simp only [push_cast, reduceIte, Nat.reduceEqDiff, Nat.reduceAdd, Nat.reduceSub, Nat.reduceMul, Nat.reduceBEq, Nat.reduceLT, Nat.reduceLeDiff, reduceCtorEq, Int.reduceToNat, Int.reduceNeg]
    done
  have hs : Small x y z := by simpa using h
  have hx := hx.ok hs.1
  have hy := hy.ok hs.2.1
  obtain ⟨_, _, s3, s4, s5, _⟩ := hs
  refine cal_subO (lmade_ok x hx y hy z (by omega) hz.bad) (by simp only [push_cast, reduceIte, Nat.reduceEqDiff, Nat.reduceAdd, Nat.reduceSub, Nat.reduceMul, Nat.reduceBEq, Nat.reduceLT, Nat.reduceLeDiff, reduceCtorEq, Int.reduceToNat, Int.reduceNeg]) ?_
  rintro _ ⟨p, hp, rfl⟩
  have hj := job_ok hx hp hy z.bad
  have hpb : p.blocks.length ≤ 9 := by have := hp.nb; omega
  generalize hj0 : (⟨p, gridF y, badF (gridF y) z.bad⟩ : Job) = j at hj ⊢
  have hjb : j.p.blocks.length ≤ 9 := by rw [← hj0]; exact hpb
  clear hj0
  simp only [push_cast, reduceIte, Nat.reduceEqDiff, Nat.reduceAdd, Nat.reduceSub, Nat.reduceMul, Nat.reduceBEq, Nat.reduceLT, Nat.reduceLeDiff, reduceCtorEq, Int.reduceToNat, Int.reduceNeg]
  refine cal_sub (fixed_ok j hj z.fixed (by omega) hz.fixed) ⟨Sub.aggL (jobC_sub j), .refl _, trivial⟩ ?_
  have hfl : (fixedF j z.fixed).length = j.p.blocks.length := by simp [fixedF]
  generalize fixedF j z.fixed = fx at hfl ⊢
  simp only [push_cast, reduceIte, Nat.reduceEqDiff, Nat.reduceAdd, Nat.reduceSub, Nat.reduceMul, Nat.reduceBEq, Nat.reduceLT, Nat.reduceLeDiff, reduceCtorEq, Int.reduceToNat, Int.reduceNeg]
  rcases placeF_spec j fx (.inl hfl) with ⟨e, he, hpl⟩ | ⟨a, kept, hF, hpl, hsu, hfix, hpl2⟩
  · refine loop_of (fun m st => m = 0 ∧ st = ⟨[(7, .bool true), (8, .ptr 8 0), (9, .sl true 1 (ints fx)), (10, .int (-1)), (11, .int 0)], [(8, jobC true j)], [], []⟩) 0 ?_ ?_
    · refine ⟨rfl, ?_⟩
      simp only [push_cast, reduceIte, Nat.reduceEqDiff, Nat.reduceAdd, Nat.reduceSub, Nat.reduceMul, Nat.reduceBEq, Nat.reduceLT, Nat.reduceLeDiff, reduceCtorEq, Int.reduceToNat, Int.reduceNeg]
    · rintro m st ⟨rfl, rfl⟩
      simp only [push_cast, reduceIte, Nat.reduceEqDiff, Nat.reduceAdd, Nat.reduceSub, Nat.reduceMul, Nat.reduceBEq, Nat.reduceLT, Nat.reduceLeDiff, reduceCtorEq, Int.reduceToNat, Int.reduceNeg]
      refine cond_dec (fun _ => ?_) fun h1 => absurd h1 (by omega)
      refine cal_sub (lplaced_ok j hj ⟨[], fx, 0⟩ (by show (fx.length : Int) ≤ _; omega)) ⟨Sub.aggL (jobC_sub j), Sub.aggL ⟨.nil _ _, .slp _ _ _ _ (fun h => by cases h), .refl _, trivial⟩, trivial⟩ ?_
      rw [show placeF j fx 0 = ([], e) from hpl 0 (by omega) (by omega)]
      simp only [push_cast, reduceIte, Nat.reduceEqDiff, Nat.reduceAdd, Nat.reduceSub, Nat.reduceMul, Nat.reduceBEq, Nat.reduceLT, Nat.reduceLeDiff, reduceCtorEq, Int.reduceToNat, Int.reduceNeg]
      refine cond_dec (fun _ => ?_) fun h1 => absurd h1 (by omega)
      refine ⟨by omega, ?_⟩
      refine cal_sub (lplaced_ok j hj ⟨[], fx, 0 + 1⟩ (by show (fx.length : Int) ≤ _; omega)) ⟨Sub.aggL (jobC_sub j), Sub.aggL ⟨.nil _ _, .slp _ _ _ _ (fun h => by cases h), .refl _, trivial⟩, trivial⟩ ?_
      rw [show placeF j fx (0 + 1) = ([], e) from hpl 1 (by omega) (by omega)]
      simp only [push_cast, reduceIte, Nat.reduceEqDiff, Nat.reduceAdd, Nat.reduceSub, Nat.reduceMul, Nat.reduceBEq, Nat.reduceLT, Nat.reduceLeDiff, reduceCtorEq, Int.reduceToNat, Int.reduceNeg]
      refine cutE_of (fun st1 => ∃ B, st1 = ⟨[(7, .bool true), (77, .bool false)], B, [], []⟩) ?_ ?_
      · (repeat' (first | (refine grd_dec rfl (fun _ => ?_) fun _ => ?_ <;> simp only [push_cast, reduceIte, Nat.reduceEqDiff, Nat.reduceAdd, Nat.reduceSub, Nat.reduceMul, Nat.reduceBEq, Nat.reduceLT, Nat.reduceLeDiff, reduceCtorEq, Int.reduceToNat, Int.reduceNeg]) | (refine grd_decf rfl (fun _ => ?_) fun _ => ?_ <;> simp only [push_cast, reduceIte, Nat.reduceEqDiff, Nat.reduceAdd, Nat.reduceSub, Nat.reduceMul, Nat.reduceBEq, Nat.reduceLT, Nat.reduceLeDiff, reduceCtorEq, Int.reduceToNat, Int.reduceNeg])))
        all_goals first | (exfalso; omega) | exact ⟨_, by rw [show decide (e ≠ e) = false by simp]⟩
      · rintro _ ⟨B, rfl⟩
        simp only [push_cast, reduceIte, Nat.reduceEqDiff, Nat.reduceAdd, Nat.reduceSub, Nat.reduceMul, Nat.reduceBEq, Nat.reduceLT, Nat.reduceLeDiff, reduceCtorEq, Int.reduceToNat, Int.reduceNeg]
  · have hfl9 : (fx.length : Int) ≤ 9 := by omega
    refine loop_of (fun m st => ∃ (t : Nat) (last : Int), t ≤ 4 ∧ m = 4 - t ∧ (t = 0 → last = -1) ∧ (∀ q : Nat, t = q + 1 → last = (improveF j kept a q).2.1) ∧
      st = ⟨[(7, .bool true), (8, .ptr 8 0), (9, .sl true 1 (ints fx)), (10, .int last), (11, .int t)], [(8, jobC true j)], [], []⟩) 4 ?_ ?_
    · refine ⟨0, -1, by omega, rfl, fun _ => rfl, fun q hq => by omega, ?_⟩
      simp only [push_cast, reduceIte, Nat.reduceEqDiff, Nat.reduceAdd, Nat.reduceSub, Nat.reduceMul, Nat.reduceBEq, Nat.reduceLT, Nat.reduceLeDiff, reduceCtorEq, Int.reduceToNat, Int.reduceNeg]
    · rintro m st ⟨t, last, ht, rfl, hl0, hl1, rfl⟩
      simp only [push_cast, reduceIte, Nat.reduceEqDiff, Nat.reduceAdd, Nat.reduceSub, Nat.reduceMul, Nat.reduceBEq, Nat.reduceLT, Nat.reduceLeDiff, reduceCtorEq, Int.reduceToNat, Int.reduceNeg]
      refine cond_dec (fun h1 => ?_) fun h1 => ?_
      · have hpt := hpl2 t (by omega) (by omega)
        rw [Int.toNat_natCast] at hpt
        have hk := improveF_keeps (fx := kept) hpl t
        refine cal_sub (lplaced_ok j hj ⟨[], fx, t⟩ (by show (fx.length : Int) ≤ _; omega)) ⟨Sub.aggL (jobC_sub j), Sub.aggL ⟨.nil _ _, .slp _ _ _ _ (fun h => by cases h), .refl _, trivial⟩, trivial⟩ ?_
        rw [show placeF j fx (t : Int) = ((improveF j kept a t).1, 0) from hpt]
        simp only [push_cast, reduceIte, Nat.reduceEqDiff, Nat.reduceAdd, Nat.reduceSub, Nat.reduceMul, Nat.reduceBEq, Nat.reduceLT, Nat.reduceLeDiff, reduceCtorEq, Int.reduceToNat, Int.reduceNeg]
        refine cond_dec (fun h2 => absurd rfl h2) fun _ => ?_
        have hlen : ((improveF j kept a t).1.length : Int) ≤ 1000000 := by have := hk.ok.len; have := hpl.1; omega
        have hcost : cost1F j (improveF j kept a t).1 = ((improveF j kept a t).2.1, 0) := by rw [cost1F, if_pos hk.ok.pl, hk.ok.cost]
        have hcheck : checkF j (improveF j kept a t).1 = 0 := checkF_zero_iff.2 ⟨hF, hk.ok.pl, hk.suit hsu⟩
        refine cal_sub (lcost_ok j hj _ hlen) ⟨Sub.aggL (jobC_sub j), .slp _ _ _ _ (fun h => by cases h), trivial⟩ ?_
        rw [hcost]
        simp only [push_cast, reduceIte, Nat.reduceEqDiff, Nat.reduceAdd, Nat.reduceSub, Nat.reduceMul, Nat.reduceBEq, Nat.reduceLT, Nat.reduceLeDiff, reduceCtorEq, Int.reduceToNat, Int.reduceNeg]
        refine cal_sub (lcheck_ok j hj _ hlen) ⟨Sub.aggL (jobC_sub j), .slp _ _ _ _ (fun h => by cases h), trivial⟩ ?_
        rw [hcheck]
        simp only [push_cast, reduceIte, Nat.reduceEqDiff, Nat.reduceAdd, Nat.reduceSub, Nat.reduceMul, Nat.reduceBEq, Nat.reduceLT, Nat.reduceLeDiff, reduceCtorEq, Int.reduceToNat, Int.reduceNeg]
        have hle : 0 ≤ last → (improveF j kept a t).2.1 ≤ last := fun h0 => by
          cases t with
          | zero => have := hl0 rfl; omega
          | succ q => rw [hl1 q rfl]; exact passes_le q _
        have hlenf : (improveF j kept a t).1.length = fx.length := by rw [hk.ok.len, hpl.1, hfl]
        have hfx : ∀ i : Nat, i < fx.length → 0 ≤ fx.getD i default → (improveF j kept a t).1.getD i default = fx.getD i default := fun i hi h0 => by
          have h3 := hfix i hi h0
          rw [hk.fix i h3.2, h3.1]
        generalize hr : improveF j kept a t = r at hle hlenf hfx ⊢
        refine cut_of ⟨[(7, .bool true), (8, .ptr 8 0), (9, .sl true 1 (ints fx)), (11, .int t), (12, .ptr 12 0), (14, .ptr 14 0), (110, .bool false)], [(8, jobC true j), (12, [.sl true 1 (ints r.1), .int 0, .int 0]), (14, [.int r.2.1, .int 0])], [], []⟩ ?_ ?_
        · refine grd_decf rfl (fun h3 => absurd rfl h3) fun _ => ?_
          simp only [push_cast, reduceIte, Nat.reduceEqDiff, Nat.reduceAdd, Nat.reduceSub, Nat.reduceMul, Nat.reduceBEq, Nat.reduceLT, Nat.reduceLeDiff, reduceCtorEq, Int.reduceToNat, Int.reduceNeg]
          refine grd_decf rfl (fun h3 => absurd rfl h3) fun _ => ?_
          simp only [push_cast, reduceIte, Nat.reduceEqDiff, Nat.reduceAdd, Nat.reduceSub, Nat.reduceMul, Nat.reduceBEq, Nat.reduceLT, Nat.reduceLeDiff, reduceCtorEq, Int.reduceToNat, Int.reduceNeg]
          have hne : decide ((r.1.length : Int) ≠ (fx.length : Int)) = false := decide_eq_false (by omega)
          refine grd_dec rfl (fun h4 => ?_) fun h4 => ?_ <;> simp only [push_cast, reduceIte, Nat.reduceEqDiff, Nat.reduceAdd, Nat.reduceSub, Nat.reduceMul, Nat.reduceBEq, Nat.reduceLT, Nat.reduceLeDiff, reduceCtorEq, Int.reduceToNat, Int.reduceNeg]
          · refine grd_decf rfl (fun h5 => absurd h5 (by have := hle h4; omega)) fun _ => ?_
            simp only [push_cast, reduceIte, Nat.reduceEqDiff, Nat.reduceAdd, Nat.reduceSub, Nat.reduceMul, Nat.reduceBEq, Nat.reduceLT, Nat.reduceLeDiff, reduceCtorEq, Int.reduceToNat, Int.reduceNeg]
            rw [hne]
          · rw [hne]
        · simp only [push_cast, reduceIte, Nat.reduceEqDiff, Nat.reduceAdd, Nat.reduceSub, Nat.reduceMul, Nat.reduceBEq, Nat.reduceLT, Nat.reduceLeDiff, reduceCtorEq, Int.reduceToNat, Int.reduceNeg]
          refine loop_of (fun m st => ∃ i : Nat, i ≤ fx.length ∧ m = fx.length - i ∧ st = ⟨[(7, .bool true), (8, .ptr 8 0), (9, .sl true 1 (ints fx)), (11, .int t), (12, .ptr 12 0), (14, .ptr 14 0), (15, .int i)], [(8, jobC true j), (12, [.sl true 1 (ints r.1), .int 0, .int 0]), (14, [.int r.2.1, .int 0])], [], []⟩) fx.length ?_ ?_
          · refine ⟨0, by omega, by omega, ?_⟩
            simp only [push_cast, reduceIte, Nat.reduceEqDiff, Nat.reduceAdd, Nat.reduceSub, Nat.reduceMul, Nat.reduceBEq, Nat.reduceLT, Nat.reduceLeDiff, reduceCtorEq, Int.reduceToNat, Int.reduceNeg]
          · rintro m st ⟨i, hi, rfl, rfl⟩
            simp only [push_cast, reduceIte, Nat.reduceEqDiff, Nat.reduceAdd, Nat.reduceSub, Nat.reduceMul, Nat.reduceBEq, Nat.reduceLT, Nat.reduceLeDiff, reduceCtorEq, Int.reduceToNat, Int.reduceNeg]
            refine cond_dec (fun h5 => ?_) fun h5 => ?_
            · have hi' : i < fx.length := by omega
              refine ⟨by omega, by omega, ?_⟩
              refine dcut_of ⟨[(7, .bool true), (8, .ptr 8 0), (9, .sl true 1 (ints fx)), (11, .int t), (12, .ptr 12 0), (14, .ptr 14 0), (15, .int i), (133, .bool false)], [(8, jobC true j), (12, [.sl true 1 (ints r.1), .int 0, .int 0]), (14, [.int r.2.1, .int 0])], [], []⟩ ?_ ?_
              · refine dgrd_dec rfl (fun h6 => ?_) fun h6 => ?_ <;> simp only [push_cast, reduceIte, Nat.reduceEqDiff, Nat.reduceAdd, Nat.reduceSub, Nat.reduceMul, Nat.reduceBEq, Nat.reduceLT, Nat.reduceLeDiff, reduceCtorEq, Int.reduceToNat, Int.reduceNeg]
                · rw [hfx i hi' h6, show decide (fx.getD i default ≠ fx.getD i default) = false by simp]
                  exact ⟨by omega, by omega, by omega, hi', rfl⟩
              · simp only [push_cast, reduceIte, Nat.reduceEqDiff, Nat.reduceAdd, Nat.reduceSub, Nat.reduceMul, Nat.reduceBEq, Nat.reduceLT, Nat.reduceLeDiff, reduceCtorEq, Int.reduceToNat, Int.reduceNeg]
                refine ⟨by omega, _, ?_, i + 1, by omega, rfl, ?_⟩
                · omega
                · simp
            · refine ⟨by omega, _, ?_, t + 1, r.2.1, by omega, rfl, fun h => by omega, fun q hq => ?_, ?_⟩
              · omega
              · rw [show q = t by omega, hr]
              · simp
      · exact trivial
end Go.Proofs.Ytbdamnfkgdbidaa
namespace Go.Proofs.Ytbdamnfkgdbidaa
open Go Go.Vc Txt
def rawT : List Ty := [.i .u8, .i .u8, .sl 6 [.i .u8, .i .u8, .i .u8, .i .u8, .i .u8, .i .u8]]
def gridT : List Ty := [.i .u8, .i .u8, .i .u8, .i .u8, .sl 1 [.i .u8]]
def oddT : List Ty := [.sl 1 [.i .u8], .sl 1 [.i .u8], .sl 1 [.i .u8], .sl 1 [.i .i64], .sl 1 [.i .i64], .i .i64, .i .i64, .i .i64]
theorem rowV_nil {a : List PV} (h : RowV [] a) : a = [] := List.length_eq_zero_iff.1 h.1
theorem rowV_cons {t : Ty} {ts : List Ty} {a : List PV} (h : RowV (t :: ts) a) : ∃ c r, a = c :: r ∧ CellV t c ∧ RowV ts r := by
  obtain ⟨h1, h2⟩ := h
  cases a with
  | nil => cases h1
  | cons c r => exact ⟨c, r, rfl, h2 0 t c rfl rfl, by simpa using h1, fun j t' c' ht hc => h2 (j + 1) t' c' ht hc⟩
theorem cellV_i {k : IntKind} {c : PV} (h : CellV (.i k) c) : ∃ n : Int, c = .sc (.int k n) ∧ k.min ≤ n ∧ n ≤ k.max := by
  cases h with | i k n h1 h2 => exact ⟨n, rfl, h1, h2⟩
theorem cellV_u8 {c : PV} (h : CellV (.i .u8) c) : ∃ n : Int, c = .sc (.int .u8 n) ∧ 0 ≤ n ∧ n ≤ 255 := by
  obtain ⟨n, h1, h2, h3⟩ := cellV_i h
  exact ⟨n, h1, h2, h3⟩
theorem cellV_i64 {c : PV} (h : CellV (.i .i64) c) : ∃ n : Int, c = .int n ∧ -9223372036854775808 ≤ n ∧ n ≤ 9223372036854775807 := by
  obtain ⟨n, h1, h2, h3⟩ := cellV_i h
  exact ⟨n, h1, h2, h3⟩
theorem cellV_sl {es : Nat} {ts : List Ty} {c : PV} (h : CellV (.sl es ts) c) : ∃ rs : List (List PV), c = .sl true es rs ∧ rs.length ≤ maxLen ∧ ∀ r ∈ rs, RowV ts r := by
  cases h with | sl es ts rs h1 h2 h3 => exact ⟨rs, rfl, h1, fun r hr => ⟨h2 r hr, h3 r hr⟩⟩
theorem rows_all {α : Type} {f : α → List PV} {Q : α → Prop} : ∀ {rs : List (List PV)}, (∀ r ∈ rs, ∃ x, r = f x ∧ Q x) → ∃ l : List α, rs = rows f l ∧ ∀ x ∈ l, Q x
  | [], _ => ⟨[], rfl, fun x hx => by cases hx⟩
  | r :: rs, h => by
    obtain ⟨x, rfl, hx⟩ := h r (by simp)
    obtain ⟨l, rfl, hl⟩ := rows_all (f := f) (Q := Q) (rs := rs) fun r hr => h r (by simp [hr])
    refine ⟨x :: l, rfl, fun y hy => ?_⟩
    rcases List.mem_cons.1 hy with rfl | hy
    · exact hx
    · exact hl y hy
theorem cellV_bytes {c : PV} (h : CellV (.sl 1 [.i .u8]) c) : ∃ l : List Int, c = .sl true 1 (bytes8 l) ∧ ∀ b ∈ l, 0 ≤ b ∧ b ≤ 255 := by
  obtain ⟨rs, rfl, _, h2⟩ := cellV_sl h
  obtain ⟨l, rfl, hl⟩ := rows_all (f := fun x : Int => [PV.sc (.int .u8 x)]) (Q := fun b => 0 ≤ b ∧ b ≤ 255) (rs := rs) fun r hr => by
    obtain ⟨c, q, rfl, hc, h3⟩ := rowV_cons (h2 r hr)
    obtain ⟨n, rfl, hn⟩ := cellV_u8 hc
    rw [rowV_nil h3]
    exact ⟨n, rfl, hn⟩
  exact ⟨l, rfl, hl⟩
theorem cellV_ints {c : PV} (h : CellV (.sl 1 [.i .i64]) c) : ∃ l : List Int, c = .sl true 1 (ints l) ∧ ∀ b ∈ l, -9223372036854775808 ≤ b ∧ b ≤ 9223372036854775807 := by
  obtain ⟨rs, rfl, _, h2⟩ := cellV_sl h
  obtain ⟨l, rfl, hl⟩ := rows_all (f := fun x : Int => [PV.int x]) (Q := fun b => -9223372036854775808 ≤ b ∧ b ≤ 9223372036854775807) (rs := rs) fun r hr => by
    obtain ⟨c, q, rfl, hc, h3⟩ := rowV_cons (h2 r hr)
    obtain ⟨n, rfl, hn⟩ := cellV_i64 hc
    rw [rowV_nil h3]
    exact ⟨n, rfl, hn⟩
  exact ⟨l, rfl, hl⟩
theorem rowV_bytes : ∀ {n : Nat} {a : List PV}, RowV (List.replicate n (.i .u8)) a → ∃ l : List Int, a = bytesC l ∧ l.length = n ∧ ∀ b ∈ l, 0 ≤ b ∧ b ≤ 255
  | 0, a, h => ⟨[], by rw [rowV_nil h]; rfl, rfl, fun b hb => by cases hb⟩
  | n + 1, a, h => by
    obtain ⟨c, q, rfl, hc, h3⟩ := rowV_cons h
    obtain ⟨x, rfl, hx⟩ := cellV_u8 hc
    obtain ⟨l, rfl, h1, h2⟩ := rowV_bytes (n := n) h3
    refine ⟨x :: l, rfl, by simp [h1], fun y hy => ?_⟩
    rcases List.mem_cons.1 hy with rfl | hy
    · exact hx
    · exact h2 y hy
theorem rawP_of {a : List PV} (h : RowV rawT a) : ∃ x : RawP, x.By ∧ a = rawPC true x := by
  obtain ⟨c0, a0, rfl, h0, k0⟩ := rowV_cons h
  obtain ⟨c1, a1, rfl, h1, k1⟩ := rowV_cons k0
  obtain ⟨c2, a2, rfl, h2, k2⟩ := rowV_cons k1
  obtain ⟨n0, rfl, b0⟩ := cellV_u8 h0
  obtain ⟨n1, rfl, b1⟩ := cellV_u8 h1
  obtain ⟨rs, rfl, _, h3⟩ := cellV_sl h2
  obtain ⟨l, rfl, hl⟩ := rows_all (f := bytesC) (Q := fun b => b.length = 6 ∧ ∀ v ∈ b, 0 ≤ v ∧ v ≤ 255) (rs := rs) fun r hr => by
    obtain ⟨l, h4, h5⟩ := rowV_bytes (n := 6) (h3 r hr)
    exact ⟨l, h4, h5⟩
  rw [rowV_nil k2]
  exact ⟨⟨n0, n1, l⟩, ⟨b0, b1, fun b hb => (hl b hb).1, fun b hb => (hl b hb).2⟩, rfl⟩
theorem rawG_of {a : List PV} (h : RowV gridT a) : ∃ x : RawG, x.By ∧ a = rawGC true x := by
  obtain ⟨c0, a0, rfl, h0, k0⟩ := rowV_cons h
  obtain ⟨c1, a1, rfl, h1, k1⟩ := rowV_cons k0
  obtain ⟨c2, a2, rfl, h2, k2⟩ := rowV_cons k1
  obtain ⟨c3, a3, rfl, h3, k3⟩ := rowV_cons k2
  obtain ⟨c4, a4, rfl, h4, k4⟩ := rowV_cons k3
  obtain ⟨n0, rfl, b0⟩ := cellV_u8 h0
  obtain ⟨n1, rfl, b1⟩ := cellV_u8 h1
  obtain ⟨n2, rfl, b2⟩ := cellV_u8 h2
  obtain ⟨n3, rfl, b3⟩ := cellV_u8 h3
  obtain ⟨l, rfl, hl⟩ := cellV_bytes h4
  rw [rowV_nil k4]
  exact ⟨⟨n0, n1, n2, n3, l⟩, ⟨b0, b1, b2, b3, hl⟩, rfl⟩
theorem odd_of {a : List PV} (h : RowV oddT a) : ∃ x : Odd, x.By ∧ a = oddC true x := by
  obtain ⟨c0, a0, rfl, h0, k0⟩ := rowV_cons h
  obtain ⟨c1, a1, rfl, h1, k1⟩ := rowV_cons k0
  obtain ⟨c2, a2, rfl, h2, k2⟩ := rowV_cons k1
  obtain ⟨c3, a3, rfl, h3, k3⟩ := rowV_cons k2
  obtain ⟨c4, a4, rfl, h4, k4⟩ := rowV_cons k3
  obtain ⟨c5, a5, rfl, h5, k5⟩ := rowV_cons k4
  obtain ⟨c6, a6, rfl, h6, k6⟩ := rowV_cons k5
  obtain ⟨c7, a7, rfl, h7, k7⟩ := rowV_cons k6
  obtain ⟨l0, rfl, b0⟩ := cellV_bytes h0
  obtain ⟨l1, rfl, b1⟩ := cellV_bytes h1
  obtain ⟨l2, rfl, b2⟩ := cellV_bytes h2
  obtain ⟨l3, rfl, b3⟩ := cellV_ints h3
  obtain ⟨l4, rfl, b4⟩ := cellV_ints h4
  obtain ⟨n5, rfl, b5⟩ := cellV_i64 h5
  obtain ⟨n6, rfl, b6⟩ := cellV_i64 h6
  obtain ⟨n7, rfl, b7⟩ := cellV_i64 h7
  rw [rowV_nil k7]
  exact ⟨⟨l0, l1, l2, l3, l4, n5, n6, n7⟩, ⟨b0, b1, b2, b3, b4, b5, b6, b7⟩, rfl⟩
theorem law_true {f : Nat} (hok : ∀ (x : RawP), x.By → ∀ (y : RawG), y.By → ∀ (z : Odd), z.By → FnEq Try.prog f [.agg (rawPC false x), .agg (rawGC false y), .agg (oddC false z)] (.bool true))
    {a b c : List PV} (ha : RowV rawT a) (hb : RowV gridT b) (hc : RowV oddT c) : FnEq Try.prog f [.agg a, .agg b, .agg c] (.bool true) := by
  obtain ⟨x, hx, rfl⟩ := rawP_of ha
  obtain ⟨y, hy, rfl⟩ := rawG_of hb
  obtain ⟨z, hz, rfl⟩ := odd_of hc
  refine FnOK.sub (hok x hx y hy z hz) ⟨Sub.aggL ?_, Sub.aggL ?_, Sub.aggL ?_, trivial⟩
  · exact ⟨.refl _, .refl _, .slp _ _ _ _ (fun h => by cases h), trivial⟩
  · exact ⟨.refl _, .refl _, .refl _, .refl _, .slp _ _ _ _ (fun h => by cases h), trivial⟩
  · exact ⟨.slp _ _ _ _ (fun h => by cases h), .slp _ _ _ _ (fun h => by cases h), .slp _ _ _ _ (fun h => by cases h), .slp _ _ _ _ (fun h => by cases h), .slp _ _ _ _ (fun h => by cases h), .refl _, .refl _, .refl _, trivial⟩
end Go.Proofs.Ytbdamnfkgdbidaa
namespace Go.Proofs.Ytbdamnfkgdbidaa
open Go Go.Vc Txt
theorem rcheck_ok (j : Job) (hj : j.Ok) (at_ : List Int) (hl : (at_.length : Int) ≤ 1000000) : FnEq Try.prog 16 [.agg (jobC false j), .sl false 1 (ints at_)] (.int (checkF j at_)) := by
  refine FnEq.of_awp Try.func16 ok16 (by show 2 ≤ _; decide) (by simp only [push_cast, reduceIte, Nat.reduceEqDiff, Nat.reduceAdd, Nat.reduceSub, Nat.reduceMul, Nat.reduceBEq, Nat.reduceLT, Nat.reduceLeDiff, reduceCtorEq, Int.reduceToNat, Int.reduceNeg] <;> first | exact fun _ _ => trivial | simp) ?_
  simp only [ac16, rv16, push_cast, reduceIte, Nat.reduceEqDiff, Nat.reduceAdd, Nat.reduceSub, Nat.reduceMul, Nat.reduceBEq, Nat.reduceLT, Nat.reduceLeDiff, reduceCtorEq, Int.reduceToNat, Int.reduceNeg]
  have hi := hj.ins
  have ho := hj.outs
  have hnb := hj.nb
  refine cal_sub (fits_ok j (by omega) (by omega)) (by simp only [push_cast, reduceIte, Nat.reduceEqDiff, Nat.reduceAdd, Nat.reduceSub, Nat.reduceMul, Nat.reduceBEq, Nat.reduceLT, Nat.reduceLeDiff, reduceCtorEq, Int.reduceToNat, Int.reduceNeg]) ?_
  simp only [push_cast, reduceIte, Nat.reduceEqDiff, Nat.reduceAdd, Nat.reduceSub, Nat.reduceMul, Nat.reduceBEq, Nat.reduceLT, Nat.reduceLeDiff, reduceCtorEq, Int.reduceToNat, Int.reduceNeg]
  refine cut_of ⟨[(1, .sl false 1 (ints at_)), (2, .ptr 2 0), (14, .bool (decide ¬ (Fits j ∧ IsPl j at_)))], [(2, jobC false j)], [], []⟩ ?_ ?_
  · refine grd_bf rfl (fun h1 => ?_) fun h1 => ?_ <;> simp only [push_cast, reduceIte, Nat.reduceEqDiff, Nat.reduceAdd, Nat.reduceSub, Nat.reduceMul, Nat.reduceBEq, Nat.reduceLT, Nat.reduceLeDiff, reduceCtorEq, Int.reduceToNat, Int.reduceNeg]
    · have : ¬ Fits j := by
        intro hh
        unfold Fits at hh
        simp [hh] at h1
      simp [this]
    · have h1 : Fits j := by unfold Fits; simpa using h1
      refine cal_sub (is_ok j at_ hl (by omega) hj.wh) (by simp only [push_cast, reduceIte, Nat.reduceEqDiff, Nat.reduceAdd, Nat.reduceSub, Nat.reduceMul, Nat.reduceBEq, Nat.reduceLT, Nat.reduceLeDiff, reduceCtorEq, Int.reduceToNat, Int.reduceNeg]) ?_
      simp only [push_cast, reduceIte, Nat.reduceEqDiff, Nat.reduceAdd, Nat.reduceSub, Nat.reduceMul, Nat.reduceBEq, Nat.reduceLT, Nat.reduceLeDiff, reduceCtorEq, Int.reduceToNat, Int.reduceNeg]
      simp [h1, IsPl]
  simp only [push_cast, reduceIte, Nat.reduceEqDiff, Nat.reduceAdd, Nat.reduceSub, Nat.reduceMul, Nat.reduceBEq, Nat.reduceLT, Nat.reduceLeDiff, reduceCtorEq, Int.reduceToNat, Int.reduceNeg]
  refine cond_dec (fun h => ?_) fun h => ?_
  · rw [checkF, if_neg fun hh => h ⟨hh.1, hh.2.1⟩]
  have h := Classical.not_not.1 h
  refine loop_of (fun m st => ∃ k : Nat, k ≤ at_.length ∧ m = at_.length - k ∧ (∀ i : Nat, i < k → suitsR j i (at_.getD i default) = true) ∧
    st = ⟨[(1, .sl false 1 (ints at_)), (2, .ptr 2 0), (5, .int k)], [(2, jobC false j)], [], []⟩) at_.length ?_ ?_
  · refine ⟨0, by omega, by omega, fun i hi => by omega, ?_⟩
    simp only [push_cast, reduceIte, Nat.reduceEqDiff, Nat.reduceAdd, Nat.reduceSub, Nat.reduceMul, Nat.reduceBEq, Nat.reduceLT, Nat.reduceLeDiff, reduceCtorEq, Int.reduceToNat, Int.reduceNeg]
  · rintro m st ⟨k, hk, rfl, h1, rfl⟩
    simp only [push_cast, reduceIte, Nat.reduceEqDiff, Nat.reduceAdd, Nat.reduceSub, Nat.reduceMul, Nat.reduceBEq, Nat.reduceLT, Nat.reduceLeDiff, reduceCtorEq, Int.reduceToNat, Int.reduceNeg]
    refine cond_dec (fun h2 => ?_) fun h2 => ?_
    · refine ⟨⟨by omega, by omega⟩, by omega, ?_⟩
      refine cal_sub (suits_ok j hj k (at_.getD k default)) (by simp only [push_cast, reduceIte, Nat.reduceEqDiff, Nat.reduceAdd, Nat.reduceSub, Nat.reduceMul, Nat.reduceBEq, Nat.reduceLT, Nat.reduceLeDiff, reduceCtorEq, Int.reduceToNat, Int.reduceNeg]) ?_
      simp only [push_cast, reduceIte, Nat.reduceEqDiff, Nat.reduceAdd, Nat.reduceSub, Nat.reduceMul, Nat.reduceBEq, Nat.reduceLT, Nat.reduceLeDiff, reduceCtorEq, Int.reduceToNat, Int.reduceNeg]
      refine cond_of (fun h3 => ?_) fun h3 => ?_
      · rw [checkF, if_neg]
        rintro ⟨_, _, h4⟩
        rw [List.all_eq_true] at h4
        have h5 := h4 k (List.mem_range.2 (by omega))
        rw [h5] at h3; cases h3
      · have h3 : suitsR j k (at_.getD k default) = true := by simpa using h3
        refine ⟨⟨by omega, by omega⟩, _, ?_, k + 1, by omega, rfl, fun i hi => ?_, ?_⟩
        · omega
        · by_cases e : i = k
          · subst e; exact h3
          · exact h1 i (by omega)
        · simp
    · rw [checkF, if_pos ⟨h.1, h.2, by rw [List.all_eq_true]; intro k hk; exact h1 k (by have := List.mem_range.1 hk; omega)⟩]
def freeF (j : Job) (at_ : List Int) (b : Int) : Int := fidx (fun t => suitsR j b t && decide (t ∉ at_)) ((List.range (j.g.w * j.g.h).toNat).map Int.ofNat)
theorem free_ok (j : Job) (hj : j.Ok) (at_ : List Int) (b : Int) (hl : (at_.length : Int) ≤ 1000000) : FnEq Try.prog 47 [.agg (jobC false j), .sl false 1 (ints at_), .int b] (.int (freeF j at_ b)) := by
  refine FnEq.of_awp Try.func47 ok47 (by show 3 ≤ _; decide) (by simp only [push_cast, reduceIte, Nat.reduceEqDiff, Nat.reduceAdd, Nat.reduceSub, Nat.reduceMul, Nat.reduceBEq, Nat.reduceLT, Nat.reduceLeDiff, reduceCtorEq, Int.reduceToNat, Int.reduceNeg] <;> first | exact fun _ _ => trivial | simp) ?_
  simp only [ac47, rv47, push_cast, reduceIte, Nat.reduceEqDiff, Nat.reduceAdd, Nat.reduceSub, Nat.reduceMul, Nat.reduceBEq, Nat.reduceLT, Nat.reduceLeDiff, reduceCtorEq, Int.reduceToNat, Int.reduceNeg]
  have hwh := hj.wh
  have hL : ∀ k : Nat, (k : Int) < j.g.w * j.g.h → ∃ h : k < ((List.range (j.g.w * j.g.h).toNat).map Int.ofNat).length, ((List.range (j.g.w * j.g.h).toNat).map Int.ofNat)[k] = (k : Int) := fun k hk => ⟨by simp; omega, by simp⟩
  have hLl : ((List.range (j.g.w * j.g.h).toNat).map Int.ofNat).length = (j.g.w * j.g.h).toNat := by simp
  unfold freeF
  generalize (List.range (j.g.w * j.g.h).toNat).map Int.ofNat = l at hL hLl ⊢
  refine loop_of (fun m st => ∃ k : Nat, k ≤ (j.g.w * j.g.h).toNat ∧ m = (j.g.w * j.g.h).toNat - k ∧ (∀ x ∈ l.take k, (suitsR j b x && decide (x ∉ at_)) = false) ∧
    st = ⟨[(1, .sl false 1 (ints at_)), (2, .int b), (3, .ptr 3 0), (7, .int k)], [(3, jobC false j)], [], []⟩) (j.g.w * j.g.h).toNat ?_ ?_
  · refine ⟨0, by omega, by omega, by simp, ?_⟩
    simp only [push_cast, reduceIte, Nat.reduceEqDiff, Nat.reduceAdd, Nat.reduceSub, Nat.reduceMul, Nat.reduceBEq, Nat.reduceLT, Nat.reduceLeDiff, reduceCtorEq, Int.reduceToNat, Int.reduceNeg]
  · rintro m st ⟨k, hk, rfl, h1, rfl⟩
    simp only [push_cast, reduceIte, Nat.reduceEqDiff, Nat.reduceAdd, Nat.reduceSub, Nat.reduceMul, Nat.reduceBEq, Nat.reduceLT, Nat.reduceLeDiff, reduceCtorEq, Int.reduceToNat, Int.reduceNeg]
    refine ⟨⟨by omega, by omega⟩, cond_dec (fun h2 => ?_) fun h2 => ?_⟩
    · obtain ⟨hk', e⟩ := hL k h2
      refine cal_sub (suits_ok j hj b k) (by simp only [push_cast, reduceIte, Nat.reduceEqDiff, Nat.reduceAdd, Nat.reduceSub, Nat.reduceMul, Nat.reduceBEq, Nat.reduceLT, Nat.reduceLeDiff, reduceCtorEq, Int.reduceToNat, Int.reduceNeg]) ?_
      simp only [push_cast, reduceIte, Nat.reduceEqDiff, Nat.reduceAdd, Nat.reduceSub, Nat.reduceMul, Nat.reduceBEq, Nat.reduceLT, Nat.reduceLeDiff, reduceCtorEq, Int.reduceToNat, Int.reduceNeg]
      refine cut_of ⟨[(1, .sl false 1 (ints at_)), (2, .int b), (3, .ptr 3 0), (7, .int k), (28, .bool (suitsR j b k && decide ((k : Int) ∉ at_)))], [(3, jobC false j)], [], []⟩ ?_ ?_
      · refine grd_b rfl (fun h3 => ?_) fun h3 => ?_ <;> simp only [push_cast, reduceIte, Nat.reduceEqDiff, Nat.reduceAdd, Nat.reduceSub, Nat.reduceMul, Nat.reduceBEq, Nat.reduceLT, Nat.reduceLeDiff, reduceCtorEq, Int.reduceToNat, Int.reduceNeg]
        · refine cal_sub (in_ok at_ k (by omega)) (by simp only [push_cast, reduceIte, Nat.reduceEqDiff, Nat.reduceAdd, Nat.reduceSub, Nat.reduceMul, Nat.reduceBEq, Nat.reduceLT, Nat.reduceLeDiff, reduceCtorEq, Int.reduceToNat, Int.reduceNeg]) ?_
          simp only [push_cast, reduceIte, Nat.reduceEqDiff, Nat.reduceAdd, Nat.reduceSub, Nat.reduceMul, Nat.reduceBEq, Nat.reduceLT, Nat.reduceLeDiff, reduceCtorEq, Int.reduceToNat, Int.reduceNeg]
          simp [h3]
        · simp [h3]
      simp only [push_cast, reduceIte, Nat.reduceEqDiff, Nat.reduceAdd, Nat.reduceSub, Nat.reduceMul, Nat.reduceBEq, Nat.reduceLT, Nat.reduceLeDiff, reduceCtorEq, Int.reduceToNat, Int.reduceNeg]
      refine cond_of (fun h3 => ?_) fun h3 => ?_
      · rw [fidx_some hk' h1 (by rw [e]; exact h3)]
      · refine ⟨⟨by omega, by omega⟩, _, ?_, k + 1, by omega, rfl, fun x hx => ?_, ?_⟩
        · omega
        · rw [List.take_succ_eq_append_getElem hk', List.mem_append, List.mem_singleton] at hx
          rcases hx with hx | rfl
          · exact h1 x hx
          · rw [e]; exact h3
        · simp
    · rw [List.take_of_length_le (by omega)] at h1
      rw [fidx_none h1]
theorem pre_len (f : Int → Int) (l : List Int) (k : Nat) (hk : k ≤ l.length) : ((l.take k).map f ++ l.drop k).length = l.length := by simp; omega
theorem pre_get (f : Int → Int) (l : List Int) {k : Nat} (hk : k < l.length) : ((l.take k).map f ++ l.drop k).getD k default = l[k] := by
  rw [List.drop_eq_getElem_cons hk, List.getD_eq_getElem?_getD, List.getElem?_append_right (by simp; omega)]
  have : k - ((l.take k).map f).length = 0 := by simp; omega
  rw [this]; rfl
theorem pre_succ (f : Int → Int) (l : List Int) {k : Nat} (hk : k < l.length) : (l.take (k + 1)).map f ++ l.drop (k + 1) = ((l.take k).map f ++ l.drop k).set k (f l[k]) := by
  rw [List.drop_eq_getElem_cons hk, List.take_succ_eq_append_getElem hk, List.map_append, List.append_assoc, List.set_append_right _ _ (by simp; omega)]
  have : k - ((l.take k).map f).length = 0 := by simp; omega
  rw [this]; rfl
theorem pre_same (f : Int → Int) (l : List Int) {k : Nat} (hk : k < l.length) (h : f l[k] = l[k]) : (l.take (k + 1)).map f ++ l.drop (k + 1) = (l.take k).map f ++ l.drop k := by
  rw [List.drop_eq_getElem_cons hk, List.take_succ_eq_append_getElem hk, List.map_append, List.append_assoc]
  simp [h]
def exchangedF (at_ : List Int) (b t : Int) : List Int := (at_.map fun x => if x = t then at_.getD b.toNat default else x).set b.toNat t
theorem exchanged_ok (at_ : List Int) (b t : Int) (hl : (at_.length : Int) ≤ 1000000) (hb : 0 ≤ b ∧ b < at_.length) : FnEq Try.prog 28 [.sl false 1 (ints at_), .int b, .int t] (.sl true 1 (ints (exchangedF at_ b t))) := by
  refine FnEq.of_awp Try.func28 ok28 (by show 3 ≤ _; decide) (by simp only [push_cast, reduceIte, Nat.reduceEqDiff, Nat.reduceAdd, Nat.reduceSub, Nat.reduceMul, Nat.reduceBEq, Nat.reduceLT, Nat.reduceLeDiff, reduceCtorEq, Int.reduceToNat, Int.reduceNeg] <;> first | exact fun _ _ => trivial | simp) ?_
  simp only [ac28, rv28, push_cast, reduceIte, Nat.reduceEqDiff, Nat.reduceAdd, Nat.reduceSub, Nat.reduceMul, Nat.reduceBEq, Nat.reduceLT, Nat.reduceLeDiff, reduceCtorEq, Int.reduceToNat, Int.reduceNeg]
  refine ⟨⟨by simp; omega, by simp; omega⟩, ?_⟩
  refine loop_of (fun m st => ∃ k : Nat, k ≤ at_.length ∧ m = at_.length - k ∧
    st = ⟨[(0, .sl false 1 (ints at_)), (1, .int b), (2, .int t), (7, .view 9 0 at_.length), (8, .int k)], [], [(9, ⟨1, 3, ints ((at_.take k).map (fun x => if x = t then at_.getD b.toNat default else x) ++ at_.drop k)⟩)], []⟩) at_.length ?_ ?_
  · refine ⟨0, by omega, by omega, ?_⟩
    simp only [push_cast, reduceIte, Nat.reduceEqDiff, Nat.reduceAdd, Nat.reduceSub, Nat.reduceMul, Nat.reduceBEq, Nat.reduceLT, Nat.reduceLeDiff, reduceCtorEq, Int.reduceToNat, Int.reduceNeg]
    simp
  · rintro m st ⟨k, hk, rfl, rfl⟩
    simp only [push_cast, reduceIte, Nat.reduceEqDiff, Nat.reduceAdd, Nat.reduceSub, Nat.reduceMul, Nat.reduceBEq, Nat.reduceLT, Nat.reduceLeDiff, reduceCtorEq, Int.reduceToNat, Int.reduceNeg]
    generalize hf : (fun x => if x = t then at_.getD b.toNat default else x) = f
    have hpl := pre_len f at_ k hk
    refine cond_dec (fun h2 => ?_) fun h2 => ?_
    · have hk' : k < at_.length := by omega
      rw [pre_get f at_ hk', hpl]
      refine ⟨⟨by omega, by omega⟩, hk', cond_dec (fun h3 => ?_) fun h3 => ?_⟩
      · have e : f at_[k] = at_.getD b.toNat default := by rw [← hf]; simp only; rw [if_pos h3]
        refine ⟨⟨by omega, by omega⟩, by omega, ⟨by omega, by omega⟩, hk', ⟨by omega, by omega⟩, _, ?_, k + 1, by omega, rfl, ?_⟩
        · omega
        · rw [pre_succ f at_ hk', e]; simp
      · have e : f at_[k] = at_[k] := by rw [← hf]; simp only; rw [if_neg h3]
        refine ⟨⟨by omega, by omega⟩, _, ?_, k + 1, by omega, rfl, ?_⟩
        · omega
        · rw [pre_same f at_ hk' e]; simp
    · have hkk : k = at_.length := by omega
      rw [hpl]
      refine ⟨hb, by omega, fun _ _ => trivial, ?_⟩
      rw [List.take_of_length_le (by rw [List.length_set, hpl]; omega), exchangedF, hf, List.take_of_length_le (by omega), List.drop_of_length_le (by omega), List.append_nil]
      exact .refl _
def allowedF (j : Job) (at_ fx : List Int) (b t : Int) : Bool :=
  if t = at_.getD b.toNat default ∨ b ∈ fx ∨ suitsR j b t = false then false
  else (List.range at_.length).all fun i => !(decide (at_.getD i default = t) && (decide ((i : Int) ∈ fx) || !suitsR j i (at_.getD b.toNat default)))
theorem allowed_ok (j : Job) (hj : j.Ok) (at_ fx : List Int) (b t : Int) (hl : (at_.length : Int) ≤ 1000000) (hfx : (fx.length : Int) ≤ 1000000) (hb : 0 ≤ b ∧ b < at_.length) :
    FnEq Try.prog 27 [.agg (jobC false j), .sl false 1 (ints at_), .sl false 1 (ints fx), .agg [.int b, .int t]] (.bool (allowedF j at_ fx b t)) := by
  refine FnEq.of_awp Try.func27 ok27 (by show 4 ≤ _; decide) (by simp only [push_cast, reduceIte, Nat.reduceEqDiff, Nat.reduceAdd, Nat.reduceSub, Nat.reduceMul, Nat.reduceBEq, Nat.reduceLT, Nat.reduceLeDiff, reduceCtorEq, Int.reduceToNat, Int.reduceNeg] <;> first | exact fun _ _ => trivial | simp) ?_
  simp only [ac27, rv27, push_cast, reduceIte, Nat.reduceEqDiff, Nat.reduceAdd, Nat.reduceSub, Nat.reduceMul, Nat.reduceBEq, Nat.reduceLT, Nat.reduceLeDiff, reduceCtorEq, Int.reduceToNat, Int.reduceNeg]
  have hb2 : b.toNat < at_.length := by omega
  unfold allowedF
  generalize hfr : at_.getD b.toNat default = fr
  refine ⟨⟨by omega, by omega⟩, ⟨by omega, by omega⟩, hb, hb2, ?_⟩
  refine cut_of ⟨[(1, .sl false 1 (ints at_)), (2, .sl false 1 (ints fx)), (4, .ptr 4 0), (9, .int b), (10, .int t), (33, .bool (decide (t = fr ∨ b ∈ fx ∨ suitsR j b t = false)))], [(4, jobC false j), (7, [.int b, .int t])], [], []⟩ ?_ ?_
  · refine grd_decf rfl (fun h1 => ?_) fun h1 => ?_ <;> simp only [push_cast, reduceIte, Nat.reduceEqDiff, Nat.reduceAdd, Nat.reduceSub, Nat.reduceMul, Nat.reduceBEq, Nat.reduceLT, Nat.reduceLeDiff, reduceCtorEq, Int.reduceToNat, Int.reduceNeg]
    · simp [h1]
    refine cal_sub (in_ok fx b (by omega)) (by simp only [push_cast, reduceIte, Nat.reduceEqDiff, Nat.reduceAdd, Nat.reduceSub, Nat.reduceMul, Nat.reduceBEq, Nat.reduceLT, Nat.reduceLeDiff, reduceCtorEq, Int.reduceToNat, Int.reduceNeg]) ?_
    simp only [push_cast, reduceIte, Nat.reduceEqDiff, Nat.reduceAdd, Nat.reduceSub, Nat.reduceMul, Nat.reduceBEq, Nat.reduceLT, Nat.reduceLeDiff, reduceCtorEq, Int.reduceToNat, Int.reduceNeg]
    refine grd_decf rfl (fun h2 => ?_) fun h2 => ?_ <;> simp only [push_cast, reduceIte, Nat.reduceEqDiff, Nat.reduceAdd, Nat.reduceSub, Nat.reduceMul, Nat.reduceBEq, Nat.reduceLT, Nat.reduceLeDiff, reduceCtorEq, Int.reduceToNat, Int.reduceNeg]
    · simp [h2]
    refine cal_sub (suits_ok j hj b t) (by simp only [push_cast, reduceIte, Nat.reduceEqDiff, Nat.reduceAdd, Nat.reduceSub, Nat.reduceMul, Nat.reduceBEq, Nat.reduceLT, Nat.reduceLeDiff, reduceCtorEq, Int.reduceToNat, Int.reduceNeg]) ?_
    simp only [push_cast, reduceIte, Nat.reduceEqDiff, Nat.reduceAdd, Nat.reduceSub, Nat.reduceMul, Nat.reduceBEq, Nat.reduceLT, Nat.reduceLeDiff, reduceCtorEq, Int.reduceToNat, Int.reduceNeg]
    simp [h1, h2]
  simp only [push_cast, reduceIte, Nat.reduceEqDiff, Nat.reduceAdd, Nat.reduceSub, Nat.reduceMul, Nat.reduceBEq, Nat.reduceLT, Nat.reduceLeDiff, reduceCtorEq, Int.reduceToNat, Int.reduceNeg]
  refine cond_dec (fun h => ?_) fun h => ?_
  · rw [if_pos h]
  rw [if_neg h]
  refine loop_of (fun m st => ∃ k : Nat, k ≤ at_.length ∧ m = at_.length - k ∧ (∀ i : Nat, i < k → (decide (at_.getD i default = t) && (decide ((i : Int) ∈ fx) || !suitsR j i fr)) = false) ∧
    st = ⟨[(1, .sl false 1 (ints at_)), (2, .sl false 1 (ints fx)), (4, .ptr 4 0), (9, .int b), (10, .int t), (11, .int k)], [(4, jobC false j)], [], []⟩) at_.length ?_ ?_
  · refine ⟨0, by omega, by omega, fun i hi => by omega, ?_⟩
    simp only [push_cast, reduceIte, Nat.reduceEqDiff, Nat.reduceAdd, Nat.reduceSub, Nat.reduceMul, Nat.reduceBEq, Nat.reduceLT, Nat.reduceLeDiff, reduceCtorEq, Int.reduceToNat, Int.reduceNeg]
  · rintro m st ⟨k, hk, rfl, h1, rfl⟩
    simp only [push_cast, reduceIte, Nat.reduceEqDiff, Nat.reduceAdd, Nat.reduceSub, Nat.reduceMul, Nat.reduceBEq, Nat.reduceLT, Nat.reduceLeDiff, reduceCtorEq, Int.reduceToNat, Int.reduceNeg]
    refine cond_dec (fun h2 => ?_) fun h2 => ?_
    · have hk' : k < at_.length := by omega
      refine ⟨⟨by omega, by omega⟩, hk', ?_⟩
      refine dcut_of ⟨[(1, .sl false 1 (ints at_)), (2, .sl false 1 (ints fx)), (4, .ptr 4 0), (9, .int b), (10, .int t), (11, .int k), (60, .bool (decide (at_.getD k default = t) && (decide ((k : Int) ∈ fx) || !suitsR j k fr)))], [(4, jobC false j)], [], []⟩ ?_ ?_
      · refine dgrd_dec rfl (fun h3 => ?_) fun h3 => ?_ <;> simp only [push_cast, reduceIte, Nat.reduceEqDiff, Nat.reduceAdd, Nat.reduceSub, Nat.reduceMul, Nat.reduceBEq, Nat.reduceLT, Nat.reduceLeDiff, reduceCtorEq, Int.reduceToNat, Int.reduceNeg]
        · refine cal_sub (in_ok fx k (by omega)) (by simp only [push_cast, reduceIte, Nat.reduceEqDiff, Nat.reduceAdd, Nat.reduceSub, Nat.reduceMul, Nat.reduceBEq, Nat.reduceLT, Nat.reduceLeDiff, reduceCtorEq, Int.reduceToNat, Int.reduceNeg]) ?_
          simp only [push_cast, reduceIte, Nat.reduceEqDiff, Nat.reduceAdd, Nat.reduceSub, Nat.reduceMul, Nat.reduceBEq, Nat.reduceLT, Nat.reduceLeDiff, reduceCtorEq, Int.reduceToNat, Int.reduceNeg]
          refine dgrd_decf rfl (fun h4 => ?_) fun h4 => ?_ <;> simp only [push_cast, reduceIte, Nat.reduceEqDiff, Nat.reduceAdd, Nat.reduceSub, Nat.reduceMul, Nat.reduceBEq, Nat.reduceLT, Nat.reduceLeDiff, reduceCtorEq, Int.reduceToNat, Int.reduceNeg]
          · rw [decide_eq_true h3]; simp [h4]
          · refine ⟨hb, hb2, ?_⟩
            rw [hfr]
            refine cal_sub (suits_ok j hj k fr) (by simp only [push_cast, reduceIte, Nat.reduceEqDiff, Nat.reduceAdd, Nat.reduceSub, Nat.reduceMul, Nat.reduceBEq, Nat.reduceLT, Nat.reduceLeDiff, reduceCtorEq, Int.reduceToNat, Int.reduceNeg]) ?_
            simp only [push_cast, reduceIte, Nat.reduceEqDiff, Nat.reduceAdd, Nat.reduceSub, Nat.reduceMul, Nat.reduceBEq, Nat.reduceLT, Nat.reduceLeDiff, reduceCtorEq, Int.reduceToNat, Int.reduceNeg]
            rw [decide_eq_true h3]; simp [h4]
        · rw [decide_eq_false h3]; simp
      simp only [push_cast, reduceIte, Nat.reduceEqDiff, Nat.reduceAdd, Nat.reduceSub, Nat.reduceMul, Nat.reduceBEq, Nat.reduceLT, Nat.reduceLeDiff, reduceCtorEq, Int.reduceToNat, Int.reduceNeg]
      refine cond_of (fun h3 => ?_) fun h3 => ?_
      · have : (List.range at_.length).all (fun i => !(decide (at_.getD i default = t) && (decide ((i : Int) ∈ fx) || !suitsR j i fr))) = false := by
          rw [← Bool.not_eq_true, List.all_eq_true]
          intro hh
          have := hh k (List.mem_range.2 hk')
          rw [h3] at this; cases this
        rw [this]
      · refine ⟨⟨by omega, by omega⟩, _, ?_, k + 1, by omega, rfl, fun i hi => ?_, ?_⟩
        · omega
        · by_cases e : i = k
          · subst e; exact h3
          · exact h1 i (by omega)
        · simp
    · have : (List.range at_.length).all (fun i => !(decide (at_.getD i default = t) && (decide ((i : Int) ∈ fx) || !suitsR j i fr))) = true := by
        rw [List.all_eq_true]; intro i hi; rw [h1 i (by have := List.mem_range.1 hi; omega)]; rfl
      rw [this]
end Go.Proofs.Ytbdamnfkgdbidaa
namespace Go.Proofs.Ytbdamnfkgdbidaa.Txt
open Go Go.Vc
set_option maxRecDepth 100000
def ac14d_r8 : AC :=
 (.seq (.seq (.reg [0, 67, 1, 2, 5, 6, 7] [
 ⟨some 8, none, .mv (.c (.sc (.int .i64 0)))⟩])
 (.block 2
 (.loop [0, 67, 1, 2, 5, 6, 7, 8]
 (.seq (.seq (.reg [0, 67, 1, 2, 5, 6, 7, 8] [
 ⟨some 36, none, .mv (.t 8)⟩, ⟨some 37, none, .fa 4 (.t 2)⟩, ⟨some 38, none, .fa 0 (.t 37)⟩, ⟨some 39, none, .ld false 1 (.t 38)⟩, ⟨some 40, none, .fa 4 (.t 2)⟩, ⟨some 41, none, .fa 1 (.t 40)⟩, ⟨some 42, none, .ld false 1 (.t 41)⟩, ⟨some 43, none, .ari .mul true .i64 (.t 39) (.t 42)⟩, ⟨some 44, none, .cmp .lss .i64 (.t 36) (.t 43)⟩, ⟨some 45, none, .mv (.t 44)⟩, ⟨some 46, some (45, true), .mv (.t 5)⟩, ⟨some 47, some (45, true), .mv (.t 7)⟩, ⟨some 48, some (45, true), .cal 26 [(.t 46), (.t 47)]⟩, ⟨some 49, none, .pick (.t 45) (.t 48) (.c (.sc (.bool false)))⟩])
 (.cut [0, 67, 1, 2, 5, 6, 7, 8, 49] (.cond (.t 49)
 .skip
 (.exit 2))))
 (.seq (.block 3
 (.reg [0, 67, 1, 2, 5, 6, 7, 8] [
 ⟨some 52, none, .mv (.t 7)⟩, ⟨some 53, none, .ari .add true .i64 (.t 52) (.c (.sc (.int .i64 1)))⟩, ⟨some 54, none, .fa 4 (.t 2)⟩, ⟨some 55, none, .fa 0 (.t 54)⟩, ⟨some 56, none, .ld false 1 (.t 55)⟩, ⟨some 57, none, .fa 4 (.t 2)⟩, ⟨some 58, none, .fa 1 (.t 57)⟩, ⟨some 59, none, .ld false 1 (.t 58)⟩, ⟨some 60, none, .ari .mul true .i64 (.t 56) (.t 59)⟩, ⟨some 61, none, .dvd .rem true .i64 (.t 53) (.t 60)⟩, ⟨some 7, none, .mv (.t 61)⟩]))
 (.reg [0, 67, 1, 2, 5, 6, 7, 8] [
 ⟨some 50, none, .mv (.t 8)⟩, ⟨some 51, none, .ari .add true .i64 (.t 50) (.c (.sc (.int .i64 1)))⟩, ⟨some 8, none, .mv (.t 51)⟩]))))))
 (.reg [0, 67, 1, 2, 5, 6, 7] [
 ⟨some 62, none, .mv (.t 5)⟩, ⟨some 63, none, .mv (.t 7)⟩, ⟨some 64, none, .bsl 1 3 [.sc (.int .i64 0)] 1 [(0, (.t 63))]⟩, ⟨some 65, none, .app 1 3 8 (.t 62) (.t 64)⟩, ⟨some 5, none, .mv (.t 65)⟩]))
def ac14d : AC :=
 (.seq (.reg [0, 67, 0, 1] [
 ⟨some 2, none, .box (.t 0)⟩, ⟨some 4, none, .mv (.c (.nil))⟩])
 (.seq (.reg [0, 67, 1, 2] [
 ⟨some 9, none, .bsl 1 3 [.sc (.int .i64 0)] 0 []⟩, ⟨some 5, none, .mv (.t 9)⟩])
 (.seq (.seq (.reg [0, 67, 1, 2, 5] [
 ⟨some 6, none, .mv (.c (.sc (.int .i64 0)))⟩])
 (.block 0
 (.loop [0, 67, 1, 2, 5, 6]
 (.seq (.seq (.reg [0, 67, 1, 2, 5, 6] [
 ⟨some 10, none, .mv (.t 6)⟩, ⟨some 11, none, .fa 0 (.t 2)⟩, ⟨some 12, none, .fa 1 (.t 11)⟩, ⟨some 13, none, .ld false 1 (.t 12)⟩, ⟨some 14, none, .len (.t 13)⟩, ⟨some 15, none, .cmp .lss .i64 (.t 10) (.t 14)⟩])
 (.cond (.t 15)
 .skip
 (.exit 0)))
 (.seq (.block 1
 (.seq (.reg [0, 67, 1, 2, 5, 6] [
 ⟨some 18, none, .mv (.t 6)⟩, ⟨some 7, none, .mv (.t 18)⟩])
 (.seq (.seq (.reg [0, 67, 1, 2, 5, 6, 7] [
 ⟨some 19, none, .mv (.t 6)⟩, ⟨some 20, none, .mv (.t 1)⟩, ⟨some 21, none, .len (.t 20)⟩, ⟨some 22, none, .cmp .lss .i64 (.t 19) (.t 21)⟩])
 (.cond (.t 22)
 (.drw [0, 67, 1, 2, 5, 6] [
 ⟨⟨some 23, none, .mv (.t 1)⟩, [], [], true⟩, ⟨⟨some 24, none, .mv (.t 6)⟩, [], [], true⟩, ⟨⟨some 25, none, .ixs 1 (.t 23) (.t 24)⟩, [], [], true⟩, ⟨⟨some 26, none, .ld false 1 (.t 25)⟩, [], [], true⟩, ⟨⟨some 27, none, .cnv true .i64 (.t 26)⟩, [], [], true⟩, ⟨⟨some 28, none, .fa 4 (.t 2)⟩, [], [], true⟩, ⟨⟨some 29, none, .fa 0 (.t 28)⟩, [], [], true⟩, ⟨⟨some 30, none, .ld false 1 (.t 29)⟩, [], [], true⟩, ⟨⟨some 31, none, .fa 4 (.t 2)⟩, [], [], true⟩, ⟨⟨some 32, none, .fa 1 (.t 31)⟩, [], [], true⟩, ⟨⟨some 33, none, .ld false 1 (.t 32)⟩, [], [], true⟩, ⟨⟨some 34, none, .ari .mul true .i64 (.t 30) (.t 33)⟩, [], [], true⟩, ⟨⟨some 35, none, .dvd .rem true .i64 (.t 27) (.t 34)⟩, [], [], false⟩, ⟨⟨some 7, none, .mv (.t 35)⟩, [], [], false⟩])
 .skip))
 ac14d_r8)))
 (.reg [0, 67, 1, 2, 5, 6] [
 ⟨some 16, none, .mv (.t 6)⟩, ⟨some 17, none, .ari .add true .i64 (.t 16) (.c (.sc (.int .i64 1)))⟩, ⟨some 6, none, .mv (.t 17)⟩]))))))
 (.seq (.reg [0, 67, 5] [
 ⟨some 66, none, .mv (.t 5)⟩, ⟨some 4, none, .mv (.t 66)⟩])
 .ret))))
def rv14d : List RV := [.tmp 4]
theorem ok14d : fnOk Try.prog ac14d rv14d Try.f14 = true := by kernel_rfl

def ac7d_r18 : AC :=
 (.seq (.reg [0, 243, 5, 7, 8, 9, 10, 11] [
 ⟨some 140, none, .bsl 1 3 [.sc (.int .i64 0)] 0 []⟩, ⟨some 141, none, .mv (.t 9)⟩, ⟨some 142, none, .app 1 3 8 (.t 140) (.t 141)⟩, ⟨some 16, none, .mv (.t 142)⟩])
 (.seq (.reg [0, 243, 5, 7, 8, 9, 10, 11, 16] [
 ⟨some 143, none, .mv (.t 16)⟩, ⟨some 144, none, .mv (.t 11)⟩, ⟨some 145, none, .mv (.t 9)⟩, ⟨some 146, none, .mv (.t 11)⟩, ⟨some 147, none, .ari .add true .i64 (.t 146) (.c (.sc (.int .i64 1)))⟩, ⟨some 148, none, .mv (.t 10)⟩, ⟨some 149, none, .dvd .rem true .i64 (.t 147) (.t 148)⟩, ⟨some 150, none, .ixs 1 (.t 145) (.t 149)⟩, ⟨some 151, none, .ld false 1 (.t 150)⟩, ⟨some 152, none, .ixs 1 (.t 143) (.t 144)⟩, ⟨none, none, .sto 1 (.t 152) (.t 151)⟩])
 (.seq (.reg [0, 243, 5, 7, 8, 9, 10, 11, 16] [
 ⟨some 153, none, .bsl 1 3 [.sc (.int .i64 0)] 0 []⟩, ⟨some 154, none, .mv (.t 9)⟩, ⟨some 155, none, .app 1 3 8 (.t 153) (.t 154)⟩, ⟨some 17, none, .mv (.t 155)⟩])
 (.seq (.reg [0, 243, 5, 7, 8, 9, 10, 11, 16, 17] [
 ⟨some 156, none, .mv (.t 17)⟩, ⟨some 157, none, .mv (.t 11)⟩, ⟨some 158, none, .fa 4 (.t 8)⟩, ⟨some 159, none, .fa 0 (.t 158)⟩, ⟨some 160, none, .ld false 1 (.t 159)⟩, ⟨some 161, none, .fa 4 (.t 8)⟩, ⟨some 162, none, .fa 1 (.t 161)⟩, ⟨some 163, none, .ld false 1 (.t 162)⟩, ⟨some 164, none, .ari .mul true .i64 (.t 160) (.t 163)⟩, ⟨some 165, none, .ixs 1 (.t 156) (.t 157)⟩, ⟨none, none, .sto 1 (.t 165) (.t 164)⟩])
 (.seq (.reg [0, 243, 5, 7, 8, 9, 10, 11, 16, 17] [
 ⟨some 166, none, .bsl 1 3 [.sc (.int .i64 0)] 0 []⟩, ⟨some 167, none, .mv (.t 9)⟩, ⟨some 168, none, .app 1 3 8 (.t 166) (.t 167)⟩, ⟨some 18, none, .mv (.t 168)⟩])
 (.seq (.reg [0, 243, 5, 7, 8, 9, 10, 11, 16, 17, 18] [
 ⟨some 169, none, .mv (.t 18)⟩, ⟨some 170, none, .mv (.t 11)⟩, ⟨some 171, none, .fa 1 (.t 5)⟩, ⟨some 172, none, .ld false 1 (.t 171)⟩, ⟨some 173, none, .len (.t 172)⟩, ⟨some 174, none, .ari .sub true .i64 (.c (.sc (.int .i64 (-1)))) (.t 173)⟩, ⟨some 175, none, .ixs 1 (.t 169) (.t 170)⟩, ⟨none, none, .sto 1 (.t 175) (.t 174)⟩])
 (.seq (.reg [0, 243, 7, 8, 9, 10, 16, 17, 18] [
 ⟨some 176, none, .ld true 11 (.t 8)⟩, ⟨some 19, none, .alc [.nil, .nil, .nil, .nil, .sc (.int .i64 0), .sc (.int .i64 0), .sc (.int .i64 0), .sc (.int .i64 0), .nil, .nil, .nil]⟩, ⟨none, none, .sto 11 (.t 19) (.t 176)⟩])
 (.seq (.reg [0, 243, 7, 8, 9, 10, 16, 17, 18, 19] [
 ⟨some 177, none, .fa 0 (.t 8)⟩, ⟨some 178, none, .fa 0 (.t 177)⟩, ⟨some 179, none, .ld false 1 (.t 178)⟩, ⟨some 180, none, .len (.t 179)⟩, ⟨some 181, none, .ari .sub true .i64 (.t 180) (.c (.sc (.int .i64 1)))⟩, ⟨some 182, none, .fa 4 (.t 19)⟩, ⟨some 183, none, .fa 3 (.t 182)⟩, ⟨none, none, .sto 1 (.t 183) (.t 181)⟩])
 (.seq (.seq (.reg [0, 243, 7, 8, 9, 10, 16, 17, 18, 19] [
 ⟨some 184, none, .mv (.t 10)⟩, ⟨some 185, none, .cmp .gtr .i64 (.t 184) (.c (.sc (.int .i64 1)))⟩, ⟨some 186, none, .mv (.t 185)⟩, ⟨some 187, some (186, true), .ld true 11 (.t 8)⟩, ⟨some 188, some (186, true), .mv (.t 16)⟩, ⟨some 189, some (186, true), .cal 15 [(.t 187), (.t 188)]⟩, ⟨some 190, some (186, true), .cmp .neq .i64 (.t 189) (.c (.sc (.int .i64 290)))⟩, ⟨some 191, none, .pick (.t 186) (.t 190) (.c (.sc (.bool false)))⟩, ⟨some 192, none, .mv (.t 191)⟩, ⟨some 193, some (192, false), .ld true 11 (.t 19)⟩, ⟨some 194, some (192, false), .mv (.t 9)⟩, ⟨some 195, some (192, false), .cal 15 [(.t 193), (.t 194)]⟩, ⟨some 196, some (192, false), .cmp .neq .i64 (.t 195) (.c (.sc (.int .i64 290)))⟩, ⟨some 197, none, .pick (.t 192) (.c (.sc (.bool true))) (.t 196)⟩])
 (.cut [0, 243, 7, 8, 9, 17, 18, 197] (.cond (.t 197)
 (.seq (.reg [0, 243] [
 ⟨some 6, none, .mv (.c (.sc (.bool false)))⟩])
 .ret)
 .skip)))
 (.seq (.drw [0, 243, 7, 8, 9, 17, 18] [
 ⟨⟨some 198, none, .ld true 11 (.t 8)⟩, [], [], true⟩, ⟨⟨some 199, none, .mv (.t 17)⟩, [], [], true⟩, ⟨⟨some 200, none, .cal 15 [(.t 198), (.t 199)]⟩, [], [], false⟩, ⟨⟨some 201, none, .cmp .eql .i64 (.t 200) (.c (.sc (.int .i64 290)))⟩, [], [], false⟩, ⟨⟨some 202, none, .mv (.t 201)⟩, [], [], false⟩, ⟨⟨some 203, some (202, true), .ld true 11 (.t 8)⟩, [], [], true⟩, ⟨⟨some 204, some (202, true), .mv (.t 18)⟩, [], [], true⟩, ⟨⟨some 205, some (202, true), .cal 15 [(.t 203), (.t 204)]⟩, [], [], false⟩, ⟨⟨some 206, some (202, true), .cmp .eql .i64 (.t 205) (.c (.sc (.int .i64 290)))⟩, [], [], false⟩, ⟨⟨some 207, none, .pick (.t 202) (.t 206) (.c (.sc (.bool false)))⟩, [], [], false⟩, ⟨⟨some 208, none, .mv (.t 207)⟩, [], [], false⟩, ⟨⟨some 209, some (208, true), .ld true 11 (.t 8)⟩, [], [], true⟩, ⟨⟨some 210, some (208, true), .mv (.t 9)⟩, [], [], true⟩, ⟨⟨some 211, some (208, true), .slc 1 (.t 210) (some (.c (.sc (.int .i64 1)))) none⟩, [], [], true⟩, ⟨⟨some 212, some (208, true), .cal 15 [(.t 209), (.t 211)]⟩, [], [], false⟩, ⟨⟨some 213, some (208, true), .cmp .eql .i64 (.t 212) (.c (.sc (.int .i64 290)))⟩, [], [], false⟩, ⟨⟨some 214, none, .pick (.t 208) (.t 213) (.c (.sc (.bool false)))⟩, [], [], false⟩, ⟨⟨some 215, none, .mv (.t 214)⟩, [], [], false⟩, ⟨⟨some 216, some (215, true), .ld true 11 (.t 8)⟩, [], [217, 219, 220, 221], true⟩, ⟨⟨some 217, some (215, true), .bsl 1 3 [.sc (.int .i64 0)] 0 []⟩, [217], [220], true⟩, ⟨⟨some 218, some (215, true), .mv (.t 9)⟩, [], [217, 220], true⟩, ⟨⟨some 219, some (215, true), .app 1 3 8 (.t 217) (.t 218)⟩, [219, 217], [220], true⟩, ⟨⟨some 220, some (215, true), .bsl 1 3 [.sc (.int .i64 0)] 1 [(0, (.c (.sc (.int .i64 0))))]⟩, [220], [217, 219], true⟩, ⟨⟨some 221, some (215, true), .app 1 3 8 (.t 219) (.t 220)⟩, [221, 219, 217], [], true⟩, ⟨⟨some 222, some (215, true), .cal 15 [(.t 216), (.t 221)]⟩, [], [], false⟩, ⟨⟨some 223, some (215, true), .cmp .eql .i64 (.t 222) (.c (.sc (.int .i64 290)))⟩, [], [], false⟩, ⟨⟨some 224, none, .pick (.t 215) (.t 223) (.c (.sc (.bool false)))⟩, [], [], false⟩, ⟨⟨some 225, none, .mv (.t 224)⟩, [], [], false⟩, ⟨⟨some 226, some (225, true), .ld true 11 (.t 8)⟩, [], [], true⟩, ⟨⟨some 227, some (225, true), .mv (.t 17)⟩, [], [], true⟩, ⟨⟨some 228, some (225, true), .cal 17 [(.t 226), (.t 227)]⟩, [], [], false⟩, ⟨⟨some 229, some (225, true), .fl false 1 1 (.t 228)⟩, [], [], false⟩, ⟨⟨some 230, some (225, true), .cmp .eql .i64 (.t 229) (.c (.sc (.int .i64 290)))⟩, [], [], false⟩, ⟨⟨some 231, none, .pick (.t 225) (.t 230) (.c (.sc (.bool false)))⟩, [], [], false⟩, ⟨⟨some 232, none, .mv (.t 231)⟩, [], [], false⟩, ⟨⟨some 233, some (232, true), .ld true 11 (.t 8)⟩, [], [], true⟩, ⟨⟨some 234, some (232, true), .mv (.t 9)⟩, [], [], true⟩, ⟨⟨some 235, some (232, true), .slc 1 (.t 234) (some (.c (.sc (.int .i64 1)))) none⟩, [], [], true⟩, ⟨⟨some 236, some (232, true), .cal 17 [(.t 233), (.t 235)]⟩, [], [], false⟩, ⟨⟨some 237, some (232, true), .fl false 1 1 (.t 236)⟩, [], [], false⟩, ⟨⟨some 238, some (232, true), .cmp .eql .i64 (.t 237) (.c (.sc (.int .i64 290)))⟩, [], [], false⟩, ⟨⟨some 239, none, .pick (.t 232) (.t 238) (.c (.sc (.bool false)))⟩, [], [], false⟩, ⟨⟨some 240, none, .mv (.t 239)⟩, [], [], false⟩, ⟨⟨some 241, some (240, true), .mv (.t 7)⟩, [], [], false⟩, ⟨⟨some 242, none, .pick (.t 240) (.t 241) (.c (.sc (.bool false)))⟩, [], [], false⟩, ⟨⟨some 6, none, .mv (.t 242)⟩, [], [], false⟩])
 .ret))))))))))
def ac7d : AC :=
 (.seq (.reg [0, 243, 0, 1, 2] [
 ⟨some 3, none, .box (.t 0)⟩, ⟨some 4, none, .box (.t 1)⟩, ⟨some 5, none, .box (.t 2)⟩, ⟨some 6, none, .mv (.c (.sc (.bool false)))⟩])
 (.seq (.reg [0, 243, 3, 4, 5] [
 ⟨some 20, none, .cal 9 []⟩, ⟨some 7, none, .mv (.t 20)⟩])
 (.seq (.seq (.reg [0, 243, 3, 4, 5, 7] [
 ⟨some 21, none, .mv (.t 7)⟩, ⟨some 22, none, .not (.t 21)⟩, ⟨some 23, none, .mv (.t 22)⟩, ⟨some 24, some (23, false), .ld true 3 (.t 3)⟩, ⟨some 25, some (23, false), .ld true 5 (.t 4)⟩, ⟨some 26, some (23, false), .ld true 8 (.t 5)⟩, ⟨some 27, some (23, false), .cal 10 [(.t 24), (.t 25), (.t 26)]⟩, ⟨some 28, some (23, false), .not (.t 27)⟩, ⟨some 29, none, .pick (.t 23) (.c (.sc (.bool true))) (.t 28)⟩])
 (.cut [0, 243, 3, 4, 5, 7, 29] (.cond (.t 29)
 (.seq (.reg [0, 243, 7] [
 ⟨some 30, none, .mv (.t 7)⟩, ⟨some 6, none, .mv (.t 30)⟩])
 .ret)
 .skip)))
 (.seq (.reg [0, 243, 3, 4, 5, 7] [
 ⟨some 31, none, .ld true 3 (.t 3)⟩, ⟨some 32, none, .ld true 5 (.t 4)⟩, ⟨some 33, none, .ld true 8 (.t 5)⟩, ⟨some 34, none, .cal 11 [(.t 31), (.t 32), (.t 33)]⟩, ⟨some 8, none, .alc [.nil, .nil, .nil, .nil, .sc (.int .i64 0), .sc (.int .i64 0), .sc (.int .i64 0), .sc (.int .i64 0), .nil, .nil, .nil]⟩, ⟨none, none, .sto 11 (.t 8) (.t 34)⟩])
 (.seq (.reg [0, 243, 5, 7, 8] [
 ⟨some 35, none, .ld true 11 (.t 8)⟩, ⟨some 36, none, .fa 1 (.t 5)⟩, ⟨some 37, none, .ld false 1 (.t 36)⟩, ⟨some 38, none, .cal 14 [(.t 35), (.t 37)]⟩, ⟨some 9, none, .mv (.t 38)⟩])
 (.seq (.reg [0, 243, 5, 7, 8, 9] [
 ⟨some 39, none, .mv (.t 9)⟩, ⟨some 40, none, .len (.t 39)⟩, ⟨some 10, none, .mv (.t 40)⟩])
 (.seq (.seq (.reg [0, 243, 5, 7, 8, 9, 10] [
 ⟨some 41, none, .mv (.t 10)⟩, ⟨some 42, none, .cmp .eql .i64 (.t 41) (.c (.sc (.int .i64 0)))⟩])
 (.cond (.t 42)
 (.seq (.reg [0, 243, 7, 8] [
 ⟨some 43, none, .ld true 11 (.t 8)⟩, ⟨some 44, none, .bsl 1 3 [.sc (.int .i64 0)] 1 [(0, (.c (.sc (.int .i64 0))))]⟩, ⟨some 45, none, .cal 15 [(.t 43), (.t 44)]⟩, ⟨some 46, none, .cmp .eql .i64 (.t 45) (.c (.sc (.int .i64 290)))⟩, ⟨some 47, none, .mv (.t 46)⟩, ⟨some 48, some (47, true), .mv (.t 7)⟩, ⟨some 49, none, .pick (.t 47) (.t 48) (.c (.sc (.bool false)))⟩, ⟨some 6, none, .mv (.t 49)⟩])
 .ret)
 .skip))
 (.seq (.reg [0, 243, 5, 7, 8, 9, 10] [
 ⟨some 50, none, .fa 2 (.t 5)⟩, ⟨some 51, none, .ld false 1 (.t 50)⟩, ⟨some 52, none, .len (.t 51)⟩, ⟨some 53, none, .mv (.t 10)⟩, ⟨some 54, none, .dvd .rem true .i64 (.t 52) (.t 53)⟩, ⟨some 11, none, .mv (.t 54)⟩])
 (.seq (.reg [0, 243, 5, 7, 8, 9, 10, 11] [
 ⟨some 55, none, .mv (.t 9)⟩, ⟨some 56, none, .mv (.t 11)⟩, ⟨some 57, none, .ixs 1 (.t 55) (.t 56)⟩, ⟨some 58, none, .ld false 1 (.t 57)⟩, ⟨some 12, none, .mv (.t 58)⟩])
 (.seq (.reg [0, 243, 5, 7, 8, 9, 10, 11, 12] [
 ⟨some 59, none, .fa 0 (.t 8)⟩, ⟨some 60, none, .ld true 4 (.t 59)⟩, ⟨some 61, none, .fa 4 (.t 8)⟩, ⟨some 62, none, .ld true 5 (.t 61)⟩, ⟨some 63, none, .fa 9 (.t 8)⟩, ⟨some 64, none, .ld true 2 (.t 63)⟩, ⟨some 65, none, .mv (.t 11)⟩, ⟨some 66, none, .mv (.t 12)⟩, ⟨some 67, none, .cal 12 [(.t 60), (.t 62), (.t 64), (.t 65), (.t 66)]⟩, ⟨some 13, none, .mv (.t 67)⟩])
 (.seq (.reg [0, 243, 5, 7, 8, 9, 10, 11, 12, 13] [
 ⟨some 68, none, .ld true 11 (.t 8)⟩, ⟨some 14, none, .alc [.nil, .nil, .nil, .nil, .sc (.int .i64 0), .sc (.int .i64 0), .sc (.int .i64 0), .sc (.int .i64 0), .nil, .nil, .nil]⟩, ⟨none, none, .sto 11 (.t 14) (.t 68)⟩])
 (.seq (.reg [0, 243, 5, 7, 8, 9, 10, 11, 12, 13, 14] [
 ⟨some 69, none, .mv (.t 12)⟩, ⟨some 70, none, .bsl 1 3 [.sc (.int .i64 0)] 1 [(0, (.t 69))]⟩, ⟨some 71, none, .bld [.nil, .nil] [(0, 1, (.t 70))]⟩, ⟨some 72, none, .fa 9 (.t 14)⟩, ⟨none, none, .sto 2 (.t 72) (.t 71)⟩])
 (.seq (.reg [0, 243, 5, 7, 8, 9, 10, 11, 12, 13, 14] [
 ⟨some 73, none, .ld true 11 (.t 8)⟩, ⟨some 15, none, .alc [.nil, .nil, .nil, .nil, .sc (.int .i64 0), .sc (.int .i64 0), .sc (.int .i64 0), .sc (.int .i64 0), .nil, .nil, .nil]⟩, ⟨none, none, .sto 11 (.t 15) (.t 73)⟩])
 (.seq (.reg [0, 243, 5, 7, 8, 9, 10, 11, 12, 13, 14, 15] [
 ⟨some 74, none, .mv (.t 12)⟩, ⟨some 75, none, .fa 4 (.t 8)⟩, ⟨some 76, none, .ld true 5 (.t 75)⟩, ⟨some 77, none, .cal 31 [(.t 76)]⟩, ⟨some 78, none, .ari .mul true .i64 (.t 74) (.t 77)⟩, ⟨some 79, none, .bsl 1 3 [.sc (.int .i64 0)] 1 [(0, (.t 78))]⟩, ⟨some 80, none, .bld [.nil, .nil] [(1, 1, (.t 79))]⟩, ⟨some 81, none, .fa 9 (.t 15)⟩, ⟨none, none, .sto 2 (.t 81) (.t 80)⟩])
 (.seq (.seq (.reg [0, 243, 5, 7, 8, 9, 10, 11, 12, 13, 14, 15] [
 ⟨some 82, none, .mv (.t 13)⟩, ⟨some 83, none, .mv (.t 82)⟩, ⟨some 84, some (83, true), .fa 9 (.t 8)⟩, ⟨some 85, some (83, true), .fa 0 (.t 84)⟩, ⟨some 86, some (83, true), .ld false 1 (.t 85)⟩, ⟨some 87, some (83, true), .mv (.t 12)⟩, ⟨some 88, some (83, true), .cal 26 [(.t 86), (.t 87)]⟩, ⟨some 89, some (83, true), .mv (.t 88)⟩, ⟨some 90, some (89, false), .fa 4 (.t 8)⟩, ⟨some 91, some (89, false), .fa 4 (.t 90)⟩, ⟨some 92, some (89, false), .ld false 1 (.t 91)⟩, ⟨some 93, some (89, false), .mv (.t 12)⟩, ⟨some 94, some (89, false), .ixs 1 (.t 92) (.t 93)⟩, ⟨some 95, some (89, false), .ld false 1 (.t 94)⟩, ⟨some 96, some (89, false), .cmp .eql .i64 (.t 95) (.c (.sc (.int .i64 0)))⟩, ⟨some 97, some (83, true), .pick (.t 89) (.c (.sc (.bool true))) (.t 96)⟩, ⟨some 98, some (83, true), .mv (.t 97)⟩, ⟨some 99, some (98, false), .fa 4 (.t 8)⟩, ⟨some 100, some (98, false), .fa 4 (.t 99)⟩, ⟨some 101, some (98, false), .ld false 1 (.t 100)⟩, ⟨some 102, some (98, false), .mv (.t 12)⟩, ⟨some 103, some (98, false), .ixs 1 (.t 101) (.t 102)⟩, ⟨some 104, some (98, false), .ld false 1 (.t 103)⟩, ⟨some 105, some (98, false), .cmp .eql .i64 (.t 104) (.c (.sc (.int .i64 1)))⟩, ⟨some 106, some (98, false), .mv (.t 105)⟩, ⟨some 107, some (106, true), .fa 0 (.t 8)⟩, ⟨some 108, some (106, true), .fa 1 (.t 107)⟩, ⟨some 109, some (106, true), .ld false 1 (.t 108)⟩, ⟨some 110, some (106, true), .mv (.t 11)⟩, ⟨some 111, some (106, true), .ixs 5 (.t 109) (.t 110)⟩, ⟨some 112, some (106, true), .fa 2 (.t 111)⟩, ⟨some 113, some (106, true), .ld false 1 (.t 112)⟩, ⟨some 114, some (106, true), .cmp .neq .i64 (.t 113) (.c (.sc (.int .i64 (-1))))⟩, ⟨some 115, some (98, false), .pick (.t 106) (.t 114) (.c (.sc (.bool false)))⟩, ⟨some 116, some (83, true), .pick (.t 98) (.c (.sc (.bool true))) (.t 115)⟩, ⟨some 117, none, .pick (.t 83) (.t 116) (.c (.sc (.bool false)))⟩, ⟨some 118, none, .mv (.t 117)⟩, ⟨some 119, some (118, false), .ld true 11 (.t 14)⟩, ⟨some 120, some (118, false), .mv (.t 9)⟩, ⟨some 121, some (118, false), .cal 15 [(.t 119), (.t 120)]⟩, ⟨some 122, some (118, false), .cmp .neq .i64 (.t 121) (.c (.sc (.int .i64 290)))⟩, ⟨some 123, none, .pick (.t 118) (.c (.sc (.bool true))) (.t 122)⟩, ⟨some 124, none, .mv (.t 123)⟩, ⟨some 125, some (124, false), .ld true 11 (.t 15)⟩, ⟨some 126, some (124, false), .mv (.t 9)⟩, ⟨some 127, some (124, false), .cal 15 [(.t 125), (.t 126)]⟩, ⟨some 128, some (124, false), .cmp .neq .i64 (.t 127) (.c (.sc (.int .i64 290)))⟩, ⟨some 129, none, .pick (.t 124) (.c (.sc (.bool true))) (.t 128)⟩, ⟨some 130, none, .mv (.t 129)⟩, ⟨some 131, some (130, false), .mv (.t 13)⟩, ⟨some 132, some (130, false), .not (.t 131)⟩, ⟨some 133, some (130, false), .mv (.t 132)⟩, ⟨some 134, some (133, true), .ld true 11 (.t 8)⟩, ⟨some 135, some (133, true), .mv (.t 9)⟩, ⟨some 136, some (133, true), .cal 15 [(.t 134), (.t 135)]⟩, ⟨some 137, some (133, true), .cmp .neq .i64 (.t 136) (.c (.sc (.int .i64 290)))⟩, ⟨some 138, some (130, false), .pick (.t 133) (.t 137) (.c (.sc (.bool false)))⟩, ⟨some 139, none, .pick (.t 130) (.c (.sc (.bool true))) (.t 138)⟩])
 (.cut [0, 243, 5, 7, 8, 9, 10, 11, 139] (.cond (.t 139)
 (.seq (.reg [0, 243] [
 ⟨some 6, none, .mv (.c (.sc (.bool false)))⟩])
 .ret)
 .skip)))
 ac7d_r18)))))))))))))))
def rv7d : List RV := [.tmp 6]
theorem ok7d : fnOk Try.prog ac7d rv7d Try.f7 = true := by kernel_rfl
end Go.Proofs.Ytbdamnfkgdbidaa.Txt
namespace Go.Proofs.Ytbdamnfkgdbidaa
open Go Go.Vc Txt
def bumpF (m : Int) (out : List Int) : Nat → Int → Int
  | 0, t => t
  | n + 1, t => if t ∈ out then bumpF m out n ((t + 1) % m) else t
def tileF (j : Job) (l out : List Int) (i : Nat) : Int :=
  bumpF (j.g.w * j.g.h) out (j.g.w * j.g.h).toNat (if i < l.length then l.getD i default % (j.g.w * j.g.h) else i)
def tilesN (j : Job) (l : List Int) : Nat → List Int
  | 0 => []
  | n + 1 => tilesN j l n ++ [tileF j l (tilesN j l n) n]
def tilesF (j : Job) (l : List Int) : List Int := tilesN j l j.p.blocks.length
theorem tilesN_len (j : Job) (l : List Int) : ∀ n, (tilesN j l n).length = n
  | 0 => rfl
  | n + 1 => by simp [tilesN, tilesN_len j l n]
theorem bumpF_rng {m : Int} (hm : 0 < m ∧ m ≤ 1000000) {out : List Int} : ∀ (n : Nat) (t : Int), 0 ≤ t ∧ t ≤ 1000000 → 0 ≤ bumpF m out n t ∧ bumpF m out n t ≤ 1000000
  | 0, t, h => h
  | n + 1, t, h => by
    unfold bumpF
    split
    · have h1 := Int.emod_nonneg (t + 1) (show m ≠ 0 by omega)
      have h2 := Int.emod_lt_of_pos (t + 1) hm.1
      exact bumpF_rng hm n _ ⟨h1, by omega⟩
    · exact h
theorem tilesN_rng {j : Job} (hm : 0 < j.g.w * j.g.h ∧ j.g.w * j.g.h ≤ 1000000) (l : List Int) : ∀ n : Nat, n ≤ 1000000 → ∀ t ∈ tilesN j l n, 0 ≤ t ∧ t ≤ 1000000
  | 0, _, t, h => by cases h
  | n + 1, hn, t, h => by
    rcases List.mem_append.1 h with h | h
    · exact tilesN_rng hm l n (by omega) t h
    · rw [List.mem_singleton.1 h]
      refine bumpF_rng hm _ _ ?_
      split
      · have h1 := Int.emod_nonneg (l.getD n default) (show j.g.w * j.g.h ≠ 0 by omega)
        have h2 := Int.emod_lt_of_pos (l.getD n default) hm.1
        omega
      · omega
theorem tiles_in (j : Job) (hj : j.Ok) (l : List Int) (i : Nat) (hi : i ≤ 1000) (t : Int) (ht : 0 ≤ t ∧ t ≤ 1000000) (out : List Int) (hlen : out.length = i) (Q : Exit → St → Prop) (st : St)
    (hst : st.keepS [0, 67, 1, 2, 5, 6, 7] = ⟨[(1, .sl false 1 (bytes8 l)), (2, .ptr 2 0), (5, .view 9 0 i), (6, .int i), (7, .int t)], [(2, jobC false j)], [(9, ⟨1, 3, ints out⟩)], []⟩)
    (hQ : ∀ t' : Int, t' = bumpF (j.g.w * j.g.h) out (j.g.w * j.g.h).toNat t → Q .normal ⟨[(1, .sl false 1 (bytes8 l)), (2, .ptr 2 0), (5, .view 9 0 (i + 1)), (6, .int i), (7, .int t'), (62, .bot), (63, .int t'), (64, .view 64 0 1), (65, .view 9 0 (i + 1))], [(2, jobC false j)], [(9, ⟨1, 3, ints (out ++ [t'])⟩), (64, ⟨1, 3, ints [t']⟩)], []⟩) :
    awp (Env.of Try.prog) ac14d_r8 Q st := by
  simp only [ac14d_r8, push_cast, reduceIte, Nat.reduceEqDiff, Nat.reduceAdd, Nat.reduceSub, Nat.reduceMul, Nat.reduceBEq, Nat.reduceLT, Nat.reduceLeDiff, reduceCtorEq, Int.reduceToNat, Int.reduceNeg, hst]
  have hwh := hj.wh
  have hpos : 0 < j.g.w * j.g.h := Int.mul_pos hj.w.1 hj.h.1
  obtain ⟨m, hm⟩ : ∃ m : Int, j.g.w * j.g.h = m := ⟨_, rfl⟩
  rw [hm] at hwh hpos hQ
  refine loop_of (fun n st => ∃ (q : Nat) (t' : Int), (q : Int) ≤ m ∧ n = m.toNat - q ∧ (0 ≤ t' ∧ t' ≤ 1000000) ∧ bumpF m out (m.toNat - q) t' = bumpF m out m.toNat t ∧
    st = ⟨[(1, .sl false 1 (bytes8 l)), (2, .ptr 2 0), (5, .view 9 0 i), (6, .int i), (7, .int t'), (8, .int q)], [(2, jobC false j)], [(9, ⟨1, 3, ints out⟩)], []⟩) m.toNat ?_ ?_
  · refine ⟨0, t, by omega, by omega, ht, rfl, ?_⟩
    simp only [push_cast, reduceIte, Nat.reduceEqDiff, Nat.reduceAdd, Nat.reduceSub, Nat.reduceMul, Nat.reduceBEq, Nat.reduceLT, Nat.reduceLeDiff, reduceCtorEq, Int.reduceToNat, Int.reduceNeg]
  · rintro n st ⟨q, t', hq, rfl, ht', hF, rfl⟩
    simp only [push_cast, reduceIte, Nat.reduceEqDiff, Nat.reduceAdd, Nat.reduceSub, Nat.reduceMul, Nat.reduceBEq, Nat.reduceLT, Nat.reduceLeDiff, reduceCtorEq, Int.reduceToNat, Int.reduceNeg, hm]
    refine ⟨by omega, ?_⟩
    refine cut_of ⟨[(1, .sl false 1 (bytes8 l)), (2, .ptr 2 0), (5, .view 9 0 i), (6, .int i), (7, .int t'), (8, .int q), (49, .bool (decide ((q : Int) < m ∧ t' ∈ out)))], [(2, jobC false j)], [(9, ⟨1, 3, ints out⟩)], []⟩ ?_ ?_
    · refine grd_dec rfl (fun h1 => ?_) fun h1 => ?_ <;> simp only [push_cast, reduceIte, Nat.reduceEqDiff, Nat.reduceAdd, Nat.reduceSub, Nat.reduceMul, Nat.reduceBEq, Nat.reduceLT, Nat.reduceLeDiff, reduceCtorEq, Int.reduceToNat, Int.reduceNeg]
      · refine cal_sub (in_ok out t' (by omega)) ⟨?_, .refl _, trivial⟩ ?_
        · rw [List.take_of_length_le (by omega)]
          exact .refl _
        · simp only [push_cast, reduceIte, Nat.reduceEqDiff, Nat.reduceAdd, Nat.reduceSub, Nat.reduceMul, Nat.reduceBEq, Nat.reduceLT, Nat.reduceLeDiff, reduceCtorEq, Int.reduceToNat, Int.reduceNeg]
          rw [decide_eq_decide.2 (show (q : Int) < m ∧ t' ∈ out ↔ t' ∈ out from and_iff_right h1)]
      · rw [decide_eq_false (show ¬ ((q : Int) < m ∧ t' ∈ out) from fun h2 => h1 h2.1)]
    · simp only [push_cast, reduceIte, Nat.reduceEqDiff, Nat.reduceAdd, Nat.reduceSub, Nat.reduceMul, Nat.reduceBEq, Nat.reduceLT, Nat.reduceLeDiff, reduceCtorEq, Int.reduceToNat, Int.reduceNeg]
      refine cond_dec (fun h1 => ?_) fun h1 => ?_
      · simp only [push_cast, reduceIte, Nat.reduceEqDiff, Nat.reduceAdd, Nat.reduceSub, Nat.reduceMul, Nat.reduceBEq, Nat.reduceLT, Nat.reduceLeDiff, reduceCtorEq, Int.reduceToNat, Int.reduceNeg, hm]
        have e1 := Int.emod_nonneg (t' + 1) (show m ≠ 0 by omega)
        have e2 := Int.emod_lt_of_pos (t' + 1) hpos
        refine ⟨by omega, by omega, ⟨by omega, by omega, hpos⟩, by omega, _, ?_, q + 1, (t' + 1) % m, by omega, rfl, ⟨by omega, by omega⟩, ?_, ?_⟩
        · omega
        · rw [← hF, show m.toNat - q = (m.toNat - (q + 1)) + 1 by omega, bumpF, if_pos h1.2]
        · simp
      · have hF' : bumpF m out m.toNat t = t' := by
          rw [← hF]
          by_cases h2 : (q : Int) < m
          · have h3 : t' ∉ out := fun h3 => h1 ⟨h2, h3⟩
            rw [show m.toNat - q = (m.toNat - (q + 1)) + 1 by omega, bumpF, if_neg h3]
          · rw [show m.toNat - q = 0 by omega, bumpF]
        refine ⟨by simp, ⟨by omega, by omega, by omega⟩, ?_⟩
        exact hQ t' hF'.symm
theorem rtiles_ok (j : Job) (hj : j.Ok) (l : List Int) (hl : (l.length : Int) ≤ 1000000) (hb : ∀ x ∈ l, 0 ≤ x ∧ x ≤ 255) :
    FnEq Try.prog 14 [.agg (jobC false j), .sl false 1 (bytes8 l)] (.sl true 1 (ints (tilesF j l))) := by
  refine FnEq.of_awp Try.func14 ok14d (by show 2 ≤ _; decide) (by simp only [push_cast, reduceIte, Nat.reduceEqDiff, Nat.reduceAdd, Nat.reduceSub, Nat.reduceMul, Nat.reduceBEq, Nat.reduceLT, Nat.reduceLeDiff, reduceCtorEq, Int.reduceToNat, Int.reduceNeg] <;> first | exact fun _ _ => trivial | simp) ?_
  simp only [ac14d, rv14d, push_cast, reduceIte, Nat.reduceEqDiff, Nat.reduceAdd, Nat.reduceSub, Nat.reduceMul, Nat.reduceBEq, Nat.reduceLT, Nat.reduceLeDiff, reduceCtorEq, Int.reduceToNat, Int.reduceNeg]
  have hnb := hj.nb
  have hwh := hj.wh
  have hpos : 0 < j.g.w * j.g.h := Int.mul_pos hj.w.1 hj.h.1
  refine loop_of (fun m st => ∃ k : Nat, k ≤ j.p.blocks.length ∧ m = j.p.blocks.length - k ∧
    st = ⟨[(1, .sl false 1 (bytes8 l)), (2, .ptr 2 0), (5, .view 9 0 k), (6, .int k)], [(2, jobC false j)], [(9, ⟨1, 3, ints (tilesN j l k)⟩)], []⟩) j.p.blocks.length ?_ ?_
  · refine ⟨0, by omega, by omega, ?_⟩
    simp only [push_cast, reduceIte, Nat.reduceEqDiff, Nat.reduceAdd, Nat.reduceSub, Nat.reduceMul, Nat.reduceBEq, Nat.reduceLT, Nat.reduceLeDiff, reduceCtorEq, Int.reduceToNat, Int.reduceNeg]
    rfl
  · rintro m st ⟨k, hk, rfl, rfl⟩
    simp only [push_cast, reduceIte, Nat.reduceEqDiff, Nat.reduceAdd, Nat.reduceSub, Nat.reduceMul, Nat.reduceBEq, Nat.reduceLT, Nat.reduceLeDiff, reduceCtorEq, Int.reduceToNat, Int.reduceNeg]
    have hlen := tilesN_len j l k
    refine cond_dec (fun h => ?_) fun h => ?_
    · refine cond_dec (fun h1 => ?_) fun h1 => ?_
      · have hx := hb _ (show l.getD k default ∈ l by simp [List.getD_eq_getElem?_getD, show k < l.length by omega])
        have e1 := Int.emod_nonneg (l.getD k default) (show j.g.w * j.g.h ≠ 0 by omega)
        have e2 := Int.emod_lt_of_pos (l.getD k default) hpos
        refine ⟨by omega, by omega, by omega, by omega, ⟨by omega, by omega, hpos⟩, ?_⟩
        refine tiles_in j hj l k (by omega) (l.getD k default % (j.g.w * j.g.h)) (by omega) _ hlen _ _ ?_ ?_
        · simp only [push_cast, reduceIte, Nat.reduceEqDiff, Nat.reduceAdd, Nat.reduceSub, Nat.reduceMul, Nat.reduceBEq, Nat.reduceLT, Nat.reduceLeDiff, reduceCtorEq, Int.reduceToNat, Int.reduceNeg]
        · rintro t' rfl
          simp only [push_cast, reduceIte, Nat.reduceEqDiff, Nat.reduceAdd, Nat.reduceSub, Nat.reduceMul, Nat.reduceBEq, Nat.reduceLT, Nat.reduceLeDiff, reduceCtorEq, Int.reduceToNat, Int.reduceNeg]
          refine ⟨by omega, _, ?_, k + 1, by omega, rfl, ?_⟩
          · omega
          · rw [tilesN, tileF, if_pos (by omega)]
            simp
      · refine tiles_in j hj l k (by omega) (k : Int) (by omega) _ hlen _ _ ?_ ?_
        · simp only [push_cast, reduceIte, Nat.reduceEqDiff, Nat.reduceAdd, Nat.reduceSub, Nat.reduceMul, Nat.reduceBEq, Nat.reduceLT, Nat.reduceLeDiff, reduceCtorEq, Int.reduceToNat, Int.reduceNeg]
        · rintro t' rfl
          simp only [push_cast, reduceIte, Nat.reduceEqDiff, Nat.reduceAdd, Nat.reduceSub, Nat.reduceMul, Nat.reduceBEq, Nat.reduceLT, Nat.reduceLeDiff, reduceCtorEq, Int.reduceToNat, Int.reduceNeg]
          refine ⟨by omega, _, ?_, k + 1, by omega, rfl, ?_⟩
          · omega
          · rw [tilesN, tileF, if_neg (by omega)]
            simp
    · have hkk : k = j.p.blocks.length := by omega
      subst hkk
      rw [List.take_of_length_le (by omega)]
      exact ⟨fun _ _ => trivial, .refl _⟩
end Go.Proofs.Ytbdamnfkgdbidaa
namespace Go.Proofs.Ytbdamnfkgdbidaa
open Go Go.Vc Txt
theorem checkF_ne {j : Job} {a : List Int} (h : ¬ (Fits j ∧ IsPl j a ∧ Suited j a)) : checkF j a = 290 := by
  by_cases h0 : checkF j a = 0
  · exact absurd (checkF_zero_iff.1 h0) h
  · unfold checkF at h0 ⊢
    split
    · rename_i h1; rw [if_pos h1] at h0; exact absurd rfl h0
    · rfl
theorem cost1F_ne {j : Job} {a : List Int} (h : ¬ IsPl j a) : (cost1F j a).2 = 290 := by rw [cost1F, if_neg h]
theorem suitsR_tile {j : Job} {b t : Int} (h : suitsR j b t = true) : t ∉ j.bad.tiles ∧ j.g.kind.getD t.toNat default ≠ 0 ∧ (j.g.kind.getD t.toNat default = 1 → (j.p.blocks.getD b.toNat default).ram = -1) ∧ t * (6 + 2 * j.g.tracks) ∉ j.bad.nodes := by
  unfold suitsR at h
  split at h
  · cases h
  simp only at h
  split at h
  · cases h
  rename_i h1 h2
  split at h
  · cases h
  rename_i h3
  refine ⟨fun hh => h2 (.inr (.inr hh)), fun hh => h2 (.inl hh), fun hh => ?_, fun hh => h3 (.inl hh)⟩
  by_cases h4 : (j.p.blocks.getD b.toNat default).ram = -1
  · exact h4
  · exact absurd (.inr (.inl ⟨h4, by omega⟩)) h2
theorem defect_ne {p : Packed} {g : Grid} {a : List Int} {b : Nat} (hb : b < a.length) : checkF ⟨p, g, ⟨[a.getD b default], []⟩⟩ a = 290 :=
  checkF_ne fun ⟨_, _, h⟩ => (suitsR_tile (h b hb)).1 (by simp)
theorem pin_ne {p : Packed} {g : Grid} {a : List Int} {b : Nat} (hb : b < a.length) : checkF ⟨p, g, ⟨[], [a.getD b default * (6 + 2 * g.tracks)]⟩⟩ a = 290 :=
  checkF_ne fun ⟨_, _, h⟩ => (suitsR_tile (h b hb)).2.2.2 (by simp)
theorem unsuited_ne {j : Job} {a : List Int} {b : Nat} (hb : b < a.length) (h : suitsR j b (a.getD b default) = false) : checkF j a = 290 :=
  checkF_ne fun ⟨_, _, h1⟩ => by rw [h1 b hb] at h; cases h
theorem len_ne {j : Job} {a : List Int} (h : a.length ≠ j.p.blocks.length) : ¬ IsPl j a := fun h1 => h h1.1
theorem out_ne {j : Job} {a : List Int} {b : Nat} (hb : b < a.length) {x : Int} (h : x < 0 ∨ j.g.w * j.g.h ≤ x) : ¬ IsPl j (a.set b x) := fun h1 => by
  have := h1.2.1 x (List.mem_iff_getElem.2 ⟨b, by simpa using hb, by simp⟩)
  omega
theorem twice_ne {j : Job} {a : List Int} {b c : Nat} (hb : b < a.length) (hc : c < a.length) (hne : b ≠ c) : ¬ IsPl j (a.set b (a.getD c default)) := fun h1 => by
  have h2 := h1.2.2
  have := nodup_inj h2 (i := b) (j := c) (by simpa using hb) (by simpa using hc) (by simp [List.getElem_set, hne, hc])
  exact hne this
theorem setBad_ok {j : Job} (hj : j.Ok) {ts ns : List Int} (h1 : (ts.length : Int) ≤ 1000000) (h2 : (ns.length : Int) ≤ 1000000) (h3 : ∀ n ∈ ns, -9223372036854775808 ≤ n ∧ n ≤ 9223372036854775807) : (⟨j.p, j.g, ⟨ts, ns⟩⟩ : Job).Ok :=
  ⟨hj.wh, hj.tr, hj.kind, hj.nb, hj.nin, hj.ins, hj.outs, h1, h2, h3, hj.w, hj.h, hj.nd, hj.sb, hj.sd⟩
theorem setPads_ok {j : Job} (hj : j.Ok) (n : Int) : (⟨j.p, ⟨j.g.w, j.g.h, j.g.tracks, n, j.g.kind⟩, j.bad⟩ : Job).Ok :=
  ⟨hj.wh, hj.tr, hj.kind, hj.nb, hj.nin, hj.ins, hj.outs, hj.tiles, hj.nodes, hj.nr, hj.w, hj.h, hj.nd, hj.sb, hj.sd⟩
theorem narrow_ne {j : Job} {a : List Int} : checkF ⟨j.p, ⟨j.g.w, j.g.h, j.g.tracks, (j.p.ins.length : Int) - 1, j.g.kind⟩, j.bad⟩ a = 290 :=
  checkF_ne fun ⟨h, _, _⟩ => by have := h.1; simp only at this; omega
def jobD (p : Packed) (g : Grid) (c d : PV) : List PV := [.sl true 3 (rows wireC p.ins), .sl true 5 (rows (blockC true) p.blocks), .sl true 3 (rows wireC p.out), .sl true 1 (ints p.drive), .int g.w, .int g.h, .int g.tracks, .int g.pads, .sl true 1 (ints g.kind), c, d]
@[push_cast] theorem jobD_eq (p : Packed) (g : Grid) (c d : PV) : jobD p g c d = [.sl true 3 (rows wireC p.ins), .sl true 5 (rows (blockC true) p.blocks), .sl true 3 (rows wireC p.out), .sl true 1 (ints p.drive), .int g.w, .int g.h, .int g.tracks, .int g.pads, .sl true 1 (ints g.kind), c, d] := rfl
theorem vsub (a : List Int) (b : Nat) (y : Int) : Sub (.sl false 1 (rows intC (List.take a.length (a.set b y)))) (.sl false 1 (ints (a.set b y))) := by
  rw [List.take_of_length_le (by simp)]
  exact .refl _
theorem jobB_sub (p : Packed) (g : Grid) {c d : PV} {ts ns : List Int} (hc : Sub c (.sl false 1 (ints ts))) (hd : Sub d (.sl false 1 (ints ns))) :
    SubL [.sl true 3 (rows wireC p.ins), .sl true 5 (rows (blockC true) p.blocks), .sl true 3 (rows wireC p.out), .sl true 1 (ints p.drive), .int g.w, .int g.h, .int g.tracks, .int g.pads, .sl true 1 (ints g.kind), c, d] (jobC false ⟨p, g, ⟨ts, ns⟩⟩) :=
  ⟨.slp _ _ _ _ (fun h => by cases h), Sub.slR 5 (fun h => by cases h) (SubR.map _ _ _ fun b _ => blockC_sub b), .slp _ _ _ _ (fun h => by cases h), .slp _ _ _ _ (fun h => by cases h), .refl _, .refl _, .refl _, .refl _, .slp _ _ _ _ (fun h => by cases h), hc, hd, trivial⟩
set_option maxHeartbeats 2000000 in
set_option maxRecDepth 4000 in
theorem refuses_tail (x : RawP) (y : RawG) (z : Odd) (hz : (z.at_.length : Int) ≤ 40) (j : Job) (hj : j.Ok) (a : List Int) (hal : a.length = j.p.blocks.length) (b : Nat) (hb : b < a.length) (v w : Int) (st : St)
    (hst : st.keepS [0, 243, 5, 7, 8, 9, 10, 11] = ⟨[(5, .ptr 5 0), (7, .bool true), (8, .ptr 8 0), (9, .sl true 1 (ints a)), (10, .int a.length), (11, .int b)], [(3, rawPC false x), (4, rawGC false y), (5, oddC false z), (8, jobC true j), (14, jobD j.p j.g (.view 70 0 1) .nil), (15, jobD j.p j.g .nil (.view 79 0 1))], [(70, ⟨1, 3, ints [v]⟩), (79, ⟨1, 3, ints [w]⟩)], []⟩) :
    awp (Env.of Try.prog) ac7d_r18 (retK [RV.tmp 6] fun v => Sub v (.bool true)) st := by
  simp only [ac7d_r18, push_cast, reduceIte, Nat.reduceEqDiff, Nat.reduceAdd, Nat.reduceSub, Nat.reduceMul, Nat.reduceBEq, Nat.reduceLT, Nat.reduceLeDiff, reduceCtorEq, Int.reduceToNat, Int.reduceNeg, hst]
  have hwh := hj.wh
  have hnb := hj.nb
  have hn0 : 0 < a.length := by omega
  have e0 : List.replicate 0 (0 : Int) = [] := rfl
  simp only [e0, push_cast, reduceIte, Nat.reduceEqDiff, Nat.reduceAdd, Nat.reduceSub, Nat.reduceMul, Nat.reduceBEq, Nat.reduceLT, Nat.reduceLeDiff, reduceCtorEq, Int.reduceToNat, Int.reduceNeg]
  obtain ⟨r2, hr2, hr20, hr21⟩ := pick_ok hn0 ((b : Int) + 1)
  obtain ⟨c, rfl⟩ := Int.eq_ofNat_of_zero_le hr20
  rw [hr2]
  simp only [push_cast, reduceIte, Nat.reduceEqDiff, Nat.reduceAdd, Nat.reduceSub, Nat.reduceMul, Nat.reduceBEq, Nat.reduceLT, Nat.reduceLeDiff, reduceCtorEq, Int.reduceToNat, Int.reduceNeg]
  refine ⟨by omega, by omega, by omega, by omega, by omega, by omega, hb, by omega, by omega, by omega, hb, by omega, by omega, by omega, hb, by have := hj.ins; omega, ?_⟩
  have hj3 := setPads_ok hj ((j.p.ins.length : Int) - 1)
  have hc1 : 1 < (a.length : Int) → b ≠ c := fun h1 e => by
    subst e
    have h2 : ((b : Int) + 1) % a.length = if (b : Int) + 1 = a.length then 0 else (b : Int) + 1 := by
      split
      · rename_i h3; rw [h3, Int.emod_self]
      · exact Int.emod_eq_of_lt (by omega) (by omega)
    rw [h2] at hr2
    split at hr2 <;> omega
  have htw : 1 < (a.length : Int) → checkF j (a.set b (a.getD c default)) = 290 := fun h1 => checkF_ne fun h => twice_ne hb (by omega) (hc1 h1) h.2.1
  have hou : ¬ IsPl j (a.set b (j.g.w * j.g.h)) := out_ne hb (.inr (by omega))
  have hbe : ¬ IsPl j (a.set b (-1 - (z.at_.length : Int))) := out_ne hb (.inl (by omega))
  have hls : ∀ y, ((a.set b y).length : Int) ≤ 1000000 := fun y => by simp; omega
  refine cut_of ⟨[(7, .bool true), (8, .ptr 8 0), (9, .sl true 1 (ints a)), (17, .view 153 0 a.length), (18, .view 166 0 a.length), (197, .bool false)], [(3, rawPC false x), (4, rawGC false y), (5, oddC false z), (8, jobC true j), (14, jobD j.p j.g (.view 70 0 1) .nil), (15, jobD j.p j.g .nil (.view 79 0 1)), (19, jobC true ⟨j.p, ⟨j.g.w, j.g.h, j.g.tracks, (j.p.ins.length : Int) - 1, j.g.kind⟩, j.bad⟩)],
    [(70, ⟨1, 3, ints [v]⟩), (79, ⟨1, 3, ints [w]⟩), (140, ⟨1, 3, ints (a.set b (a.getD c default))⟩), (153, ⟨1, 3, ints (a.set b (j.g.w * j.g.h))⟩), (166, ⟨1, 3, ints (a.set b (-1 - (z.at_.length : Int)))⟩)], []⟩ ?_ ?_
  · refine grd_dec rfl (fun h1 => ?_) fun h1 => ?_ <;> simp only [push_cast, reduceIte, Nat.reduceEqDiff, Nat.reduceAdd, Nat.reduceSub, Nat.reduceMul, Nat.reduceBEq, Nat.reduceLT, Nat.reduceLeDiff, reduceCtorEq, Int.reduceToNat, Int.reduceNeg]
    · refine cal_sub (lcheck_ok j hj (a.set b (a.getD c default)) (hls _)) ⟨Sub.aggL (jobC_sub j), vsub _ _ _, trivial⟩ ?_
      rw [htw h1]
      simp only [push_cast, reduceIte, Nat.reduceEqDiff, Nat.reduceAdd, Nat.reduceSub, Nat.reduceMul, Nat.reduceBEq, Nat.reduceLT, Nat.reduceLeDiff, reduceCtorEq, Int.reduceToNat, Int.reduceNeg]
      refine grd_decf rfl (fun h3 => absurd rfl h3) fun _ => ?_
      simp only [push_cast, reduceIte, Nat.reduceEqDiff, Nat.reduceAdd, Nat.reduceSub, Nat.reduceMul, Nat.reduceBEq, Nat.reduceLT, Nat.reduceLeDiff, reduceCtorEq, Int.reduceToNat, Int.reduceNeg]
      refine cal_sub (lcheck_ok _ hj3 a (by omega)) ⟨Sub.aggL (jobC_sub ⟨j.p, ⟨j.g.w, j.g.h, j.g.tracks, (j.p.ins.length : Int) - 1, j.g.kind⟩, j.bad⟩), .slp _ _ _ _ (fun h => by cases h), trivial⟩ ?_
      rw [narrow_ne]
      simp only [push_cast, reduceIte, Nat.reduceEqDiff, Nat.reduceAdd, Nat.reduceSub, Nat.reduceMul, Nat.reduceBEq, Nat.reduceLT, Nat.reduceLeDiff, reduceCtorEq, Int.reduceToNat, Int.reduceNeg]
      rw [show decide ((290 : Int) ≠ 290) = false from rfl]
    · refine cal_sub (lcheck_ok _ hj3 a (by omega)) ⟨Sub.aggL (jobC_sub ⟨j.p, ⟨j.g.w, j.g.h, j.g.tracks, (j.p.ins.length : Int) - 1, j.g.kind⟩, j.bad⟩), .slp _ _ _ _ (fun h => by cases h), trivial⟩ ?_
      rw [narrow_ne]
      simp only [push_cast, reduceIte, Nat.reduceEqDiff, Nat.reduceAdd, Nat.reduceSub, Nat.reduceMul, Nat.reduceBEq, Nat.reduceLT, Nat.reduceLeDiff, reduceCtorEq, Int.reduceToNat, Int.reduceNeg]
      rw [show decide ((290 : Int) ≠ 290) = false from rfl]
  · simp only [push_cast, reduceIte, Nat.reduceEqDiff, Nat.reduceAdd, Nat.reduceSub, Nat.reduceMul, Nat.reduceBEq, Nat.reduceLT, Nat.reduceLeDiff, reduceCtorEq, Int.reduceToNat, Int.reduceNeg]
    refine cal_sub (lcheck_ok j hj (a.set b (j.g.w * j.g.h)) (hls _)) ⟨Sub.aggL (jobC_sub j), vsub _ _ _, trivial⟩ ?_
    rw [checkF_ne fun h => hou h.2.1]
    simp only [push_cast, reduceIte, Nat.reduceEqDiff, Nat.reduceAdd, Nat.reduceSub, Nat.reduceMul, Nat.reduceBEq, Nat.reduceLT, Nat.reduceLeDiff, reduceCtorEq, Int.reduceToNat, Int.reduceNeg]
    refine cal_sub (lcheck_ok j hj (a.set b (-1 - (z.at_.length : Int))) (hls _)) ⟨Sub.aggL (jobC_sub j), vsub _ _ _, trivial⟩ ?_
    rw [checkF_ne fun h => hbe h.2.1]
    simp only [push_cast, reduceIte, Nat.reduceEqDiff, Nat.reduceAdd, Nat.reduceSub, Nat.reduceMul, Nat.reduceBEq, Nat.reduceLT, Nat.reduceLeDiff, reduceCtorEq, Int.reduceToNat, Int.reduceNeg]
    have hld : ((a.drop 1).length : Int) ≤ 1000000 := by simp; omega
    have hnd : (a.drop 1).length ≠ j.p.blocks.length := by simp; omega
    refine ⟨by omega, ?_⟩
    refine cal_sub (lcheck_ok j hj (a.drop 1) hld) ⟨Sub.aggL (jobC_sub j), .slp _ _ _ _ (fun h => by cases h), trivial⟩ ?_
    rw [checkF_ne fun h => len_ne hnd h.2.1]
    simp only [e0, push_cast, reduceIte, Nat.reduceEqDiff, Nat.reduceAdd, Nat.reduceSub, Nat.reduceMul, Nat.reduceBEq, Nat.reduceLT, Nat.reduceLeDiff, reduceCtorEq, Int.reduceToNat, Int.reduceNeg]
    refine ⟨by omega, by simp, by omega, ?_⟩
    rw [List.take_of_length_le (show (a ++ [0]).length ≤ a.length + 1 by simp)]
    refine cal_sub (lcheck_ok j hj (a ++ [0]) (by simp; omega)) ⟨Sub.aggL (jobC_sub j), .refl _, trivial⟩ ?_
    rw [checkF_ne fun h => len_ne (by simp; omega) h.2.1]
    simp only [push_cast, reduceIte, Nat.reduceEqDiff, Nat.reduceAdd, Nat.reduceSub, Nat.reduceMul, Nat.reduceBEq, Nat.reduceLT, Nat.reduceLeDiff, reduceCtorEq, Int.reduceToNat, Int.reduceNeg]
    refine cal_sub (lcost_ok j hj (a.set b (j.g.w * j.g.h)) (hls _)) ⟨Sub.aggL (jobC_sub j), vsub _ _ _, trivial⟩ ?_
    rw [cost1F_ne hou]
    simp only [push_cast, reduceIte, Nat.reduceEqDiff, Nat.reduceAdd, Nat.reduceSub, Nat.reduceMul, Nat.reduceBEq, Nat.reduceLT, Nat.reduceLeDiff, reduceCtorEq, Int.reduceToNat, Int.reduceNeg]
    refine ⟨by omega, ?_⟩
    refine cal_sub (lcost_ok j hj (a.drop 1) hld) ⟨Sub.aggL (jobC_sub j), .slp _ _ _ _ (fun h => by cases h), trivial⟩ ?_
    rw [cost1F_ne (len_ne hnd)]
    simp only [push_cast, reduceIte, Nat.reduceEqDiff, Nat.reduceAdd, Nat.reduceSub, Nat.reduceMul, Nat.reduceBEq, Nat.reduceLT, Nat.reduceLeDiff, reduceCtorEq, Int.reduceToNat, Int.reduceNeg]
end Go.Proofs.Ytbdamnfkgdbidaa
namespace Go.Proofs.Ytbdamnfkgdbidaa
open Go Go.Vc
def GdE (j : Job) (e : Ext) : Prop := -1 ≤ e.x0 ∧ e.x0 ≤ e.x1 ∧ e.x1 ≤ j.g.w ∧ 0 ≤ e.y0 ∧ e.y0 ≤ e.y1 ∧ e.y1 < j.g.h
def GdP (j : Job) (p : Int × Int) : Prop := -1 ≤ p.1 ∧ p.1 ≤ j.g.w ∧ 0 ≤ p.2 ∧ p.2 < j.g.h
theorem spotF_gd {j : Job} (hj : j.Ok) {t : Int} (h : 0 ≤ t ∧ t < j.g.w * j.g.h) : GdP j (spotF j t) := by
  have hw := hj.w
  have h1 := Int.emod_nonneg t (show j.g.w ≠ 0 by omega)
  have h2 := Int.emod_lt_of_pos t hw.1
  have h3 := Int.ediv_nonneg h.1 (show 0 ≤ j.g.w by omega)
  have h4 : t / j.g.w < j.g.h := Int.ediv_lt_of_lt_mul hw.1 (by rw [Int.mul_comm]; exact h.2)
  exact ⟨by show -1 ≤ t % j.g.w; omega, by show t % j.g.w ≤ j.g.w; omega, h3, h4⟩
theorem srcF_gd {j : Job} (hj : j.Ok) {at_ : List Int} (hp : IsPl j at_) {s : Int} (hs : 0 ≤ s ∧ s < j.p.ins.length + 2 * j.p.blocks.length) : GdP j (srcF j at_ s) := by
  unfold srcF
  split
  · have hk : ((s - j.p.ins.length) / 2).toNat < j.p.blocks.length := by omega
    exact spotF_gd hj (isPl_get hp hk).2
  · have hh := hj.h
    have h1 := Int.emod_nonneg s (show j.g.h ≠ 0 by omega)
    have h2 := Int.emod_lt_of_pos s hh.1
    have := hj.w
    exact ⟨by show (-1 : Int) ≤ -1; omega, by show (-1 : Int) ≤ j.g.w; omega, h1, h2⟩
theorem eput_all {Q : Ext → Prop} {M : EM} {s : Int} {e : Ext} (hM : ∀ x ∈ M, Q x.2) (he : Q e) : ∀ x ∈ eput M s e, Q x.2 := by
  induction M with
  | nil => intro x hx; rw [List.mem_singleton.1 hx]; exact he
  | cons y r ih =>
    obtain ⟨k, v⟩ := y
    intro x hx
    simp only [eput] at hx
    split at hx
    · rcases List.mem_cons.1 hx with rfl | hx
      · exact he
      · exact hM x (List.mem_cons_of_mem _ hx)
    · rcases List.mem_cons.1 hx with rfl | hx
      · exact hM _ List.mem_cons_self
      · exact ih (fun y hy => hM y (List.mem_cons_of_mem _ hy)) x hx
theorem stepF_gd {j : Job} (hj : j.Ok) {at_ : List Int} (hp : IsPl j at_) {M : EM} (hM : ∀ x ∈ M, GdE j x.2) {c : Int × Int × Int} (hc : (0 ≤ c.1 ∧ c.1 < j.p.ins.length + 2 * j.p.blocks.length) ∧ GdP j c.2) : ∀ x ∈ stepF j at_ M c, GdE j x.2 := by
  unfold stepF
  refine eput_all hM ?_
  obtain ⟨s1, s2, s3, s4⟩ := srcF_gd hj hp hc.1
  have hg : GdE j ((eget M c.1).getD ⟨(srcF j at_ c.1).1, (srcF j at_ c.1).2, (srcF j at_ c.1).1, (srcF j at_ c.1).2⟩) := by
    cases he : eget M c.1 with
    | none => exact ⟨s1, Int.le_refl _, s2, s3, Int.le_refl _, s4⟩
    | some e =>
      obtain ⟨x, hx, rfl⟩ := eget_mem he
      exact hM x hx
  generalize (eget M c.1).getD _ = e at hg ⊢
  obtain ⟨g1, g2, g3, g4, g5, g6⟩ := hg
  obtain ⟨p1, p2, p3, p4⟩ := hc.2
  unfold extF GdE
  simp only
  omega
theorem foldl_gd {j : Job} (hj : j.Ok) {at_ : List Int} (hp : IsPl j at_) : ∀ (l : List (Int × Int × Int)) (M : EM), (∀ c ∈ l, (0 ≤ c.1 ∧ c.1 < j.p.ins.length + 2 * j.p.blocks.length) ∧ GdP j c.2) → (∀ x ∈ M, GdE j x.2) →
    (∀ x ∈ l.foldl (stepF j at_) M, GdE j x.2) ∧ (l.foldl (stepF j at_) M).length ≤ M.length + l.length
  | [], M, _, h => ⟨h, by simp⟩
  | c :: l, M, hl, h => by
    obtain ⟨h1, h2⟩ := foldl_gd hj hp l (stepF j at_ M c) (fun d hd => hl d (List.mem_cons_of_mem _ hd)) (stepF_gd hj hp h (hl c List.mem_cons_self))
    have h3 : (stepF j at_ M c).length ≤ M.length + 1 := eput_len _ _ _
    exact ⟨h1, by simp only [List.foldl_cons, List.length_cons]; omega⟩
theorem conns_gd {j : Job} (hj : j.Ok) {at_ : List Int} (hp : IsPl j at_) : ∀ c ∈ conns j at_, (0 ≤ c.1 ∧ c.1 < j.p.ins.length + 2 * j.p.blocks.length) ∧ GdP j c.2 := by
  intro c hc
  refine ⟨(conns_bd hj hp c hc).1, ?_⟩
  rcases List.mem_append.1 hc with hc | hc
  · obtain ⟨k, hk, hc⟩ := List.mem_flatMap.1 hc
    obtain ⟨s, _, rfl⟩ := List.mem_map.1 hc
    exact spotF_gd hj (isPl_get hp (List.mem_range.1 hk)).2
  · obtain ⟨o, ho, rfl⟩ := List.mem_map.1 hc
    have hh := hj.h
    have hw := hj.w
    exact ⟨by show -1 ≤ j.g.w; omega, Int.le_refl _, Int.emod_nonneg _ (by omega), Int.emod_lt_of_pos _ hh.1⟩
theorem connsB_len4 {j : Job} (h4 : ∀ b ∈ j.p.blocks, (b.ins.length : Int) ≤ 4) (at_ : List Int) : ∀ k, k ≤ j.p.blocks.length → (connsB j at_ k).length ≤ k * 4
  | 0, _ => by simp [connsB]
  | k + 1, hk => by
    rw [connsB_succ, List.length_append]
    have h1 := connsB_len4 h4 at_ k (by omega)
    have hm : j.p.blocks.getD k default ∈ j.p.blocks := by simp [List.getD_eq_getElem?_getD, show k < j.p.blocks.length by omega]
    have h2 := h4 _ hm
    have h3 : (connB j at_ k).length = (j.p.blocks.getD k default).ins.length := by simp [connB]
    omega
theorem costF_small {j : Job} (hj : j.Ok) (hw : j.g.w ≤ 5) (hh : j.g.h ≤ 5) (hb : j.p.blocks.length ≤ 9) (h4 : ∀ b ∈ j.p.blocks, (b.ins.length : Int) ≤ 4) (hd : (j.p.drive.length : Int) ≤ 4) {at_ : List Int} (hp : IsPl j at_) :
    0 ≤ costF j at_ ∧ costF j at_ ≤ 400 := by
  obtain ⟨h1, h2⟩ := foldl_gd hj hp (conns j at_) [] (conns_gd hj hp) (fun x hx => by cases hx)
  have h3 : (conns j at_).length ≤ 40 := by
    have := connsB_len4 h4 at_ j.p.blocks.length (Nat.le_refl _)
    have e : (connsD j j.p.drive.length).length = j.p.drive.length := by simp [connsD]
    unfold conns
    rw [List.length_append]
    omega
  have key : ∀ L : EM, (∀ x ∈ L, GdE j x.2) → 0 ≤ emLen L ∧ emLen L ≤ 10 * (L.length : Int) := by
    intro L
    induction L with
    | nil => intro _; exact ⟨by simp [emLen], by simp [emLen]⟩
    | cons x r ih =>
      intro h
      have h3 := ih fun y hy => h y (List.mem_cons_of_mem _ hy)
      obtain ⟨b1, b2, b3, b4, b5, b6⟩ := h x List.mem_cons_self
      have e : emLen (x :: r) = extLen x.2 + emLen r := by simp [emLen]
      have e2 : extLen x.2 = x.2.x1 - x.2.x0 + x.2.y1 - x.2.y0 := rfl
      simp only [List.length_cons]
      omega
  have h5 := key _ h1
  simp only [List.length_nil] at h2
  have : costF j at_ = emLen ((conns j at_).foldl (stepF j at_) []) := rfl
  omega
theorem checkF_not {j : Job} {a : List Int} (h : checkF j a ≠ 0) : checkF j a = 290 := by
  unfold checkF at h ⊢
  split
  · rename_i h1; rw [if_pos h1] at h; exact absurd rfl h
  · rfl
theorem tile_tot (j : Job) (fx : List Int) (k : Nat) (s : Im) (t : Nat) : s.2.2 ≤ (tileStep j fx k s t).2.2 ∧ ((tileStep j fx k s t).2.2 = s.2.2 → tileStep j fx k s t = s) := by
  unfold tileStep
  split
  · exact ⟨Int.le_refl _, fun _ => rfl⟩
  · split
    · exact ⟨by show s.2.2 ≤ s.2.2 + 1; omega, fun h => by have : s.2.2 + 1 = s.2.2 := h; omega⟩
    · exact ⟨Int.le_refl _, fun _ => rfl⟩
theorem tiles_tot (j : Job) (fx : List Int) (k : Nat) : ∀ (l : List Nat) (s : Im), s.2.2 ≤ (l.foldl (tileStep j fx k) s).2.2 ∧ ((l.foldl (tileStep j fx k) s).2.2 = s.2.2 → l.foldl (tileStep j fx k) s = s ∧ ∀ t ∈ l, tileStep j fx k s t = s)
  | [], s => ⟨Int.le_refl _, fun _ => ⟨rfl, fun t ht => by cases ht⟩⟩
  | t :: l, s => by
    obtain ⟨a1, a2⟩ := tile_tot j fx k s t
    obtain ⟨b1, b2⟩ := tiles_tot j fx k l (tileStep j fx k s t)
    refine ⟨Int.le_trans a1 b1, fun h => ?_⟩
    have h : (l.foldl (tileStep j fx k) (tileStep j fx k s t)).2.2 = s.2.2 := h
    have e1 := a2 (by omega)
    obtain ⟨e2, e3⟩ := b2 (by omega)
    rw [e1] at e2 e3
    refine ⟨?_, fun u hu => ?_⟩
    · show l.foldl (tileStep j fx k) (tileStep j fx k s t) = s
      rw [e1]; exact e2
    · rcases List.mem_cons.1 hu with rfl | hu
      · exact e1
      · exact e3 u hu
theorem blocks_tot (j : Job) (fx : List Int) : ∀ (l : List Nat) (s : Im), s.2.2 ≤ (l.foldl (blockStep j fx) s).2.2 ∧ ((l.foldl (blockStep j fx) s).2.2 = s.2.2 → l.foldl (blockStep j fx) s = s ∧ ∀ k ∈ l, ∀ t : Nat, t < j.g.kind.length → tileStep j fx k s t = s)
  | [], s => ⟨Int.le_refl _, fun _ => ⟨rfl, fun t ht => by cases ht⟩⟩
  | k :: l, s => by
    obtain ⟨a1, a2⟩ := tiles_tot j fx k (List.range j.g.kind.length) s
    obtain ⟨b1, b2⟩ := blocks_tot j fx l (blockStep j fx s k)
    have a1 : s.2.2 ≤ (blockStep j fx s k).2.2 := a1
    have a2 : (blockStep j fx s k).2.2 = s.2.2 → blockStep j fx s k = s ∧ ∀ t ∈ List.range j.g.kind.length, tileStep j fx k s t = s := a2
    refine ⟨Int.le_trans a1 b1, fun h => ?_⟩
    have h : (l.foldl (blockStep j fx) (blockStep j fx s k)).2.2 = s.2.2 := h
    obtain ⟨e1, e0⟩ := a2 (by omega)
    obtain ⟨e2, e3⟩ := b2 (by omega)
    rw [e1] at e2 e3
    refine ⟨?_, fun u hu t ht => ?_⟩
    · show l.foldl (blockStep j fx) (blockStep j fx s k) = s
      rw [e1]; exact e2
    · rcases List.mem_cons.1 hu with rfl | hu
      · exact e0 t (List.mem_range.2 ht)
      · exact e3 u hu t ht
def Fixed (j : Job) (fx : List Int) (n : Nat) (s : Im) : Prop := ∀ k : Nat, k < n → ∀ t : Nat, t < j.g.kind.length → tileStep j fx k s t = s
theorem pass_tot (j : Job) (fx : List Int) (n : Nat) (s : Im) : s.2.2 ≤ (passStep j fx n s).2.2 ∧ ((passStep j fx n s).2.2 = s.2.2 → passStep j fx n s = s ∧ Fixed j fx n s) := by
  obtain ⟨h1, h2⟩ := blocks_tot j fx (List.range n) s
  exact ⟨h1, fun h => ⟨(h2 h).1, fun k hk t ht => (h2 h).2 k (List.mem_range.2 hk) t ht⟩⟩
theorem passes_tot (j : Job) (fx : List Int) (n : Nat) : ∀ (p : Nat) (s : Im), s.2.2 ≤ (passesF j fx n p s).2.2 ∧ ((passesF j fx n p s).2.2 = s.2.2 → passesF j fx n p s = s) ∧ (Fixed j fx n (passesF j fx n p s) ∨ s.2.2 + p ≤ (passesF j fx n p s).2.2)
  | 0, s => ⟨Int.le_refl _, fun _ => rfl, .inr (by show s.2.2 + ((0 : Nat) : Int) ≤ s.2.2; omega)⟩
  | p + 1, s => by
    obtain ⟨a1, a2⟩ := pass_tot j fx n s
    obtain ⟨b1, b2, b3⟩ := passes_tot j fx n p (passStep j fx n s)
    have e : passesF j fx n (p + 1) s = if (passStep j fx n s).2.2 = s.2.2 then passStep j fx n s else passesF j fx n p (passStep j fx n s) := rfl
    rw [e]
    split
    · rename_i h
      obtain ⟨e1, e2⟩ := a2 h
      rw [e1]
      exact ⟨Int.le_refl _, fun _ => rfl, .inl e2⟩
    · rename_i h
      refine ⟨by omega, fun h1 => absurd h1 (by omega), b3.imp id fun h1 => by omega⟩
theorem exch_allowed {j : Job} {fx a : List Int} {b t : Nat} (hp : IsPl j a) (hb : b < a.length) (h : allowedF j a fx b t = true) : exchF j fx a b t = some (exchangedF a b t) := by
  unfold allowedF at h
  rw [Int.toNat_natCast] at h
  split at h
  · cases h
  rename_i h1
  rw [List.all_eq_true] at h
  have hbt : a.getD b default ≠ t := fun e => h1 (.inl e.symm)
  have hab : a.getD b default = a[b] := by simp [hb]
  unfold exchF exchangedF
  simp only [Int.toNat_natCast]
  rw [if_neg (fun hh => h1 (hh.imp (fun e => e.symm) id))]
  by_cases ho : 0 ≤ fidx (fun x => decide (x = (t : Int))) a
  · obtain ⟨o, e, ho1, hpo, _⟩ := fidx_spec ho
    have hot : a[o] = t := by simpa using hpo
    have hgo : a.getD o default = t := by rw [← hot]; simp [ho1]
    have ho2 := h o (List.mem_range.2 ho1)
    rw [hgo] at ho2
    simp at ho2
    have hob : o ≠ b := fun e => by subst e; exact hbt hgo
    rw [e, if_neg (fun hh => by
      rcases hh.2 with h3 | h3
      · exact ho2.1 h3
      · rw [hab] at h3; simp only [List.getD_eq_getElem?_getD, List.getElem?_eq_getElem hb, Option.getD_some] at ho2; rw [ho2.2] at h3; cases h3), if_pos (by omega), Int.toNat_natCast]
    refine congrArg some (List.ext_getElem (by simp) fun m h3 h4 => ?_)
    simp only [List.length_set] at h3
    simp only [List.getElem_set, List.getElem_map]
    by_cases e1 : o = m
    · subst e1
      rw [if_pos rfl, if_neg (fun e => hob e.symm), if_pos hot]
    · rw [if_neg e1]
      by_cases e2 : b = m
      · rw [if_pos e2, if_pos e2]
      · rw [if_neg e2, if_neg e2, if_neg (fun e3 => e1 (nodup_inj hp.2.2 ho1 h3 (hot.trans e3.symm)))]
  · have hn := fidx_neg ho
    rw [if_neg (fun hh => ho hh.1), if_neg ho]
    refine congrArg some (congrArg (fun l : List Int => l.set b (t : Int)) ?_)
    rw [eq_comm]
    refine (List.map_congr_left fun x hx => ?_).trans (List.map_id a)
    have := hn x hx
    rw [if_neg (by simpa using this)]
    rfl
theorem improves_law {j : Job} (hj : j.Ok) (hw : j.g.w ≤ 5) (hh : j.g.h ≤ 5) (hb : j.p.blocks.length ≤ 9) (h4 : ∀ b ∈ j.p.blocks, (b.ins.length : Int) ≤ 4) (hd : (j.p.drive.length : Int) ≤ 4) {fx a : List Int} (hc : checkF j a = 0) {r : Im} (hr : improveF j fx a 1000 = r) :
    r.1.length = a.length ∧ checkF j r.1 = 0 ∧ cost1F j a = (costF j a, 0) ∧ cost1F j r.1 = (r.2.1, 0) ∧ 0 ≤ r.2.2 ∧ r.2.2 + r.2.1 ≤ costF j a ∧ (0 ≤ costF j a ∧ costF j a ≤ 400) ∧ (0 ≤ r.2.1 ∧ r.2.1 ≤ 400) ∧ (r.2.2 = 0 ↔ r.1 = a) ∧
      (∀ b : Nat, (b : Int) ∈ fx → r.1.getD b default = a.getD b default) ∧
      ∀ b t : Nat, b < a.length → t < j.g.kind.length → allowedF j r.1 fx b t = true → (cost1F j (exchangedF r.1 b t)).2 = 0 ∧ r.2.1 ≤ (cost1F j (exchangedF r.1 b t)).1 := by
  obtain ⟨c1, c2, c3⟩ := checkF_zero_iff.1 hc
  have hk := improveF_keeps (fx := fx) c2 1000
  have ht := passes_tot j fx a.length 1000 (a, costF j a, 0)
  rw [show passesF j fx a.length 1000 (a, costF j a, 0) = r from hr] at ht
  rw [hr] at hk
  have hlow := hk.ok.low
  have hlen := hk.ok.len
  have hca := costF_small hj hw hh hb h4 hd c2
  have hcr := costF_small hj hw hh hb h4 hd hk.ok.pl
  rw [← hk.ok.cost] at hcr
  have hfix : Fixed j fx a.length r := by
    rcases ht.2.2 with h | h
    · exact h
    · have h : (0 : Int) + (1000 : Nat) ≤ r.2.2 := h
      omega
  refine ⟨hlen, checkF_zero_iff.2 ⟨c1, hk.ok.pl, hk.suit c3⟩, by rw [cost1F, if_pos c2], by rw [cost1F, if_pos hk.ok.pl, hk.ok.cost], hk.ok.tot, hlow, hca, hcr, ⟨fun h0 => ?_, fun h0 => ?_⟩, hk.fix, fun b t hb1 ht1 hal => ?_⟩
  · have := ht.2.1 h0
    rw [this]
  · have h1 := hk.ok.cost
    rw [h0] at h1
    have := hk.ok.tot
    omega
  · have he := exch_allowed hk.ok.pl (by omega) hal
    have hpl := exch_isPl hk.ok.pl (by omega) he
    have hf := hfix b hb1 t ht1
    unfold tileStep at hf
    rw [he] at hf
    simp only at hf
    rw [cost1F, if_pos hpl]
    refine ⟨rfl, ?_⟩
    split at hf
    · rename_i hlt
      have h1 := congrArg (fun x : Im => x.2.2) hf
      simp only at h1
      omega
    · rename_i hlt
      show r.2.1 ≤ costF j (exchangedF r.1 b t)
      omega
end Go.Proofs.Ytbdamnfkgdbidaa
