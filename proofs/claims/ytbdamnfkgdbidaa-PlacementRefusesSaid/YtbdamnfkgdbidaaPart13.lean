/- BB CC DD TxtD FF GG HH PRefuses: PlacementRefuses holds for every described packing, every described grid and all odd numbers: the row. -/
import Derived.Test.YtbdamnfkgdbidaaPart11
import Derived.Test.YtbdamnfkgdbidaaPart12
import Derived.Test.YtbdamnfkgdbidaaPart07
import Derived.Test.YtbdamnfkgdbidaaPart05
import Derived.Test.YtbdamnfkgdbidaaChecked
import Derived.Test.YtbdamnfkgdbidaaRows
set_option linter.unusedSimpArgs false
set_option linter.unusedVariables false
/- plain laws: what an improvement keeps -/
namespace Go.Proofs.Ytbdamnfkgdbidaa
open Go Go.Vc

/-- All blocks stand on tiles that suit them. -/
def Suited (j : Job) (a : List Int) : Prop := ∀ i : Nat, i < a.length → suitsR j i (a.getD i default) = true
theorem checkF_zero_iff {j : Job} {a : List Int} : checkF j a = 0 ↔ Fits j ∧ IsPl j a ∧ Suited j a := by
  have e : (List.range a.length).all (fun k => suitsR j k (a.getD k default)) = true ↔ Suited j a := by
    rw [List.all_eq_true]
    exact ⟨fun h i hi => h i (List.mem_range.2 hi), fun h i hi => h i (List.mem_range.1 hi)⟩
  unfold checkF
  constructor
  · intro h
    split at h
    · rename_i h1
      exact ⟨h1.1, h1.2.1, e.1 h1.2.2⟩
    · cases h
  · rintro ⟨h1, h2, h3⟩
    rw [if_pos ⟨h1, h2, e.2 h3⟩]

theorem getD_set_eq {a : List Int} {k : Nat} (h : k < a.length) (x : Int) : (a.set k x).getD k default = x := by simp [List.getD_eq_getElem?_getD, h]
theorem getD_set_ne {a : List Int} {k i : Nat} (h : k ≠ i) (x : Int) : (a.set k x).getD i default = a.getD i default := by simp [List.getD_eq_getElem?_getD, List.getElem?_set_ne h]

/-- What an exchange does. -/
theorem exch_spec {j : Job} {fx at_ a : List Int} {k t : Nat} (hp : IsPl j at_) (hk : k < at_.length) (h : exchF j fx at_ k t = some a) :
    (k : Int) ∉ fx ∧ suitsR j k t = true ∧ at_.getD k default ≠ t ∧
      ((∃ o : Nat, o < at_.length ∧ at_.getD o default = t ∧ o ≠ k ∧ (o : Int) ∉ fx ∧ suitsR j o (at_.getD k default) = true ∧ a = (at_.set k t).set o (at_.getD k default)) ∨
       ((t : Int) ∉ at_ ∧ a = at_.set k t)) := by
  unfold exchF at h
  simp only at h
  split at h
  · cases h
  rename_i h1
  split at h
  · cases h
  rename_i h2
  injection h with h
  have hs : suitsR j k t = true := by cases hc : suitsR j k t <;> simp_all
  refine ⟨fun hh => h1 (.inr (.inl hh)), hs, fun hh => h1 (.inl hh), ?_⟩
  subst h
  split
  · rename_i ho
    obtain ⟨i, e, hi, hpi, _⟩ := fidx_spec ho
    rw [e] at h2 ⊢
    have hpi : at_[i] = t := by simpa using hpi
    have hgi : at_.getD i default = t := by rw [← hpi]; simp [hi]
    refine .inl ⟨i, hi, hgi, fun e => ?_, fun hh => h2 ⟨by omega, .inl hh⟩, ?_, rfl⟩
    · subst e; exact h1 (.inl hgi)
    · cases hc : suitsR j i (at_.getD k default)
      · exact absurd ⟨by omega, .inr hc⟩ h2
      · rfl
  · rename_i ho
    refine .inr ⟨fun hm => ?_, rfl⟩
    have := fidx_neg ho _ hm
    simp at this

/-- An exchange keeps what suits, and the fixed blocks. -/
theorem exch_keeps {j : Job} {fx at_ a : List Int} {k t : Nat} (hp : IsPl j at_) (hk : k < at_.length) (h : exchF j fx at_ k t = some a) :
    (Suited j at_ → Suited j a) ∧ ∀ i : Nat, (i : Int) ∈ fx → a.getD i default = at_.getD i default := by
  obtain ⟨h1, h2, h3, h4⟩ := exch_spec hp hk h
  have hl := (exch_undo hk h).1
  rcases h4 with ⟨o, ho, hot, hok, hof, hos, rfl⟩ | ⟨ht, rfl⟩
  · refine ⟨fun hs i hi => ?_, fun i hi => ?_⟩
    · rw [hl] at hi
      by_cases e1 : o = i
      · subst e1; rw [getD_set_eq (by simpa using ho)]; exact hos
      · rw [getD_set_ne e1]
        by_cases e2 : k = i
        · subst e2; rw [getD_set_eq hk]; exact h2
        · rw [getD_set_ne e2]; exact hs i hi
    · have e1 : o ≠ i := fun e => hof (e ▸ hi)
      have e2 : k ≠ i := fun e => h1 (e ▸ hi)
      rw [getD_set_ne e1, getD_set_ne e2]
  · refine ⟨fun hs i hi => ?_, fun i hi => ?_⟩
    · rw [hl] at hi
      by_cases e2 : k = i
      · subst e2; rw [getD_set_eq hk]; exact h2
      · rw [getD_set_ne e2]; exact hs i hi
    · have e2 : k ≠ i := fun e => h1 (e ▸ hi)
      rw [getD_set_ne e2]

/-- What holds on the way from one placement on. -/
structure Keeps (j : Job) (fx at0 : List Int) (s : Im) : Prop where
  ok : ImOk j at0 s
  suit : Suited j at0 → Suited j s.1
  fix : ∀ i : Nat, (i : Int) ∈ fx → s.1.getD i default = at0.getD i default
theorem tile_keeps {j : Job} {fx at0 : List Int} {k : Nat} {s : Im} (h : Keeps j fx at0 s) (hk : k < at0.length) (t : Nat) : Keeps j fx at0 (tileStep j fx k s t) := by
  refine ⟨tileStep_ok h.ok hk t, ?_, ?_⟩
  all_goals
    have hl := h.ok.len
    unfold tileStep
    cases he : exchF j fx s.1 k t with
    | none => first | exact h.suit | exact h.fix
    | some a =>
      obtain ⟨e1, e2⟩ := exch_keeps h.ok.pl (by omega) he
      simp only
      split
      · first
          | exact fun hs => e1 (h.suit hs)
          | exact fun i hi => (e2 i hi).trans (h.fix i hi)
      · first | exact h.suit | exact h.fix
theorem tiles_keeps {j : Job} {fx at0 : List Int} {k : Nat} (hk : k < at0.length) : ∀ (l : List Nat) {s : Im}, Keeps j fx at0 s → Keeps j fx at0 (l.foldl (tileStep j fx k) s)
  | [], _, h => h
  | t :: l, _, h => tiles_keeps hk l (tile_keeps h hk t)
theorem blocks_keeps {j : Job} {fx at0 : List Int} : ∀ (l : List Nat) {s : Im}, (∀ k ∈ l, k < at0.length) → Keeps j fx at0 s → Keeps j fx at0 (l.foldl (blockStep j fx) s)
  | [], _, _, h => h
  | k :: l, _, hl, h => blocks_keeps l (fun m hm => hl m (List.mem_cons_of_mem _ hm)) (tiles_keeps (hl k List.mem_cons_self) _ h)
theorem pass_keeps {j : Job} {fx at0 : List Int} {s : Im} (h : Keeps j fx at0 s) : Keeps j fx at0 (passStep j fx at0.length s) := blocks_keeps (List.range at0.length) (fun k hk => List.mem_range.1 hk) h
theorem passes_keeps {j : Job} {fx at0 : List Int} : ∀ (p : Nat) {s : Im}, Keeps j fx at0 s → Keeps j fx at0 (passesF j fx at0.length p s)
  | 0, _, h => h
  | p + 1, s, h => by
    have h1 := pass_keeps h
    simp only [passesF]
    split
    · exact h1
    · exact passes_keeps p h1
theorem keeps_init {j : Job} {fx at0 : List Int} (hp : IsPl j at0) : Keeps j fx at0 (at0, costF j at0, 0) :=
  ⟨⟨hp, rfl, rfl, by show (0 : Int) ≤ 0; omega, by show 0 + costF j at0 ≤ _; omega⟩, id, fun _ _ => rfl⟩
theorem improveF_keeps {j : Job} {fx at0 : List Int} (hp : IsPl j at0) (p : Nat) : Keeps j fx at0 (improveF j fx at0 p) := passes_keeps p (keeps_init hp)

/-- No pass makes the cost greater. -/
theorem tile_le {j : Job} {fx : List Int} {k : Nat} (s : Im) (t : Nat) : (tileStep j fx k s t).2.1 ≤ s.2.1 := by
  unfold tileStep
  split
  · exact Int.le_refl _
  · split
    · rename_i h; exact Int.le_of_lt h
    · exact Int.le_refl _
theorem tiles_le {j : Job} {fx : List Int} {k : Nat} : ∀ (l : List Nat) (s : Im), (l.foldl (tileStep j fx k) s).2.1 ≤ s.2.1
  | [], _ => Int.le_refl _
  | t :: l, s => Int.le_trans (tiles_le l _) (tile_le s t)
theorem blocks_le {j : Job} {fx : List Int} : ∀ (l : List Nat) (s : Im), (l.foldl (blockStep j fx) s).2.1 ≤ s.2.1
  | [], _ => Int.le_refl _
  | k :: l, s => Int.le_trans (blocks_le l _) (tiles_le _ s)
theorem passes_le {j : Job} {fx : List Int} {n : Nat} : ∀ (p : Nat) (s : Im), (passesF j fx n (p + 1) s).2.1 ≤ (passesF j fx n p s).2.1
  | 0, s => by
    simp only [passesF]
    have : (passStep j fx n s).2.1 ≤ s.2.1 := blocks_le _ s
    split <;> exact this
  | p + 1, s => by
    have ih := passes_le (j := j) (fx := fx) (n := n) p (passStep j fx n s)
    show (if (passStep j fx n s).2.2 = s.2.2 then passStep j fx n s else passesF j fx n (p + 1) (passStep j fx n s)).2.1 ≤ (if (passStep j fx n s).2.2 = s.2.2 then passStep j fx n s else passesF j fx n p (passStep j fx n s)).2.1
    split
    · exact Int.le_refl _
    · exact ih

/-! What Place makes. -/
def SuitedP (j : Job) (a : List Int) : Prop := ∀ i : Nat, 0 ≤ a.getD i default → i < a.length → suitsR j i (a.getD i default) = true
theorem suitedP_set {j : Job} {a : List Int} {i : Nat} {t : Int} (h : SuitedP j a) (hs : suitsR j i t = true) : SuitedP j (a.set i t) := by
  intro m h0 hm
  rw [List.length_set] at hm
  by_cases e : i = m
  · subst e; rw [getD_set_eq hm]; exact hs
  · rw [getD_set_ne e] at h0 ⊢; exact h m h0 hm
theorem keepF_spec {j : Job} : ∀ (l : List Int) (i : Nat) (s s' : List Int × List Int), keepF j l i s = some s' → i + l.length ≤ s.1.length → SuitedP j s.1 →
    SuitedP j s'.1 ∧ s'.1.length = s.1.length ∧ (∀ m : Nat, m < l.length → l.getD m default ≠ -1 → s'.1.getD (i + m) default = l.getD m default ∧ ((i + m : Nat) : Int) ∈ s'.2) ∧
      (∀ m : Nat, m < i → s'.1.getD m default = s.1.getD m default) ∧ ∀ x ∈ s.2, x ∈ s'.2
  | [], _, s, s', h, _, hs => by cases h; exact ⟨hs, rfl, fun m hm => absurd hm (by simp), fun _ _ => rfl, fun _ h => h⟩
  | t :: r, i, s, s', h, hl, hs => by
    simp only [List.length_cons] at hl
    simp only [keepF] at h
    split at h
    · rename_i ht
      obtain ⟨h1, h2, h3, h4, h5⟩ := keepF_spec r (i + 1) s s' h (by omega) hs
      refine ⟨h1, h2, fun m hm hne => ?_, fun m hm => h4 m (by omega), h5⟩
      cases m with
      | zero => exact absurd ht hne
      | succ m =>
        have := h3 m (by simpa using hm) (by simpa using hne)
        rw [show i + 1 + m = i + (m + 1) by omega] at this
        simpa using this
    · rename_i ht
      split at h
      · cases h
      · rename_i hn
        have hsu : suitsR j i t = true := by cases hc : suitsR j i t <;> simp_all
        obtain ⟨h1, h2, h3, h4, h5⟩ := keepF_spec r (i + 1) _ s' h (by simp only [List.length_set]; omega) (suitedP_set hs hsu)
        refine ⟨h1, by rw [h2]; simp, fun m hm hne => ?_, fun m hm => ?_, fun x hx => h5 x (List.mem_append_left _ hx)⟩
        · cases m with
          | zero =>
            have := h4 i (by omega)
            simp only [getD_set_eq (show i < s.1.length by omega)] at this
            exact ⟨this, h5 _ (List.mem_append_right _ (by simp))⟩
          | succ m =>
            have := h3 m (by simpa using hm) (by simpa using hne)
            rw [show i + 1 + m = i + (m + 1) by omega] at this
            simpa using this
        · have := h4 m (by omega)
          simp only [getD_set_ne (show i ≠ m by omega)] at this
          exact this
theorem fillStep_suit {j : Job} {reads : Bool} {a a' : List Int} {b : Nat} (h : fillStep j reads a b = some a') (hs : SuitedP j a) : SuitedP j a' := by
  unfold fillStep at h
  split at h
  · cases h; exact hs
  · split at h
    · cases h
    · rename_i t ht
      cases h
      exact suitedP_set hs (findT_spec ht).1
theorem fillF_suit {j : Job} {reads : Bool} : ∀ (n b : Nat) (a a' : List Int), fillF j reads n b a = some a' → SuitedP j a → SuitedP j a'
  | 0, _, a, a', h, hs => by cases h; exact hs
  | n + 1, b, a, a', h, hs => by
    simp only [fillF] at h
    split at h
    · cases h
    · rename_i a1 h1
      exact fillF_suit n (b + 1) a1 a' h (fillStep_suit h1 hs)
theorem fillAll_suit {j : Job} : ∀ (l : List Bool) (a a' : List Int), fillAll j l a = some a' → SuitedP j a → SuitedP j a'
  | [], a, a', h, hs => by cases h; exact hs
  | r :: rs, a, a', h, hs => by
    simp only [fillAll] at h
    split at h
    · cases h
    · rename_i a1 h1
      exact fillAll_suit rs a1 a' h (fillF_suit _ _ _ _ h1 hs)

/-- Whatever the passes are: an error, or the improvement of one placement, on which the fixed blocks stand where they should. -/
theorem placeF_spec (j : Job) (fx : List Int) (hl : fx.length = j.p.blocks.length ∨ fx = []) :
    (∃ e : Int, (e = 290 ∨ e = 4) ∧ ∀ p : Int, 0 ≤ p → p ≤ 1000 → placeF j fx p = ([], e)) ∨
    (∃ a kept : List Int, Fits j ∧ IsPl j a ∧ Suited j a ∧ (∀ i : Nat, i < fx.length → 0 ≤ fx.getD i default → a.getD i default = fx.getD i default ∧ (i : Int) ∈ kept) ∧
      ∀ p : Int, 0 ≤ p → p ≤ 1000 → placeF j fx p = ((improveF j kept a p.toNat).1, 0)) := by
  have h0 : ∀ p : Int, 0 ≤ p → p ≤ 1000 → ¬ (p < 0 ∨ 1000 < p ∨ ((fx.length : Int) ≠ 0 ∧ (fx.length : Int) ≠ j.p.blocks.length)) := fun p h1 h2 => by
    rcases hl with hl | hl
    · omega
    · subst hl; simp; omega
  by_cases hF : Fits j
  · cases hk : keepF j fx 0 (List.replicate j.p.blocks.length (-1), []) with
    | none => exact .inl ⟨290, .inl rfl, fun p h1 h2 => by rw [placeF, if_neg (h0 p h1 h2), if_neg (fun h => h hF), hk]⟩
    | some s =>
      have hinit : SuitedP j (List.replicate j.p.blocks.length (-1)) := fun i hi hl => by
        rw [List.length_replicate] at hl
        simp [List.getD_eq_getElem?_getD, hl] at hi
      obtain ⟨k1, k2, k3, _, _⟩ := keepF_spec fx 0 _ s hk (by
        rcases hl with hl | hl
        · simp [hl]
        · subst hl; simp) hinit
      have hpart := (keepF_part fx 0 _ s hk (part_init j)).1
      cases hf : fillAll j [true, false] s.1 with
      | none => exact .inl ⟨4, .inr rfl, fun p h1 h2 => by rw [placeF, if_neg (h0 p h1 h2), if_neg (fun h => h hF), hk]; simp only [tailF, hf]⟩
      | some a =>
        obtain ⟨hpl, hst⟩ := fillAll_pl hf hpart
        have hsu := fillAll_suit _ _ _ hf k1
        refine .inr ⟨a, s.2, hF, hpl, fun i hi => hsu i ?_ hi, fun i hi h1 => ?_, fun p h1 h2 => by rw [placeF, if_neg (h0 p h1 h2), if_neg (fun h => h hF), hk]; simp only [tailF, hf]⟩
        · have := hpl.2.1 (a.getD i default) (by simp [List.getD_eq_getElem?_getD, hi])
          exact this.1
        · have h3 := k3 i hi (by omega)
          rw [Nat.zero_add] at h3
          refine ⟨?_, h3.2⟩
          rw [hst i (by rw [h3.1]; exact h1), h3.1]
  · exact .inl ⟨290, .inl rfl, fun p h1 h2 => by rw [placeF, if_neg (h0 p h1 h2), if_pos hF]⟩
end Go.Proofs.Ytbdamnfkgdbidaa
/- PlacementLegal: the law's function answers true -/
namespace Go.Proofs.Ytbdamnfkgdbidaa
open Go Go.Vc Txt

structure RawP.By (x : RawP) : Prop where
  ins : 0 ≤ x.ins ∧ x.ins ≤ 255
  out : 0 ≤ x.out ∧ x.out ≤ 255
  six : ∀ b ∈ x.blocks, b.length = 6
  byte : ∀ b ∈ x.blocks, ∀ v ∈ b, 0 ≤ v ∧ v ≤ 255
structure RawG.By (x : RawG) : Prop where
  w : 0 ≤ x.w ∧ x.w ≤ 255
  h : 0 ≤ x.h ∧ x.h ≤ 255
  tracks : 0 ≤ x.tracks ∧ x.tracks ≤ 255
  pads : 0 ≤ x.pads ∧ x.pads ≤ 255
  kind : ∀ k ∈ x.kind, 0 ≤ k ∧ k ≤ 255
structure Odd.By (z : Odd) : Prop where
  bad : ∀ b ∈ z.bad, 0 ≤ b ∧ b ≤ 255
  at_ : ∀ b ∈ z.at_, 0 ≤ b ∧ b ≤ 255
  fixed : ∀ b ∈ z.fixed, 0 ≤ b ∧ b ≤ 255
  any : ∀ b ∈ z.any, -9223372036854775808 ≤ b ∧ b ≤ 9223372036854775807
  some_ : ∀ b ∈ z.some_, -9223372036854775808 ≤ b ∧ b ≤ 9223372036854775807
  block : -9223372036854775808 ≤ z.block ∧ z.block ≤ 9223372036854775807
  tile : -9223372036854775808 ≤ z.tile ∧ z.tile ≤ 9223372036854775807
  passes : -9223372036854775808 ≤ z.passes ∧ z.passes ≤ 9223372036854775807
theorem RawP.By.ok {x : RawP} (h : x.By) (hl : x.blocks.length ≤ 9) : x.Ok := ⟨h.ins, h.out, by omega, h.six, h.byte⟩
theorem RawG.By.ok {x : RawG} (h : x.By) (hl : x.kind.length ≤ 40) : x.Ok := ⟨h.w, h.h, h.tracks, h.pads, by omega, h.kind⟩

set_option maxHeartbeats 2000000 in
theorem legal_ok (x : RawP) (hx : x.By) (y : RawG) (hy : y.By) (z : Odd) (hz : z.By) :
    FnEq Try.prog 4 [.agg (rawPC false x), .agg (rawGC false y), .agg (oddC false z)] (.bool true) := by
  refine FnEq.of_awp Try.func4 ok4 (by show 3 ≤ _; decide) (by simp only [push_cast, reduceIte, Nat.reduceEqDiff, Nat.reduceAdd, Nat.reduceSub, Nat.reduceMul, Nat.reduceBEq, Nat.reduceLT, Nat.reduceLeDiff, reduceCtorEq, Int.reduceToNat, Int.reduceNeg] <;> first | exact fun _ _ => trivial | simp) ?_
  simp only [ac4, rv4, push_cast, reduceIte, Nat.reduceEqDiff, Nat.reduceAdd, Nat.reduceSub, Nat.reduceMul, Nat.reduceBEq, Nat.reduceLT, Nat.reduceLeDiff, reduceCtorEq, Int.reduceToNat, Int.reduceNeg]
  refine cal_sub examples_ok (by simp only [push_cast, reduceIte, Nat.reduceEqDiff, Nat.reduceAdd, Nat.reduceSub, Nat.reduceMul, Nat.reduceBEq, Nat.reduceLT, Nat.reduceLeDiff, reduceCtorEq, Int.reduceToNat, Int.reduceNeg]) ?_
  simp only [push_cast, reduceIte, Nat.reduceEqDiff, Nat.reduceAdd, Nat.reduceSub, Nat.reduceMul, Nat.reduceBEq, Nat.reduceLT, Nat.reduceLeDiff, reduceCtorEq, Int.reduceToNat, Int.reduceNeg]
  refine cal_sub (small_ok x y z) (by simp only [push_cast, reduceIte, Nat.reduceEqDiff, Nat.reduceAdd, Nat.reduceSub, Nat.reduceMul, Nat.reduceBEq, Nat.reduceLT, Nat.reduceLeDiff, reduceCtorEq, Int.reduceToNat, Int.reduceNeg]) ?_
  simp only [push_cast, reduceIte, Nat.reduceEqDiff, Nat.reduceAdd, Nat.reduceSub, Nat.reduceMul, Nat.reduceBEq, Nat.reduceLT, Nat.reduceLeDiff, reduceCtorEq, Int.reduceToNat, Int.reduceNeg]
  refine cond_of (fun h => ?_) fun h => ?_
  · simp only [push_cast, reduceIte, Nat.reduceEqDiff, Nat.reduceAdd, Nat.reduceSub, Nat.reduceMul, Nat.reduceBEq, Nat.reduceLT, Nat.reduceLeDiff, reduceCtorEq, Int.reduceToNat, Int.reduceNeg]
    done
  have hs : Small x y z := by simpa using h
  have hx := hx.ok hs.1
  have hy := hy.ok hs.2.1
  obtain ⟨_, _, s3, s4, s5, _⟩ := hs
  refine cal_subO (lmade_ok x hx y hy z (by omega) hz.bad) (by simp only [push_cast, reduceIte, Nat.reduceEqDiff, Nat.reduceAdd, Nat.reduceSub, Nat.reduceMul, Nat.reduceBEq, Nat.reduceLT, Nat.reduceLeDiff, reduceCtorEq, Int.reduceToNat, Int.reduceNeg]) ?_
  rintro _ ⟨p, hp, rfl⟩
  have hj := job_ok hx hp hy z.bad
  have hpb : p.blocks.length ≤ 9 := by have := hp.nb; omega
  generalize hj0 : (⟨p, gridF y, badF (gridF y) z.bad⟩ : Job) = j at hj ⊢
  have hjb : j.p.blocks.length ≤ 9 := by rw [← hj0]; exact hpb
  clear hj0
  simp only [push_cast, reduceIte, Nat.reduceEqDiff, Nat.reduceAdd, Nat.reduceSub, Nat.reduceMul, Nat.reduceBEq, Nat.reduceLT, Nat.reduceLeDiff, reduceCtorEq, Int.reduceToNat, Int.reduceNeg]
  refine cal_sub (fixed_ok j hj z.fixed (by omega) hz.fixed) ⟨Sub.aggL (jobC_sub j), .refl _, trivial⟩ ?_
  have hfl : (fixedF j z.fixed).length = j.p.blocks.length := by simp [fixedF]
  generalize fixedF j z.fixed = fx at hfl ⊢
  simp only [push_cast, reduceIte, Nat.reduceEqDiff, Nat.reduceAdd, Nat.reduceSub, Nat.reduceMul, Nat.reduceBEq, Nat.reduceLT, Nat.reduceLeDiff, reduceCtorEq, Int.reduceToNat, Int.reduceNeg]
  rcases placeF_spec j fx (.inl hfl) with ⟨e, he, hpl⟩ | ⟨a, kept, hF, hpl, hsu, hfix, hpl2⟩
  · refine loop_of (fun m st => m = 0 ∧ st = ⟨[(7, .bool true), (8, .ptr 8 0), (9, .sl true 1 (ints fx)), (10, .int (-1)), (11, .int 0)], [(8, jobC true j)], [], []⟩) 0 ?_ ?_
    · refine ⟨rfl, ?_⟩
      simp only [push_cast, reduceIte, Nat.reduceEqDiff, Nat.reduceAdd, Nat.reduceSub, Nat.reduceMul, Nat.reduceBEq, Nat.reduceLT, Nat.reduceLeDiff, reduceCtorEq, Int.reduceToNat, Int.reduceNeg]
    · rintro m st ⟨rfl, rfl⟩
      simp only [push_cast, reduceIte, Nat.reduceEqDiff, Nat.reduceAdd, Nat.reduceSub, Nat.reduceMul, Nat.reduceBEq, Nat.reduceLT, Nat.reduceLeDiff, reduceCtorEq, Int.reduceToNat, Int.reduceNeg]
      refine cond_dec (fun _ => ?_) fun h1 => absurd h1 (by omega)
      refine cal_sub (lplaced_ok j hj ⟨[], fx, 0⟩ (by show (fx.length : Int) ≤ _; omega)) ⟨Sub.aggL (jobC_sub j), Sub.aggL ⟨.nil _ _, .slp _ _ _ _ (fun h => by cases h), .refl _, trivial⟩, trivial⟩ ?_
      rw [show placeF j fx 0 = ([], e) from hpl 0 (by omega) (by omega)]
      simp only [push_cast, reduceIte, Nat.reduceEqDiff, Nat.reduceAdd, Nat.reduceSub, Nat.reduceMul, Nat.reduceBEq, Nat.reduceLT, Nat.reduceLeDiff, reduceCtorEq, Int.reduceToNat, Int.reduceNeg]
      refine cond_dec (fun _ => ?_) fun h1 => absurd h1 (by omega)
      refine ⟨by omega, ?_⟩
      refine cal_sub (lplaced_ok j hj ⟨[], fx, 0 + 1⟩ (by show (fx.length : Int) ≤ _; omega)) ⟨Sub.aggL (jobC_sub j), Sub.aggL ⟨.nil _ _, .slp _ _ _ _ (fun h => by cases h), .refl _, trivial⟩, trivial⟩ ?_
      rw [show placeF j fx (0 + 1) = ([], e) from hpl 1 (by omega) (by omega)]
      simp only [push_cast, reduceIte, Nat.reduceEqDiff, Nat.reduceAdd, Nat.reduceSub, Nat.reduceMul, Nat.reduceBEq, Nat.reduceLT, Nat.reduceLeDiff, reduceCtorEq, Int.reduceToNat, Int.reduceNeg]
      refine cutE_of (fun st1 => ∃ B, st1 = ⟨[(7, .bool true), (77, .bool false)], B, [], []⟩) ?_ ?_
      · (repeat' (first | (refine grd_dec rfl (fun _ => ?_) fun _ => ?_ <;> simp only [push_cast, reduceIte, Nat.reduceEqDiff, Nat.reduceAdd, Nat.reduceSub, Nat.reduceMul, Nat.reduceBEq, Nat.reduceLT, Nat.reduceLeDiff, reduceCtorEq, Int.reduceToNat, Int.reduceNeg]) | (refine grd_decf rfl (fun _ => ?_) fun _ => ?_ <;> simp only [push_cast, reduceIte, Nat.reduceEqDiff, Nat.reduceAdd, Nat.reduceSub, Nat.reduceMul, Nat.reduceBEq, Nat.reduceLT, Nat.reduceLeDiff, reduceCtorEq, Int.reduceToNat, Int.reduceNeg])))
        all_goals first | (exfalso; omega) | exact ⟨_, by rw [show decide (e ≠ e) = false by simp]⟩
      · rintro _ ⟨B, rfl⟩
        simp only [push_cast, reduceIte, Nat.reduceEqDiff, Nat.reduceAdd, Nat.reduceSub, Nat.reduceMul, Nat.reduceBEq, Nat.reduceLT, Nat.reduceLeDiff, reduceCtorEq, Int.reduceToNat, Int.reduceNeg]
  · have hfl9 : (fx.length : Int) ≤ 9 := by omega
    refine loop_of (fun m st => ∃ (t : Nat) (last : Int), t ≤ 4 ∧ m = 4 - t ∧ (t = 0 → last = -1) ∧ (∀ q : Nat, t = q + 1 → last = (improveF j kept a q).2.1) ∧
      st = ⟨[(7, .bool true), (8, .ptr 8 0), (9, .sl true 1 (ints fx)), (10, .int last), (11, .int t)], [(8, jobC true j)], [], []⟩) 4 ?_ ?_
    · refine ⟨0, -1, by omega, rfl, fun _ => rfl, fun q hq => by omega, ?_⟩
      simp only [push_cast, reduceIte, Nat.reduceEqDiff, Nat.reduceAdd, Nat.reduceSub, Nat.reduceMul, Nat.reduceBEq, Nat.reduceLT, Nat.reduceLeDiff, reduceCtorEq, Int.reduceToNat, Int.reduceNeg]
    · rintro m st ⟨t, last, ht, rfl, hl0, hl1, rfl⟩
      simp only [push_cast, reduceIte, Nat.reduceEqDiff, Nat.reduceAdd, Nat.reduceSub, Nat.reduceMul, Nat.reduceBEq, Nat.reduceLT, Nat.reduceLeDiff, reduceCtorEq, Int.reduceToNat, Int.reduceNeg]
      refine cond_dec (fun h1 => ?_) fun h1 => ?_
      · have hpt := hpl2 t (by omega) (by omega)
        rw [Int.toNat_natCast] at hpt
        have hk := improveF_keeps (fx := kept) hpl t
        refine cal_sub (lplaced_ok j hj ⟨[], fx, t⟩ (by show (fx.length : Int) ≤ _; omega)) ⟨Sub.aggL (jobC_sub j), Sub.aggL ⟨.nil _ _, .slp _ _ _ _ (fun h => by cases h), .refl _, trivial⟩, trivial⟩ ?_
        rw [show placeF j fx (t : Int) = ((improveF j kept a t).1, 0) from hpt]
        simp only [push_cast, reduceIte, Nat.reduceEqDiff, Nat.reduceAdd, Nat.reduceSub, Nat.reduceMul, Nat.reduceBEq, Nat.reduceLT, Nat.reduceLeDiff, reduceCtorEq, Int.reduceToNat, Int.reduceNeg]
        refine cond_dec (fun h2 => absurd rfl h2) fun _ => ?_
        have hlen : ((improveF j kept a t).1.length : Int) ≤ 1000000 := by have := hk.ok.len; have := hpl.1; omega
        have hcost : cost1F j (improveF j kept a t).1 = ((improveF j kept a t).2.1, 0) := by rw [cost1F, if_pos hk.ok.pl, hk.ok.cost]
        have hcheck : checkF j (improveF j kept a t).1 = 0 := checkF_zero_iff.2 ⟨hF, hk.ok.pl, hk.suit hsu⟩
        refine cal_sub (lcost_ok j hj _ hlen) ⟨Sub.aggL (jobC_sub j), .slp _ _ _ _ (fun h => by cases h), trivial⟩ ?_
        rw [hcost]
        simp only [push_cast, reduceIte, Nat.reduceEqDiff, Nat.reduceAdd, Nat.reduceSub, Nat.reduceMul, Nat.reduceBEq, Nat.reduceLT, Nat.reduceLeDiff, reduceCtorEq, Int.reduceToNat, Int.reduceNeg]
        refine cal_sub (lcheck_ok j hj _ hlen) ⟨Sub.aggL (jobC_sub j), .slp _ _ _ _ (fun h => by cases h), trivial⟩ ?_
        rw [hcheck]
        simp only [push_cast, reduceIte, Nat.reduceEqDiff, Nat.reduceAdd, Nat.reduceSub, Nat.reduceMul, Nat.reduceBEq, Nat.reduceLT, Nat.reduceLeDiff, reduceCtorEq, Int.reduceToNat, Int.reduceNeg]
        have hle : 0 ≤ last → (improveF j kept a t).2.1 ≤ last := fun h0 => by
          cases t with
          | zero => have := hl0 rfl; omega
          | succ q => rw [hl1 q rfl]; exact passes_le q _
        have hlenf : (improveF j kept a t).1.length = fx.length := by rw [hk.ok.len, hpl.1, hfl]
        have hfx : ∀ i : Nat, i < fx.length → 0 ≤ fx.getD i default → (improveF j kept a t).1.getD i default = fx.getD i default := fun i hi h0 => by
          have h3 := hfix i hi h0
          rw [hk.fix i h3.2, h3.1]
        generalize hr : improveF j kept a t = r at hle hlenf hfx ⊢
        refine cut_of ⟨[(7, .bool true), (8, .ptr 8 0), (9, .sl true 1 (ints fx)), (11, .int t), (12, .ptr 12 0), (14, .ptr 14 0), (110, .bool false)], [(8, jobC true j), (12, [.sl true 1 (ints r.1), .int 0, .int 0]), (14, [.int r.2.1, .int 0])], [], []⟩ ?_ ?_
        · refine grd_decf rfl (fun h3 => absurd rfl h3) fun _ => ?_
          simp only [push_cast, reduceIte, Nat.reduceEqDiff, Nat.reduceAdd, Nat.reduceSub, Nat.reduceMul, Nat.reduceBEq, Nat.reduceLT, Nat.reduceLeDiff, reduceCtorEq, Int.reduceToNat, Int.reduceNeg]
          refine grd_decf rfl (fun h3 => absurd rfl h3) fun _ => ?_
          simp only [push_cast, reduceIte, Nat.reduceEqDiff, Nat.reduceAdd, Nat.reduceSub, Nat.reduceMul, Nat.reduceBEq, Nat.reduceLT, Nat.reduceLeDiff, reduceCtorEq, Int.reduceToNat, Int.reduceNeg]
          have hne : decide ((r.1.length : Int) ≠ (fx.length : Int)) = false := decide_eq_false (by omega)
          refine grd_dec rfl (fun h4 => ?_) fun h4 => ?_ <;> simp only [push_cast, reduceIte, Nat.reduceEqDiff, Nat.reduceAdd, Nat.reduceSub, Nat.reduceMul, Nat.reduceBEq, Nat.reduceLT, Nat.reduceLeDiff, reduceCtorEq, Int.reduceToNat, Int.reduceNeg]
          · refine grd_decf rfl (fun h5 => absurd h5 (by have := hle h4; omega)) fun _ => ?_
            simp only [push_cast, reduceIte, Nat.reduceEqDiff, Nat.reduceAdd, Nat.reduceSub, Nat.reduceMul, Nat.reduceBEq, Nat.reduceLT, Nat.reduceLeDiff, reduceCtorEq, Int.reduceToNat, Int.reduceNeg]
            rw [hne]
          · rw [hne]
        · simp only [push_cast, reduceIte, Nat.reduceEqDiff, Nat.reduceAdd, Nat.reduceSub, Nat.reduceMul, Nat.reduceBEq, Nat.reduceLT, Nat.reduceLeDiff, reduceCtorEq, Int.reduceToNat, Int.reduceNeg]
          refine loop_of (fun m st => ∃ i : Nat, i ≤ fx.length ∧ m = fx.length - i ∧ st = ⟨[(7, .bool true), (8, .ptr 8 0), (9, .sl true 1 (ints fx)), (11, .int t), (12, .ptr 12 0), (14, .ptr 14 0), (15, .int i)], [(8, jobC true j), (12, [.sl true 1 (ints r.1), .int 0, .int 0]), (14, [.int r.2.1, .int 0])], [], []⟩) fx.length ?_ ?_
          · refine ⟨0, by omega, by omega, ?_⟩
            simp only [push_cast, reduceIte, Nat.reduceEqDiff, Nat.reduceAdd, Nat.reduceSub, Nat.reduceMul, Nat.reduceBEq, Nat.reduceLT, Nat.reduceLeDiff, reduceCtorEq, Int.reduceToNat, Int.reduceNeg]
          · rintro m st ⟨i, hi, rfl, rfl⟩
            simp only [push_cast, reduceIte, Nat.reduceEqDiff, Nat.reduceAdd, Nat.reduceSub, Nat.reduceMul, Nat.reduceBEq, Nat.reduceLT, Nat.reduceLeDiff, reduceCtorEq, Int.reduceToNat, Int.reduceNeg]
            refine cond_dec (fun h5 => ?_) fun h5 => ?_
            · have hi' : i < fx.length := by omega
              refine ⟨by omega, by omega, ?_⟩
              refine dcut_of ⟨[(7, .bool true), (8, .ptr 8 0), (9, .sl true 1 (ints fx)), (11, .int t), (12, .ptr 12 0), (14, .ptr 14 0), (15, .int i), (133, .bool false)], [(8, jobC true j), (12, [.sl true 1 (ints r.1), .int 0, .int 0]), (14, [.int r.2.1, .int 0])], [], []⟩ ?_ ?_
              · refine dgrd_dec rfl (fun h6 => ?_) fun h6 => ?_ <;> simp only [push_cast, reduceIte, Nat.reduceEqDiff, Nat.reduceAdd, Nat.reduceSub, Nat.reduceMul, Nat.reduceBEq, Nat.reduceLT, Nat.reduceLeDiff, reduceCtorEq, Int.reduceToNat, Int.reduceNeg]
                · rw [hfx i hi' h6, show decide (fx.getD i default ≠ fx.getD i default) = false by simp]
                  exact ⟨by omega, by omega, by omega, hi', rfl⟩
              · simp only [push_cast, reduceIte, Nat.reduceEqDiff, Nat.reduceAdd, Nat.reduceSub, Nat.reduceMul, Nat.reduceBEq, Nat.reduceLT, Nat.reduceLeDiff, reduceCtorEq, Int.reduceToNat, Int.reduceNeg]
                refine ⟨by omega, _, ?_, i + 1, by omega, rfl, ?_⟩
                · omega
                · simp
            · refine ⟨by omega, _, ?_, t + 1, r.2.1, by omega, rfl, fun h => by omega, fun q hq => ?_, ?_⟩
              · omega
              · rw [show q = t by omega, hr]
              · simp
      · exact trivial
end Go.Proofs.Ytbdamnfkgdbidaa
/- What the row's arguments are: the described packing, the described grid and the odd numbers. -/
namespace Go.Proofs.Ytbdamnfkgdbidaa
open Go Go.Vc Txt

def rawT : List Ty := [.i .u8, .i .u8, .sl 6 [.i .u8, .i .u8, .i .u8, .i .u8, .i .u8, .i .u8]]
def gridT : List Ty := [.i .u8, .i .u8, .i .u8, .i .u8, .sl 1 [.i .u8]]
def oddT : List Ty := [.sl 1 [.i .u8], .sl 1 [.i .u8], .sl 1 [.i .u8], .sl 1 [.i .i64], .sl 1 [.i .i64], .i .i64, .i .i64, .i .i64]

theorem rowV_nil {a : List PV} (h : RowV [] a) : a = [] := List.length_eq_zero_iff.1 h.1
theorem rowV_cons {t : Ty} {ts : List Ty} {a : List PV} (h : RowV (t :: ts) a) : ∃ c r, a = c :: r ∧ CellV t c ∧ RowV ts r := by
  obtain ⟨h1, h2⟩ := h
  cases a with
  | nil => cases h1
  | cons c r => exact ⟨c, r, rfl, h2 0 t c rfl rfl, by simpa using h1, fun j t' c' ht hc => h2 (j + 1) t' c' ht hc⟩
theorem cellV_i {k : IntKind} {c : PV} (h : CellV (.i k) c) : ∃ n : Int, c = .sc (.int k n) ∧ k.min ≤ n ∧ n ≤ k.max := by
  cases h with | i k n h1 h2 => exact ⟨n, rfl, h1, h2⟩
theorem cellV_u8 {c : PV} (h : CellV (.i .u8) c) : ∃ n : Int, c = .sc (.int .u8 n) ∧ 0 ≤ n ∧ n ≤ 255 := by
  obtain ⟨n, h1, h2, h3⟩ := cellV_i h
  exact ⟨n, h1, h2, h3⟩
theorem cellV_i64 {c : PV} (h : CellV (.i .i64) c) : ∃ n : Int, c = .int n ∧ -9223372036854775808 ≤ n ∧ n ≤ 9223372036854775807 := by
  obtain ⟨n, h1, h2, h3⟩ := cellV_i h
  exact ⟨n, h1, h2, h3⟩
theorem cellV_sl {es : Nat} {ts : List Ty} {c : PV} (h : CellV (.sl es ts) c) : ∃ rs : List (List PV), c = .sl true es rs ∧ rs.length ≤ maxLen ∧ ∀ r ∈ rs, RowV ts r := by
  cases h with | sl es ts rs h1 h2 h3 => exact ⟨rs, rfl, h1, fun r hr => ⟨h2 r hr, h3 r hr⟩⟩
theorem rows_all {α : Type} {f : α → List PV} {Q : α → Prop} : ∀ {rs : List (List PV)}, (∀ r ∈ rs, ∃ x, r = f x ∧ Q x) → ∃ l : List α, rs = rows f l ∧ ∀ x ∈ l, Q x
  | [], _ => ⟨[], rfl, fun x hx => by cases hx⟩
  | r :: rs, h => by
    obtain ⟨x, rfl, hx⟩ := h r (by simp)
    obtain ⟨l, rfl, hl⟩ := rows_all (f := f) (Q := Q) (rs := rs) fun r hr => h r (by simp [hr])
    refine ⟨x :: l, rfl, fun y hy => ?_⟩
    rcases List.mem_cons.1 hy with rfl | hy
    · exact hx
    · exact hl y hy
theorem cellV_bytes {c : PV} (h : CellV (.sl 1 [.i .u8]) c) : ∃ l : List Int, c = .sl true 1 (bytes8 l) ∧ ∀ b ∈ l, 0 ≤ b ∧ b ≤ 255 := by
  obtain ⟨rs, rfl, _, h2⟩ := cellV_sl h
  obtain ⟨l, rfl, hl⟩ := rows_all (f := fun x : Int => [PV.sc (.int .u8 x)]) (Q := fun b => 0 ≤ b ∧ b ≤ 255) (rs := rs) fun r hr => by
    obtain ⟨c, q, rfl, hc, h3⟩ := rowV_cons (h2 r hr)
    obtain ⟨n, rfl, hn⟩ := cellV_u8 hc
    rw [rowV_nil h3]
    exact ⟨n, rfl, hn⟩
  exact ⟨l, rfl, hl⟩
theorem cellV_ints {c : PV} (h : CellV (.sl 1 [.i .i64]) c) : ∃ l : List Int, c = .sl true 1 (ints l) ∧ ∀ b ∈ l, -9223372036854775808 ≤ b ∧ b ≤ 9223372036854775807 := by
  obtain ⟨rs, rfl, _, h2⟩ := cellV_sl h
  obtain ⟨l, rfl, hl⟩ := rows_all (f := fun x : Int => [PV.int x]) (Q := fun b => -9223372036854775808 ≤ b ∧ b ≤ 9223372036854775807) (rs := rs) fun r hr => by
    obtain ⟨c, q, rfl, hc, h3⟩ := rowV_cons (h2 r hr)
    obtain ⟨n, rfl, hn⟩ := cellV_i64 hc
    rw [rowV_nil h3]
    exact ⟨n, rfl, hn⟩
  exact ⟨l, rfl, hl⟩
theorem rowV_bytes : ∀ {n : Nat} {a : List PV}, RowV (List.replicate n (.i .u8)) a → ∃ l : List Int, a = bytesC l ∧ l.length = n ∧ ∀ b ∈ l, 0 ≤ b ∧ b ≤ 255
  | 0, a, h => ⟨[], by rw [rowV_nil h]; rfl, rfl, fun b hb => by cases hb⟩
  | n + 1, a, h => by
    obtain ⟨c, q, rfl, hc, h3⟩ := rowV_cons h
    obtain ⟨x, rfl, hx⟩ := cellV_u8 hc
    obtain ⟨l, rfl, h1, h2⟩ := rowV_bytes (n := n) h3
    refine ⟨x :: l, rfl, by simp [h1], fun y hy => ?_⟩
    rcases List.mem_cons.1 hy with rfl | hy
    · exact hx
    · exact h2 y hy
theorem rawP_of {a : List PV} (h : RowV rawT a) : ∃ x : RawP, x.By ∧ a = rawPC true x := by
  obtain ⟨c0, a0, rfl, h0, k0⟩ := rowV_cons h
  obtain ⟨c1, a1, rfl, h1, k1⟩ := rowV_cons k0
  obtain ⟨c2, a2, rfl, h2, k2⟩ := rowV_cons k1
  obtain ⟨n0, rfl, b0⟩ := cellV_u8 h0
  obtain ⟨n1, rfl, b1⟩ := cellV_u8 h1
  obtain ⟨rs, rfl, _, h3⟩ := cellV_sl h2
  obtain ⟨l, rfl, hl⟩ := rows_all (f := bytesC) (Q := fun b => b.length = 6 ∧ ∀ v ∈ b, 0 ≤ v ∧ v ≤ 255) (rs := rs) fun r hr => by
    obtain ⟨l, h4, h5⟩ := rowV_bytes (n := 6) (h3 r hr)
    exact ⟨l, h4, h5⟩
  rw [rowV_nil k2]
  exact ⟨⟨n0, n1, l⟩, ⟨b0, b1, fun b hb => (hl b hb).1, fun b hb => (hl b hb).2⟩, rfl⟩
theorem rawG_of {a : List PV} (h : RowV gridT a) : ∃ x : RawG, x.By ∧ a = rawGC true x := by
  obtain ⟨c0, a0, rfl, h0, k0⟩ := rowV_cons h
  obtain ⟨c1, a1, rfl, h1, k1⟩ := rowV_cons k0
  obtain ⟨c2, a2, rfl, h2, k2⟩ := rowV_cons k1
  obtain ⟨c3, a3, rfl, h3, k3⟩ := rowV_cons k2
  obtain ⟨c4, a4, rfl, h4, k4⟩ := rowV_cons k3
  obtain ⟨n0, rfl, b0⟩ := cellV_u8 h0
  obtain ⟨n1, rfl, b1⟩ := cellV_u8 h1
  obtain ⟨n2, rfl, b2⟩ := cellV_u8 h2
  obtain ⟨n3, rfl, b3⟩ := cellV_u8 h3
  obtain ⟨l, rfl, hl⟩ := cellV_bytes h4
  rw [rowV_nil k4]
  exact ⟨⟨n0, n1, n2, n3, l⟩, ⟨b0, b1, b2, b3, hl⟩, rfl⟩
theorem odd_of {a : List PV} (h : RowV oddT a) : ∃ x : Odd, x.By ∧ a = oddC true x := by
  obtain ⟨c0, a0, rfl, h0, k0⟩ := rowV_cons h
  obtain ⟨c1, a1, rfl, h1, k1⟩ := rowV_cons k0
  obtain ⟨c2, a2, rfl, h2, k2⟩ := rowV_cons k1
  obtain ⟨c3, a3, rfl, h3, k3⟩ := rowV_cons k2
  obtain ⟨c4, a4, rfl, h4, k4⟩ := rowV_cons k3
  obtain ⟨c5, a5, rfl, h5, k5⟩ := rowV_cons k4
  obtain ⟨c6, a6, rfl, h6, k6⟩ := rowV_cons k5
  obtain ⟨c7, a7, rfl, h7, k7⟩ := rowV_cons k6
  obtain ⟨l0, rfl, b0⟩ := cellV_bytes h0
  obtain ⟨l1, rfl, b1⟩ := cellV_bytes h1
  obtain ⟨l2, rfl, b2⟩ := cellV_bytes h2
  obtain ⟨l3, rfl, b3⟩ := cellV_ints h3
  obtain ⟨l4, rfl, b4⟩ := cellV_ints h4
  obtain ⟨n5, rfl, b5⟩ := cellV_i64 h5
  obtain ⟨n6, rfl, b6⟩ := cellV_i64 h6
  obtain ⟨n7, rfl, b7⟩ := cellV_i64 h7
  rw [rowV_nil k7]
  exact ⟨⟨l0, l1, l2, l3, l4, n5, n6, n7⟩, ⟨b0, b1, b2, b3, b4, b5, b6, b7⟩, rfl⟩
/-- The three arguments of a law of the placement. -/
theorem law_true {f : Nat} (hok : ∀ (x : RawP), x.By → ∀ (y : RawG), y.By → ∀ (z : Odd), z.By → FnEq Try.prog f [.agg (rawPC false x), .agg (rawGC false y), .agg (oddC false z)] (.bool true))
    {a b c : List PV} (ha : RowV rawT a) (hb : RowV gridT b) (hc : RowV oddT c) : FnEq Try.prog f [.agg a, .agg b, .agg c] (.bool true) := by
  obtain ⟨x, hx, rfl⟩ := rawP_of ha
  obtain ⟨y, hy, rfl⟩ := rawG_of hb
  obtain ⟨z, hz, rfl⟩ := odd_of hc
  refine FnOK.sub (hok x hx y hy z hz) ⟨Sub.aggL ?_, Sub.aggL ?_, Sub.aggL ?_, trivial⟩
  · exact ⟨.refl _, .refl _, .slp _ _ _ _ (fun h => by cases h), trivial⟩
  · exact ⟨.refl _, .refl _, .refl _, .refl _, .slp _ _ _ _ (fun h => by cases h), trivial⟩
  · exact ⟨.slp _ _ _ _ (fun h => by cases h), .slp _ _ _ _ (fun h => by cases h), .slp _ _ _ _ (fun h => by cases h), .slp _ _ _ _ (fun h => by cases h), .slp _ _ _ _ (fun h => by cases h), .refl _, .refl _, .refl _, trivial⟩
end Go.Proofs.Ytbdamnfkgdbidaa
/- YtbdamnfkgdbidaaTxtD.lean: the abstract text of functions, printed by gen.py; tied to the program by the kernel. -/
namespace Go.Proofs.Ytbdamnfkgdbidaa.Txt
open Go Go.Vc
set_option maxRecDepth 100000

def ac14d_r8 : AC :=
  (.seq (.seq (.reg [0, 67, 1, 2, 5, 6, 7] [
    ⟨some 8, none, .mv (.c (.sc (.int .i64 0)))⟩])
  (.block 2
  (.loop [0, 67, 1, 2, 5, 6, 7, 8]
    (.seq (.seq (.reg [0, 67, 1, 2, 5, 6, 7, 8] [
        ⟨some 36, none, .mv (.t 8)⟩,
        ⟨some 37, none, .fa 4 (.t 2)⟩,
        ⟨some 38, none, .fa 0 (.t 37)⟩,
        ⟨some 39, none, .ld false 1 (.t 38)⟩,
        ⟨some 40, none, .fa 4 (.t 2)⟩,
        ⟨some 41, none, .fa 1 (.t 40)⟩,
        ⟨some 42, none, .ld false 1 (.t 41)⟩,
        ⟨some 43, none, .ari .mul true .i64 (.t 39) (.t 42)⟩,
        ⟨some 44, none, .cmp .lss .i64 (.t 36) (.t 43)⟩,
        ⟨some 45, none, .mv (.t 44)⟩,
        ⟨some 46, some (45, true), .mv (.t 5)⟩,
        ⟨some 47, some (45, true), .mv (.t 7)⟩,
        ⟨some 48, some (45, true), .cal 26 [(.t 46), (.t 47)]⟩,
        ⟨some 49, none, .pick (.t 45) (.t 48) (.c (.sc (.bool false)))⟩])
      (.cut [0, 67, 1, 2, 5, 6, 7, 8, 49] (.cond (.t 49)
      .skip
      (.exit 2))))
      (.seq (.block 3
      (.reg [0, 67, 1, 2, 5, 6, 7, 8] [
          ⟨some 52, none, .mv (.t 7)⟩,
          ⟨some 53, none, .ari .add true .i64 (.t 52) (.c (.sc (.int .i64 1)))⟩,
          ⟨some 54, none, .fa 4 (.t 2)⟩,
          ⟨some 55, none, .fa 0 (.t 54)⟩,
          ⟨some 56, none, .ld false 1 (.t 55)⟩,
          ⟨some 57, none, .fa 4 (.t 2)⟩,
          ⟨some 58, none, .fa 1 (.t 57)⟩,
          ⟨some 59, none, .ld false 1 (.t 58)⟩,
          ⟨some 60, none, .ari .mul true .i64 (.t 56) (.t 59)⟩,
          ⟨some 61, none, .dvd .rem true .i64 (.t 53) (.t 60)⟩,
          ⟨some 7, none, .mv (.t 61)⟩]))
      (.reg [0, 67, 1, 2, 5, 6, 7, 8] [
        ⟨some 50, none, .mv (.t 8)⟩,
        ⟨some 51, none, .ari .add true .i64 (.t 50) (.c (.sc (.int .i64 1)))⟩,
        ⟨some 8, none, .mv (.t 51)⟩]))))))
  (.reg [0, 67, 1, 2, 5, 6, 7] [
    ⟨some 62, none, .mv (.t 5)⟩,
    ⟨some 63, none, .mv (.t 7)⟩,
    ⟨some 64, none, .bsl 1 3 [.sc (.int .i64 0)] 1 [(0, (.t 63))]⟩,
    ⟨some 65, none, .app 1 3 8 (.t 62) (.t 64)⟩,
    ⟨some 5, none, .mv (.t 65)⟩]))
/-- wireloom/wireloomref29.Tiles -/
def ac14d : AC :=
  (.seq (.reg [0, 67, 0, 1] [
    ⟨some 2, none, .box (.t 0)⟩,
    ⟨some 4, none, .mv (.c (.nil))⟩])
  (.seq (.reg [0, 67, 1, 2] [
    ⟨some 9, none, .bsl 1 3 [.sc (.int .i64 0)] 0 []⟩,
    ⟨some 5, none, .mv (.t 9)⟩])
  (.seq (.seq (.reg [0, 67, 1, 2, 5] [
    ⟨some 6, none, .mv (.c (.sc (.int .i64 0)))⟩])
  (.block 0
  (.loop [0, 67, 1, 2, 5, 6]
    (.seq (.seq (.reg [0, 67, 1, 2, 5, 6] [
        ⟨some 10, none, .mv (.t 6)⟩,
        ⟨some 11, none, .fa 0 (.t 2)⟩,
        ⟨some 12, none, .fa 1 (.t 11)⟩,
        ⟨some 13, none, .ld false 1 (.t 12)⟩,
        ⟨some 14, none, .len (.t 13)⟩,
        ⟨some 15, none, .cmp .lss .i64 (.t 10) (.t 14)⟩])
      (.cond (.t 15)
      .skip
      (.exit 0)))
      (.seq (.block 1
      (.seq (.reg [0, 67, 1, 2, 5, 6] [
          ⟨some 18, none, .mv (.t 6)⟩,
          ⟨some 7, none, .mv (.t 18)⟩])
        (.seq (.seq (.reg [0, 67, 1, 2, 5, 6, 7] [
          ⟨some 19, none, .mv (.t 6)⟩,
          ⟨some 20, none, .mv (.t 1)⟩,
          ⟨some 21, none, .len (.t 20)⟩,
          ⟨some 22, none, .cmp .lss .i64 (.t 19) (.t 21)⟩])
        (.cond (.t 22)
        (.drw [0, 67, 1, 2, 5, 6] [
            ⟨⟨some 23, none, .mv (.t 1)⟩, [], [], true⟩,
            ⟨⟨some 24, none, .mv (.t 6)⟩, [], [], true⟩,
            ⟨⟨some 25, none, .ixs 1 (.t 23) (.t 24)⟩, [], [], true⟩,
            ⟨⟨some 26, none, .ld false 1 (.t 25)⟩, [], [], true⟩,
            ⟨⟨some 27, none, .cnv true .i64 (.t 26)⟩, [], [], true⟩,
            ⟨⟨some 28, none, .fa 4 (.t 2)⟩, [], [], true⟩,
            ⟨⟨some 29, none, .fa 0 (.t 28)⟩, [], [], true⟩,
            ⟨⟨some 30, none, .ld false 1 (.t 29)⟩, [], [], true⟩,
            ⟨⟨some 31, none, .fa 4 (.t 2)⟩, [], [], true⟩,
            ⟨⟨some 32, none, .fa 1 (.t 31)⟩, [], [], true⟩,
            ⟨⟨some 33, none, .ld false 1 (.t 32)⟩, [], [], true⟩,
            ⟨⟨some 34, none, .ari .mul true .i64 (.t 30) (.t 33)⟩, [], [], true⟩,
            ⟨⟨some 35, none, .dvd .rem true .i64 (.t 27) (.t 34)⟩, [], [], false⟩,
            ⟨⟨some 7, none, .mv (.t 35)⟩, [], [], false⟩])
        .skip))
        ac14d_r8)))
      (.reg [0, 67, 1, 2, 5, 6] [
        ⟨some 16, none, .mv (.t 6)⟩,
        ⟨some 17, none, .ari .add true .i64 (.t 16) (.c (.sc (.int .i64 1)))⟩,
        ⟨some 6, none, .mv (.t 17)⟩]))))))
  (.seq (.reg [0, 67, 5] [
    ⟨some 66, none, .mv (.t 5)⟩,
    ⟨some 4, none, .mv (.t 66)⟩])
  .ret))))
def rv14d : List RV := [.tmp 4]
theorem ok14d : fnOk Try.prog ac14d rv14d Try.f14 = true := by kernel_rfl

def ac7d_r18 : AC :=
  (.seq (.reg [0, 243, 5, 7, 8, 9, 10, 11] [
    ⟨some 140, none, .bsl 1 3 [.sc (.int .i64 0)] 0 []⟩,
    ⟨some 141, none, .mv (.t 9)⟩,
    ⟨some 142, none, .app 1 3 8 (.t 140) (.t 141)⟩,
    ⟨some 16, none, .mv (.t 142)⟩])
  (.seq (.reg [0, 243, 5, 7, 8, 9, 10, 11, 16] [
    ⟨some 143, none, .mv (.t 16)⟩,
    ⟨some 144, none, .mv (.t 11)⟩,
    ⟨some 145, none, .mv (.t 9)⟩,
    ⟨some 146, none, .mv (.t 11)⟩,
    ⟨some 147, none, .ari .add true .i64 (.t 146) (.c (.sc (.int .i64 1)))⟩,
    ⟨some 148, none, .mv (.t 10)⟩,
    ⟨some 149, none, .dvd .rem true .i64 (.t 147) (.t 148)⟩,
    ⟨some 150, none, .ixs 1 (.t 145) (.t 149)⟩,
    ⟨some 151, none, .ld false 1 (.t 150)⟩,
    ⟨some 152, none, .ixs 1 (.t 143) (.t 144)⟩,
    ⟨none, none, .sto 1 (.t 152) (.t 151)⟩])
  (.seq (.reg [0, 243, 5, 7, 8, 9, 10, 11, 16] [
    ⟨some 153, none, .bsl 1 3 [.sc (.int .i64 0)] 0 []⟩,
    ⟨some 154, none, .mv (.t 9)⟩,
    ⟨some 155, none, .app 1 3 8 (.t 153) (.t 154)⟩,
    ⟨some 17, none, .mv (.t 155)⟩])
  (.seq (.reg [0, 243, 5, 7, 8, 9, 10, 11, 16, 17] [
    ⟨some 156, none, .mv (.t 17)⟩,
    ⟨some 157, none, .mv (.t 11)⟩,
    ⟨some 158, none, .fa 4 (.t 8)⟩,
    ⟨some 159, none, .fa 0 (.t 158)⟩,
    ⟨some 160, none, .ld false 1 (.t 159)⟩,
    ⟨some 161, none, .fa 4 (.t 8)⟩,
    ⟨some 162, none, .fa 1 (.t 161)⟩,
    ⟨some 163, none, .ld false 1 (.t 162)⟩,
    ⟨some 164, none, .ari .mul true .i64 (.t 160) (.t 163)⟩,
    ⟨some 165, none, .ixs 1 (.t 156) (.t 157)⟩,
    ⟨none, none, .sto 1 (.t 165) (.t 164)⟩])
  (.seq (.reg [0, 243, 5, 7, 8, 9, 10, 11, 16, 17] [
    ⟨some 166, none, .bsl 1 3 [.sc (.int .i64 0)] 0 []⟩,
    ⟨some 167, none, .mv (.t 9)⟩,
    ⟨some 168, none, .app 1 3 8 (.t 166) (.t 167)⟩,
    ⟨some 18, none, .mv (.t 168)⟩])
  (.seq (.reg [0, 243, 5, 7, 8, 9, 10, 11, 16, 17, 18] [
    ⟨some 169, none, .mv (.t 18)⟩,
    ⟨some 170, none, .mv (.t 11)⟩,
    ⟨some 171, none, .fa 1 (.t 5)⟩,
    ⟨some 172, none, .ld false 1 (.t 171)⟩,
    ⟨some 173, none, .len (.t 172)⟩,
    ⟨some 174, none, .ari .sub true .i64 (.c (.sc (.int .i64 (-1)))) (.t 173)⟩,
    ⟨some 175, none, .ixs 1 (.t 169) (.t 170)⟩,
    ⟨none, none, .sto 1 (.t 175) (.t 174)⟩])
  (.seq (.reg [0, 243, 7, 8, 9, 10, 16, 17, 18] [
    ⟨some 176, none, .ld true 11 (.t 8)⟩,
    ⟨some 19, none, .alc [.nil, .nil, .nil, .nil, .sc (.int .i64 0), .sc (.int .i64 0), .sc (.int .i64 0), .sc (.int .i64 0), .nil, .nil, .nil]⟩,
    ⟨none, none, .sto 11 (.t 19) (.t 176)⟩])
  (.seq (.reg [0, 243, 7, 8, 9, 10, 16, 17, 18, 19] [
    ⟨some 177, none, .fa 0 (.t 8)⟩,
    ⟨some 178, none, .fa 0 (.t 177)⟩,
    ⟨some 179, none, .ld false 1 (.t 178)⟩,
    ⟨some 180, none, .len (.t 179)⟩,
    ⟨some 181, none, .ari .sub true .i64 (.t 180) (.c (.sc (.int .i64 1)))⟩,
    ⟨some 182, none, .fa 4 (.t 19)⟩,
    ⟨some 183, none, .fa 3 (.t 182)⟩,
    ⟨none, none, .sto 1 (.t 183) (.t 181)⟩])
  (.seq (.seq (.reg [0, 243, 7, 8, 9, 10, 16, 17, 18, 19] [
    ⟨some 184, none, .mv (.t 10)⟩,
    ⟨some 185, none, .cmp .gtr .i64 (.t 184) (.c (.sc (.int .i64 1)))⟩,
    ⟨some 186, none, .mv (.t 185)⟩,
    ⟨some 187, some (186, true), .ld true 11 (.t 8)⟩,
    ⟨some 188, some (186, true), .mv (.t 16)⟩,
    ⟨some 189, some (186, true), .cal 15 [(.t 187), (.t 188)]⟩,
    ⟨some 190, some (186, true), .cmp .neq .i64 (.t 189) (.c (.sc (.int .i64 290)))⟩,
    ⟨some 191, none, .pick (.t 186) (.t 190) (.c (.sc (.bool false)))⟩,
    ⟨some 192, none, .mv (.t 191)⟩,
    ⟨some 193, some (192, false), .ld true 11 (.t 19)⟩,
    ⟨some 194, some (192, false), .mv (.t 9)⟩,
    ⟨some 195, some (192, false), .cal 15 [(.t 193), (.t 194)]⟩,
    ⟨some 196, some (192, false), .cmp .neq .i64 (.t 195) (.c (.sc (.int .i64 290)))⟩,
    ⟨some 197, none, .pick (.t 192) (.c (.sc (.bool true))) (.t 196)⟩])
  (.cut [0, 243, 7, 8, 9, 17, 18, 197] (.cond (.t 197)
  (.seq (.reg [0, 243] [
      ⟨some 6, none, .mv (.c (.sc (.bool false)))⟩])
    .ret)
  .skip)))
  (.seq (.drw [0, 243, 7, 8, 9, 17, 18] [
    ⟨⟨some 198, none, .ld true 11 (.t 8)⟩, [], [], true⟩,
    ⟨⟨some 199, none, .mv (.t 17)⟩, [], [], true⟩,
    ⟨⟨some 200, none, .cal 15 [(.t 198), (.t 199)]⟩, [], [], false⟩,
    ⟨⟨some 201, none, .cmp .eql .i64 (.t 200) (.c (.sc (.int .i64 290)))⟩, [], [], false⟩,
    ⟨⟨some 202, none, .mv (.t 201)⟩, [], [], false⟩,
    ⟨⟨some 203, some (202, true), .ld true 11 (.t 8)⟩, [], [], true⟩,
    ⟨⟨some 204, some (202, true), .mv (.t 18)⟩, [], [], true⟩,
    ⟨⟨some 205, some (202, true), .cal 15 [(.t 203), (.t 204)]⟩, [], [], false⟩,
    ⟨⟨some 206, some (202, true), .cmp .eql .i64 (.t 205) (.c (.sc (.int .i64 290)))⟩, [], [], false⟩,
    ⟨⟨some 207, none, .pick (.t 202) (.t 206) (.c (.sc (.bool false)))⟩, [], [], false⟩,
    ⟨⟨some 208, none, .mv (.t 207)⟩, [], [], false⟩,
    ⟨⟨some 209, some (208, true), .ld true 11 (.t 8)⟩, [], [], true⟩,
    ⟨⟨some 210, some (208, true), .mv (.t 9)⟩, [], [], true⟩,
    ⟨⟨some 211, some (208, true), .slc 1 (.t 210) (some (.c (.sc (.int .i64 1)))) none⟩, [], [], true⟩,
    ⟨⟨some 212, some (208, true), .cal 15 [(.t 209), (.t 211)]⟩, [], [], false⟩,
    ⟨⟨some 213, some (208, true), .cmp .eql .i64 (.t 212) (.c (.sc (.int .i64 290)))⟩, [], [], false⟩,
    ⟨⟨some 214, none, .pick (.t 208) (.t 213) (.c (.sc (.bool false)))⟩, [], [], false⟩,
    ⟨⟨some 215, none, .mv (.t 214)⟩, [], [], false⟩,
    ⟨⟨some 216, some (215, true), .ld true 11 (.t 8)⟩, [], [217, 219, 220, 221], true⟩,
    ⟨⟨some 217, some (215, true), .bsl 1 3 [.sc (.int .i64 0)] 0 []⟩, [217], [220], true⟩,
    ⟨⟨some 218, some (215, true), .mv (.t 9)⟩, [], [217, 220], true⟩,
    ⟨⟨some 219, some (215, true), .app 1 3 8 (.t 217) (.t 218)⟩, [219, 217], [220], true⟩,
    ⟨⟨some 220, some (215, true), .bsl 1 3 [.sc (.int .i64 0)] 1 [(0, (.c (.sc (.int .i64 0))))]⟩, [220], [217, 219], true⟩,
    ⟨⟨some 221, some (215, true), .app 1 3 8 (.t 219) (.t 220)⟩, [221, 219, 217], [], true⟩,
    ⟨⟨some 222, some (215, true), .cal 15 [(.t 216), (.t 221)]⟩, [], [], false⟩,
    ⟨⟨some 223, some (215, true), .cmp .eql .i64 (.t 222) (.c (.sc (.int .i64 290)))⟩, [], [], false⟩,
    ⟨⟨some 224, none, .pick (.t 215) (.t 223) (.c (.sc (.bool false)))⟩, [], [], false⟩,
    ⟨⟨some 225, none, .mv (.t 224)⟩, [], [], false⟩,
    ⟨⟨some 226, some (225, true), .ld true 11 (.t 8)⟩, [], [], true⟩,
    ⟨⟨some 227, some (225, true), .mv (.t 17)⟩, [], [], true⟩,
    ⟨⟨some 228, some (225, true), .cal 17 [(.t 226), (.t 227)]⟩, [], [], false⟩,
    ⟨⟨some 229, some (225, true), .fl false 1 1 (.t 228)⟩, [], [], false⟩,
    ⟨⟨some 230, some (225, true), .cmp .eql .i64 (.t 229) (.c (.sc (.int .i64 290)))⟩, [], [], false⟩,
    ⟨⟨some 231, none, .pick (.t 225) (.t 230) (.c (.sc (.bool false)))⟩, [], [], false⟩,
    ⟨⟨some 232, none, .mv (.t 231)⟩, [], [], false⟩,
    ⟨⟨some 233, some (232, true), .ld true 11 (.t 8)⟩, [], [], true⟩,
    ⟨⟨some 234, some (232, true), .mv (.t 9)⟩, [], [], true⟩,
    ⟨⟨some 235, some (232, true), .slc 1 (.t 234) (some (.c (.sc (.int .i64 1)))) none⟩, [], [], true⟩,
    ⟨⟨some 236, some (232, true), .cal 17 [(.t 233), (.t 235)]⟩, [], [], false⟩,
    ⟨⟨some 237, some (232, true), .fl false 1 1 (.t 236)⟩, [], [], false⟩,
    ⟨⟨some 238, some (232, true), .cmp .eql .i64 (.t 237) (.c (.sc (.int .i64 290)))⟩, [], [], false⟩,
    ⟨⟨some 239, none, .pick (.t 232) (.t 238) (.c (.sc (.bool false)))⟩, [], [], false⟩,
    ⟨⟨some 240, none, .mv (.t 239)⟩, [], [], false⟩,
    ⟨⟨some 241, some (240, true), .mv (.t 7)⟩, [], [], false⟩,
    ⟨⟨some 242, none, .pick (.t 240) (.t 241) (.c (.sc (.bool false)))⟩, [], [], false⟩,
    ⟨⟨some 6, none, .mv (.t 242)⟩, [], [], false⟩])
  .ret))))))))))
/-- wireloom/wireloomlaw29.PlacementRefuses -/
def ac7d : AC :=
  (.seq (.reg [0, 243, 0, 1, 2] [
    ⟨some 3, none, .box (.t 0)⟩,
    ⟨some 4, none, .box (.t 1)⟩,
    ⟨some 5, none, .box (.t 2)⟩,
    ⟨some 6, none, .mv (.c (.sc (.bool false)))⟩])
  (.seq (.reg [0, 243, 3, 4, 5] [
    ⟨some 20, none, .cal 9 []⟩,
    ⟨some 7, none, .mv (.t 20)⟩])
  (.seq (.seq (.reg [0, 243, 3, 4, 5, 7] [
    ⟨some 21, none, .mv (.t 7)⟩,
    ⟨some 22, none, .not (.t 21)⟩,
    ⟨some 23, none, .mv (.t 22)⟩,
    ⟨some 24, some (23, false), .ld true 3 (.t 3)⟩,
    ⟨some 25, some (23, false), .ld true 5 (.t 4)⟩,
    ⟨some 26, some (23, false), .ld true 8 (.t 5)⟩,
    ⟨some 27, some (23, false), .cal 10 [(.t 24), (.t 25), (.t 26)]⟩,
    ⟨some 28, some (23, false), .not (.t 27)⟩,
    ⟨some 29, none, .pick (.t 23) (.c (.sc (.bool true))) (.t 28)⟩])
  (.cut [0, 243, 3, 4, 5, 7, 29] (.cond (.t 29)
  (.seq (.reg [0, 243, 7] [
      ⟨some 30, none, .mv (.t 7)⟩,
      ⟨some 6, none, .mv (.t 30)⟩])
    .ret)
  .skip)))
  (.seq (.reg [0, 243, 3, 4, 5, 7] [
    ⟨some 31, none, .ld true 3 (.t 3)⟩,
    ⟨some 32, none, .ld true 5 (.t 4)⟩,
    ⟨some 33, none, .ld true 8 (.t 5)⟩,
    ⟨some 34, none, .cal 11 [(.t 31), (.t 32), (.t 33)]⟩,
    ⟨some 8, none, .alc [.nil, .nil, .nil, .nil, .sc (.int .i64 0), .sc (.int .i64 0), .sc (.int .i64 0), .sc (.int .i64 0), .nil, .nil, .nil]⟩,
    ⟨none, none, .sto 11 (.t 8) (.t 34)⟩])
  (.seq (.reg [0, 243, 5, 7, 8] [
    ⟨some 35, none, .ld true 11 (.t 8)⟩,
    ⟨some 36, none, .fa 1 (.t 5)⟩,
    ⟨some 37, none, .ld false 1 (.t 36)⟩,
    ⟨some 38, none, .cal 14 [(.t 35), (.t 37)]⟩,
    ⟨some 9, none, .mv (.t 38)⟩])
  (.seq (.reg [0, 243, 5, 7, 8, 9] [
    ⟨some 39, none, .mv (.t 9)⟩,
    ⟨some 40, none, .len (.t 39)⟩,
    ⟨some 10, none, .mv (.t 40)⟩])
  (.seq (.seq (.reg [0, 243, 5, 7, 8, 9, 10] [
    ⟨some 41, none, .mv (.t 10)⟩,
    ⟨some 42, none, .cmp .eql .i64 (.t 41) (.c (.sc (.int .i64 0)))⟩])
  (.cond (.t 42)
  (.seq (.reg [0, 243, 7, 8] [
      ⟨some 43, none, .ld true 11 (.t 8)⟩,
      ⟨some 44, none, .bsl 1 3 [.sc (.int .i64 0)] 1 [(0, (.c (.sc (.int .i64 0))))]⟩,
      ⟨some 45, none, .cal 15 [(.t 43), (.t 44)]⟩,
      ⟨some 46, none, .cmp .eql .i64 (.t 45) (.c (.sc (.int .i64 290)))⟩,
      ⟨some 47, none, .mv (.t 46)⟩,
      ⟨some 48, some (47, true), .mv (.t 7)⟩,
      ⟨some 49, none, .pick (.t 47) (.t 48) (.c (.sc (.bool false)))⟩,
      ⟨some 6, none, .mv (.t 49)⟩])
    .ret)
  .skip))
  (.seq (.reg [0, 243, 5, 7, 8, 9, 10] [
    ⟨some 50, none, .fa 2 (.t 5)⟩,
    ⟨some 51, none, .ld false 1 (.t 50)⟩,
    ⟨some 52, none, .len (.t 51)⟩,
    ⟨some 53, none, .mv (.t 10)⟩,
    ⟨some 54, none, .dvd .rem true .i64 (.t 52) (.t 53)⟩,
    ⟨some 11, none, .mv (.t 54)⟩])
  (.seq (.reg [0, 243, 5, 7, 8, 9, 10, 11] [
    ⟨some 55, none, .mv (.t 9)⟩,
    ⟨some 56, none, .mv (.t 11)⟩,
    ⟨some 57, none, .ixs 1 (.t 55) (.t 56)⟩,
    ⟨some 58, none, .ld false 1 (.t 57)⟩,
    ⟨some 12, none, .mv (.t 58)⟩])
  (.seq (.reg [0, 243, 5, 7, 8, 9, 10, 11, 12] [
    ⟨some 59, none, .fa 0 (.t 8)⟩,
    ⟨some 60, none, .ld true 4 (.t 59)⟩,
    ⟨some 61, none, .fa 4 (.t 8)⟩,
    ⟨some 62, none, .ld true 5 (.t 61)⟩,
    ⟨some 63, none, .fa 9 (.t 8)⟩,
    ⟨some 64, none, .ld true 2 (.t 63)⟩,
    ⟨some 65, none, .mv (.t 11)⟩,
    ⟨some 66, none, .mv (.t 12)⟩,
    ⟨some 67, none, .cal 12 [(.t 60), (.t 62), (.t 64), (.t 65), (.t 66)]⟩,
    ⟨some 13, none, .mv (.t 67)⟩])
  (.seq (.reg [0, 243, 5, 7, 8, 9, 10, 11, 12, 13] [
    ⟨some 68, none, .ld true 11 (.t 8)⟩,
    ⟨some 14, none, .alc [.nil, .nil, .nil, .nil, .sc (.int .i64 0), .sc (.int .i64 0), .sc (.int .i64 0), .sc (.int .i64 0), .nil, .nil, .nil]⟩,
    ⟨none, none, .sto 11 (.t 14) (.t 68)⟩])
  (.seq (.reg [0, 243, 5, 7, 8, 9, 10, 11, 12, 13, 14] [
    ⟨some 69, none, .mv (.t 12)⟩,
    ⟨some 70, none, .bsl 1 3 [.sc (.int .i64 0)] 1 [(0, (.t 69))]⟩,
    ⟨some 71, none, .bld [.nil, .nil] [(0, 1, (.t 70))]⟩,
    ⟨some 72, none, .fa 9 (.t 14)⟩,
    ⟨none, none, .sto 2 (.t 72) (.t 71)⟩])
  (.seq (.reg [0, 243, 5, 7, 8, 9, 10, 11, 12, 13, 14] [
    ⟨some 73, none, .ld true 11 (.t 8)⟩,
    ⟨some 15, none, .alc [.nil, .nil, .nil, .nil, .sc (.int .i64 0), .sc (.int .i64 0), .sc (.int .i64 0), .sc (.int .i64 0), .nil, .nil, .nil]⟩,
    ⟨none, none, .sto 11 (.t 15) (.t 73)⟩])
  (.seq (.reg [0, 243, 5, 7, 8, 9, 10, 11, 12, 13, 14, 15] [
    ⟨some 74, none, .mv (.t 12)⟩,
    ⟨some 75, none, .fa 4 (.t 8)⟩,
    ⟨some 76, none, .ld true 5 (.t 75)⟩,
    ⟨some 77, none, .cal 31 [(.t 76)]⟩,
    ⟨some 78, none, .ari .mul true .i64 (.t 74) (.t 77)⟩,
    ⟨some 79, none, .bsl 1 3 [.sc (.int .i64 0)] 1 [(0, (.t 78))]⟩,
    ⟨some 80, none, .bld [.nil, .nil] [(1, 1, (.t 79))]⟩,
    ⟨some 81, none, .fa 9 (.t 15)⟩,
    ⟨none, none, .sto 2 (.t 81) (.t 80)⟩])
  (.seq (.seq (.reg [0, 243, 5, 7, 8, 9, 10, 11, 12, 13, 14, 15] [
    ⟨some 82, none, .mv (.t 13)⟩,
    ⟨some 83, none, .mv (.t 82)⟩,
    ⟨some 84, some (83, true), .fa 9 (.t 8)⟩,
    ⟨some 85, some (83, true), .fa 0 (.t 84)⟩,
    ⟨some 86, some (83, true), .ld false 1 (.t 85)⟩,
    ⟨some 87, some (83, true), .mv (.t 12)⟩,
    ⟨some 88, some (83, true), .cal 26 [(.t 86), (.t 87)]⟩,
    ⟨some 89, some (83, true), .mv (.t 88)⟩,
    ⟨some 90, some (89, false), .fa 4 (.t 8)⟩,
    ⟨some 91, some (89, false), .fa 4 (.t 90)⟩,
    ⟨some 92, some (89, false), .ld false 1 (.t 91)⟩,
    ⟨some 93, some (89, false), .mv (.t 12)⟩,
    ⟨some 94, some (89, false), .ixs 1 (.t 92) (.t 93)⟩,
    ⟨some 95, some (89, false), .ld false 1 (.t 94)⟩,
    ⟨some 96, some (89, false), .cmp .eql .i64 (.t 95) (.c (.sc (.int .i64 0)))⟩,
    ⟨some 97, some (83, true), .pick (.t 89) (.c (.sc (.bool true))) (.t 96)⟩,
    ⟨some 98, some (83, true), .mv (.t 97)⟩,
    ⟨some 99, some (98, false), .fa 4 (.t 8)⟩,
    ⟨some 100, some (98, false), .fa 4 (.t 99)⟩,
    ⟨some 101, some (98, false), .ld false 1 (.t 100)⟩,
    ⟨some 102, some (98, false), .mv (.t 12)⟩,
    ⟨some 103, some (98, false), .ixs 1 (.t 101) (.t 102)⟩,
    ⟨some 104, some (98, false), .ld false 1 (.t 103)⟩,
    ⟨some 105, some (98, false), .cmp .eql .i64 (.t 104) (.c (.sc (.int .i64 1)))⟩,
    ⟨some 106, some (98, false), .mv (.t 105)⟩,
    ⟨some 107, some (106, true), .fa 0 (.t 8)⟩,
    ⟨some 108, some (106, true), .fa 1 (.t 107)⟩,
    ⟨some 109, some (106, true), .ld false 1 (.t 108)⟩,
    ⟨some 110, some (106, true), .mv (.t 11)⟩,
    ⟨some 111, some (106, true), .ixs 5 (.t 109) (.t 110)⟩,
    ⟨some 112, some (106, true), .fa 2 (.t 111)⟩,
    ⟨some 113, some (106, true), .ld false 1 (.t 112)⟩,
    ⟨some 114, some (106, true), .cmp .neq .i64 (.t 113) (.c (.sc (.int .i64 (-1))))⟩,
    ⟨some 115, some (98, false), .pick (.t 106) (.t 114) (.c (.sc (.bool false)))⟩,
    ⟨some 116, some (83, true), .pick (.t 98) (.c (.sc (.bool true))) (.t 115)⟩,
    ⟨some 117, none, .pick (.t 83) (.t 116) (.c (.sc (.bool false)))⟩,
    ⟨some 118, none, .mv (.t 117)⟩,
    ⟨some 119, some (118, false), .ld true 11 (.t 14)⟩,
    ⟨some 120, some (118, false), .mv (.t 9)⟩,
    ⟨some 121, some (118, false), .cal 15 [(.t 119), (.t 120)]⟩,
    ⟨some 122, some (118, false), .cmp .neq .i64 (.t 121) (.c (.sc (.int .i64 290)))⟩,
    ⟨some 123, none, .pick (.t 118) (.c (.sc (.bool true))) (.t 122)⟩,
    ⟨some 124, none, .mv (.t 123)⟩,
    ⟨some 125, some (124, false), .ld true 11 (.t 15)⟩,
    ⟨some 126, some (124, false), .mv (.t 9)⟩,
    ⟨some 127, some (124, false), .cal 15 [(.t 125), (.t 126)]⟩,
    ⟨some 128, some (124, false), .cmp .neq .i64 (.t 127) (.c (.sc (.int .i64 290)))⟩,
    ⟨some 129, none, .pick (.t 124) (.c (.sc (.bool true))) (.t 128)⟩,
    ⟨some 130, none, .mv (.t 129)⟩,
    ⟨some 131, some (130, false), .mv (.t 13)⟩,
    ⟨some 132, some (130, false), .not (.t 131)⟩,
    ⟨some 133, some (130, false), .mv (.t 132)⟩,
    ⟨some 134, some (133, true), .ld true 11 (.t 8)⟩,
    ⟨some 135, some (133, true), .mv (.t 9)⟩,
    ⟨some 136, some (133, true), .cal 15 [(.t 134), (.t 135)]⟩,
    ⟨some 137, some (133, true), .cmp .neq .i64 (.t 136) (.c (.sc (.int .i64 290)))⟩,
    ⟨some 138, some (130, false), .pick (.t 133) (.t 137) (.c (.sc (.bool false)))⟩,
    ⟨some 139, none, .pick (.t 130) (.c (.sc (.bool true))) (.t 138)⟩])
  (.cut [0, 243, 5, 7, 8, 9, 10, 11, 139] (.cond (.t 139)
  (.seq (.reg [0, 243] [
      ⟨some 6, none, .mv (.c (.sc (.bool false)))⟩])
    .ret)
  .skip)))
  ac7d_r18)))))))))))))))
def rv7d : List RV := [.tmp 6]
theorem ok7d : fnOk Try.prog ac7d rv7d Try.f7 = true := by kernel_rfl
end Go.Proofs.Ytbdamnfkgdbidaa.Txt
/- contracts: the generator of placements -/
namespace Go.Proofs.Ytbdamnfkgdbidaa
open Go Go.Vc Txt

def bumpF (m : Int) (out : List Int) : Nat → Int → Int
  | 0, t => t
  | n + 1, t => if t ∈ out then bumpF m out n ((t + 1) % m) else t
def tileF (j : Job) (l out : List Int) (i : Nat) : Int :=
  bumpF (j.g.w * j.g.h) out (j.g.w * j.g.h).toNat (if i < l.length then l.getD i default % (j.g.w * j.g.h) else i)
def tilesN (j : Job) (l : List Int) : Nat → List Int
  | 0 => []
  | n + 1 => tilesN j l n ++ [tileF j l (tilesN j l n) n]
def tilesF (j : Job) (l : List Int) : List Int := tilesN j l j.p.blocks.length
theorem tilesN_len (j : Job) (l : List Int) : ∀ n, (tilesN j l n).length = n
  | 0 => rfl
  | n + 1 => by simp [tilesN, tilesN_len j l n]
theorem bumpF_rng {m : Int} (hm : 0 < m ∧ m ≤ 1000000) {out : List Int} : ∀ (n : Nat) (t : Int), 0 ≤ t ∧ t ≤ 1000000 → 0 ≤ bumpF m out n t ∧ bumpF m out n t ≤ 1000000
  | 0, t, h => h
  | n + 1, t, h => by
    unfold bumpF
    split
    · have h1 := Int.emod_nonneg (t + 1) (show m ≠ 0 by omega)
      have h2 := Int.emod_lt_of_pos (t + 1) hm.1
      exact bumpF_rng hm n _ ⟨h1, by omega⟩
    · exact h
theorem tilesN_rng {j : Job} (hm : 0 < j.g.w * j.g.h ∧ j.g.w * j.g.h ≤ 1000000) (l : List Int) : ∀ n : Nat, n ≤ 1000000 → ∀ t ∈ tilesN j l n, 0 ≤ t ∧ t ≤ 1000000
  | 0, _, t, h => by cases h
  | n + 1, hn, t, h => by
    rcases List.mem_append.1 h with h | h
    · exact tilesN_rng hm l n (by omega) t h
    · rw [List.mem_singleton.1 h]
      refine bumpF_rng hm _ _ ?_
      split
      · have h1 := Int.emod_nonneg (l.getD n default) (show j.g.w * j.g.h ≠ 0 by omega)
        have h2 := Int.emod_lt_of_pos (l.getD n default) hm.1
        omega
      · omega

theorem tiles_in (j : Job) (hj : j.Ok) (l : List Int) (i : Nat) (hi : i ≤ 1000) (t : Int) (ht : 0 ≤ t ∧ t ≤ 1000000) (out : List Int) (hlen : out.length = i) (Q : Exit → St → Prop) (st : St)
    (hst : st.keepS [0, 67, 1, 2, 5, 6, 7] = ⟨[(1, .sl false 1 (bytes8 l)), (2, .ptr 2 0), (5, .view 9 0 i), (6, .int i), (7, .int t)], [(2, jobC false j)], [(9, ⟨1, 3, ints out⟩)], []⟩)
    (hQ : ∀ t' : Int, t' = bumpF (j.g.w * j.g.h) out (j.g.w * j.g.h).toNat t → Q .normal ⟨[(1, .sl false 1 (bytes8 l)), (2, .ptr 2 0), (5, .view 9 0 (i + 1)), (6, .int i), (7, .int t'), (62, .bot), (63, .int t'), (64, .view 64 0 1), (65, .view 9 0 (i + 1))], [(2, jobC false j)], [(9, ⟨1, 3, ints (out ++ [t'])⟩), (64, ⟨1, 3, ints [t']⟩)], []⟩) :
    awp (Env.of Try.prog) ac14d_r8 Q st := by
  simp only [ac14d_r8, push_cast, reduceIte, Nat.reduceEqDiff, Nat.reduceAdd, Nat.reduceSub, Nat.reduceMul, Nat.reduceBEq, Nat.reduceLT, Nat.reduceLeDiff, reduceCtorEq, Int.reduceToNat, Int.reduceNeg, hst]
  have hwh := hj.wh
  have hpos : 0 < j.g.w * j.g.h := Int.mul_pos hj.w.1 hj.h.1
  obtain ⟨m, hm⟩ : ∃ m : Int, j.g.w * j.g.h = m := ⟨_, rfl⟩
  rw [hm] at hwh hpos hQ
  refine loop_of (fun n st => ∃ (q : Nat) (t' : Int), (q : Int) ≤ m ∧ n = m.toNat - q ∧ (0 ≤ t' ∧ t' ≤ 1000000) ∧ bumpF m out (m.toNat - q) t' = bumpF m out m.toNat t ∧
    st = ⟨[(1, .sl false 1 (bytes8 l)), (2, .ptr 2 0), (5, .view 9 0 i), (6, .int i), (7, .int t'), (8, .int q)], [(2, jobC false j)], [(9, ⟨1, 3, ints out⟩)], []⟩) m.toNat ?_ ?_
  · refine ⟨0, t, by omega, by omega, ht, rfl, ?_⟩
    simp only [push_cast, reduceIte, Nat.reduceEqDiff, Nat.reduceAdd, Nat.reduceSub, Nat.reduceMul, Nat.reduceBEq, Nat.reduceLT, Nat.reduceLeDiff, reduceCtorEq, Int.reduceToNat, Int.reduceNeg]
  · rintro n st ⟨q, t', hq, rfl, ht', hF, rfl⟩
    simp only [push_cast, reduceIte, Nat.reduceEqDiff, Nat.reduceAdd, Nat.reduceSub, Nat.reduceMul, Nat.reduceBEq, Nat.reduceLT, Nat.reduceLeDiff, reduceCtorEq, Int.reduceToNat, Int.reduceNeg, hm]
    refine ⟨by omega, ?_⟩
    refine cut_of ⟨[(1, .sl false 1 (bytes8 l)), (2, .ptr 2 0), (5, .view 9 0 i), (6, .int i), (7, .int t'), (8, .int q), (49, .bool (decide ((q : Int) < m ∧ t' ∈ out)))], [(2, jobC false j)], [(9, ⟨1, 3, ints out⟩)], []⟩ ?_ ?_
    · refine grd_dec rfl (fun h1 => ?_) fun h1 => ?_ <;> simp only [push_cast, reduceIte, Nat.reduceEqDiff, Nat.reduceAdd, Nat.reduceSub, Nat.reduceMul, Nat.reduceBEq, Nat.reduceLT, Nat.reduceLeDiff, reduceCtorEq, Int.reduceToNat, Int.reduceNeg]
      · refine cal_sub (in_ok out t' (by omega)) ⟨?_, .refl _, trivial⟩ ?_
        · rw [List.take_of_length_le (by omega)]
          exact .refl _
        · simp only [push_cast, reduceIte, Nat.reduceEqDiff, Nat.reduceAdd, Nat.reduceSub, Nat.reduceMul, Nat.reduceBEq, Nat.reduceLT, Nat.reduceLeDiff, reduceCtorEq, Int.reduceToNat, Int.reduceNeg]
          rw [decide_eq_decide.2 (show (q : Int) < m ∧ t' ∈ out ↔ t' ∈ out from and_iff_right h1)]
      · rw [decide_eq_false (show ¬ ((q : Int) < m ∧ t' ∈ out) from fun h2 => h1 h2.1)]
    · simp only [push_cast, reduceIte, Nat.reduceEqDiff, Nat.reduceAdd, Nat.reduceSub, Nat.reduceMul, Nat.reduceBEq, Nat.reduceLT, Nat.reduceLeDiff, reduceCtorEq, Int.reduceToNat, Int.reduceNeg]
      refine cond_dec (fun h1 => ?_) fun h1 => ?_
      · simp only [push_cast, reduceIte, Nat.reduceEqDiff, Nat.reduceAdd, Nat.reduceSub, Nat.reduceMul, Nat.reduceBEq, Nat.reduceLT, Nat.reduceLeDiff, reduceCtorEq, Int.reduceToNat, Int.reduceNeg, hm]
        have e1 := Int.emod_nonneg (t' + 1) (show m ≠ 0 by omega)
        have e2 := Int.emod_lt_of_pos (t' + 1) hpos
        refine ⟨by omega, by omega, ⟨by omega, by omega, hpos⟩, by omega, _, ?_, q + 1, (t' + 1) % m, by omega, rfl, ⟨by omega, by omega⟩, ?_, ?_⟩
        · omega
        · rw [← hF, show m.toNat - q = (m.toNat - (q + 1)) + 1 by omega, bumpF, if_pos h1.2]
        · simp
      · have hF' : bumpF m out m.toNat t = t' := by
          rw [← hF]
          by_cases h2 : (q : Int) < m
          · have h3 : t' ∉ out := fun h3 => h1 ⟨h2, h3⟩
            rw [show m.toNat - q = (m.toNat - (q + 1)) + 1 by omega, bumpF, if_neg h3]
          · rw [show m.toNat - q = 0 by omega, bumpF]
        refine ⟨by simp, ⟨by omega, by omega, by omega⟩, ?_⟩
        exact hQ t' hF'.symm

theorem rtiles_ok (j : Job) (hj : j.Ok) (l : List Int) (hl : (l.length : Int) ≤ 1000000) (hb : ∀ x ∈ l, 0 ≤ x ∧ x ≤ 255) :
    FnEq Try.prog 14 [.agg (jobC false j), .sl false 1 (bytes8 l)] (.sl true 1 (ints (tilesF j l))) := by
  refine FnEq.of_awp Try.func14 ok14d (by show 2 ≤ _; decide) (by simp only [push_cast, reduceIte, Nat.reduceEqDiff, Nat.reduceAdd, Nat.reduceSub, Nat.reduceMul, Nat.reduceBEq, Nat.reduceLT, Nat.reduceLeDiff, reduceCtorEq, Int.reduceToNat, Int.reduceNeg] <;> first | exact fun _ _ => trivial | simp) ?_
  simp only [ac14d, rv14d, push_cast, reduceIte, Nat.reduceEqDiff, Nat.reduceAdd, Nat.reduceSub, Nat.reduceMul, Nat.reduceBEq, Nat.reduceLT, Nat.reduceLeDiff, reduceCtorEq, Int.reduceToNat, Int.reduceNeg]
  have hnb := hj.nb
  have hwh := hj.wh
  have hpos : 0 < j.g.w * j.g.h := Int.mul_pos hj.w.1 hj.h.1
  refine loop_of (fun m st => ∃ k : Nat, k ≤ j.p.blocks.length ∧ m = j.p.blocks.length - k ∧
    st = ⟨[(1, .sl false 1 (bytes8 l)), (2, .ptr 2 0), (5, .view 9 0 k), (6, .int k)], [(2, jobC false j)], [(9, ⟨1, 3, ints (tilesN j l k)⟩)], []⟩) j.p.blocks.length ?_ ?_
  · refine ⟨0, by omega, by omega, ?_⟩
    simp only [push_cast, reduceIte, Nat.reduceEqDiff, Nat.reduceAdd, Nat.reduceSub, Nat.reduceMul, Nat.reduceBEq, Nat.reduceLT, Nat.reduceLeDiff, reduceCtorEq, Int.reduceToNat, Int.reduceNeg]
    rfl
  · rintro m st ⟨k, hk, rfl, rfl⟩
    simp only [push_cast, reduceIte, Nat.reduceEqDiff, Nat.reduceAdd, Nat.reduceSub, Nat.reduceMul, Nat.reduceBEq, Nat.reduceLT, Nat.reduceLeDiff, reduceCtorEq, Int.reduceToNat, Int.reduceNeg]
    have hlen := tilesN_len j l k
    refine cond_dec (fun h => ?_) fun h => ?_
    · refine cond_dec (fun h1 => ?_) fun h1 => ?_
      · have hx := hb _ (show l.getD k default ∈ l by simp [List.getD_eq_getElem?_getD, show k < l.length by omega])
        have e1 := Int.emod_nonneg (l.getD k default) (show j.g.w * j.g.h ≠ 0 by omega)
        have e2 := Int.emod_lt_of_pos (l.getD k default) hpos
        refine ⟨by omega, by omega, by omega, by omega, ⟨by omega, by omega, hpos⟩, ?_⟩
        refine tiles_in j hj l k (by omega) (l.getD k default % (j.g.w * j.g.h)) (by omega) _ hlen _ _ ?_ ?_
        · simp only [push_cast, reduceIte, Nat.reduceEqDiff, Nat.reduceAdd, Nat.reduceSub, Nat.reduceMul, Nat.reduceBEq, Nat.reduceLT, Nat.reduceLeDiff, reduceCtorEq, Int.reduceToNat, Int.reduceNeg]
        · rintro t' rfl
          simp only [push_cast, reduceIte, Nat.reduceEqDiff, Nat.reduceAdd, Nat.reduceSub, Nat.reduceMul, Nat.reduceBEq, Nat.reduceLT, Nat.reduceLeDiff, reduceCtorEq, Int.reduceToNat, Int.reduceNeg]
          refine ⟨by omega, _, ?_, k + 1, by omega, rfl, ?_⟩
          · omega
          · rw [tilesN, tileF, if_pos (by omega)]
            simp
      · refine tiles_in j hj l k (by omega) (k : Int) (by omega) _ hlen _ _ ?_ ?_
        · simp only [push_cast, reduceIte, Nat.reduceEqDiff, Nat.reduceAdd, Nat.reduceSub, Nat.reduceMul, Nat.reduceBEq, Nat.reduceLT, Nat.reduceLeDiff, reduceCtorEq, Int.reduceToNat, Int.reduceNeg]
        · rintro t' rfl
          simp only [push_cast, reduceIte, Nat.reduceEqDiff, Nat.reduceAdd, Nat.reduceSub, Nat.reduceMul, Nat.reduceBEq, Nat.reduceLT, Nat.reduceLeDiff, reduceCtorEq, Int.reduceToNat, Int.reduceNeg]
          refine ⟨by omega, _, ?_, k + 1, by omega, rfl, ?_⟩
          · omega
          · rw [tilesN, tileF, if_neg (by omega)]
            simp
    · have hkk : k = j.p.blocks.length := by omega
      subst hkk
      rw [List.take_of_length_le (by omega)]
      exact ⟨fun _ _ => trivial, .refl _⟩
end Go.Proofs.Ytbdamnfkgdbidaa
/- PlacementRefuses: what is refused; the second half of the law's function -/
namespace Go.Proofs.Ytbdamnfkgdbidaa
open Go Go.Vc Txt

theorem checkF_ne {j : Job} {a : List Int} (h : ¬ (Fits j ∧ IsPl j a ∧ Suited j a)) : checkF j a = 290 := by
  by_cases h0 : checkF j a = 0
  · exact absurd (checkF_zero_iff.1 h0) h
  · unfold checkF at h0 ⊢
    split
    · rename_i h1; rw [if_pos h1] at h0; exact absurd rfl h0
    · rfl
theorem cost1F_ne {j : Job} {a : List Int} (h : ¬ IsPl j a) : (cost1F j a).2 = 290 := by rw [cost1F, if_neg h]
theorem suitsR_tile {j : Job} {b t : Int} (h : suitsR j b t = true) : t ∉ j.bad.tiles ∧ j.g.kind.getD t.toNat default ≠ 0 ∧ (j.g.kind.getD t.toNat default = 1 → (j.p.blocks.getD b.toNat default).ram = -1) ∧ t * (6 + 2 * j.g.tracks) ∉ j.bad.nodes := by
  unfold suitsR at h
  split at h
  · cases h
  simp only at h
  split at h
  · cases h
  rename_i h1 h2
  split at h
  · cases h
  rename_i h3
  refine ⟨fun hh => h2 (.inr (.inr hh)), fun hh => h2 (.inl hh), fun hh => ?_, fun hh => h3 (.inl hh)⟩
  by_cases h4 : (j.p.blocks.getD b.toNat default).ram = -1
  · exact h4
  · exact absurd (.inr (.inl ⟨h4, by omega⟩)) h2
/-- Where a tile is a defect, or its first node, nothing is legal. -/
theorem defect_ne {p : Packed} {g : Grid} {a : List Int} {b : Nat} (hb : b < a.length) : checkF ⟨p, g, ⟨[a.getD b default], []⟩⟩ a = 290 :=
  checkF_ne fun ⟨_, _, h⟩ => (suitsR_tile (h b hb)).1 (by simp)
theorem pin_ne {p : Packed} {g : Grid} {a : List Int} {b : Nat} (hb : b < a.length) : checkF ⟨p, g, ⟨[], [a.getD b default * (6 + 2 * g.tracks)]⟩⟩ a = 290 :=
  checkF_ne fun ⟨_, _, h⟩ => (suitsR_tile (h b hb)).2.2.2 (by simp)
theorem unsuited_ne {j : Job} {a : List Int} {b : Nat} (hb : b < a.length) (h : suitsR j b (a.getD b default) = false) : checkF j a = 290 :=
  checkF_ne fun ⟨_, _, h1⟩ => by rw [h1 b hb] at h; cases h
theorem len_ne {j : Job} {a : List Int} (h : a.length ≠ j.p.blocks.length) : ¬ IsPl j a := fun h1 => h h1.1
theorem out_ne {j : Job} {a : List Int} {b : Nat} (hb : b < a.length) {x : Int} (h : x < 0 ∨ j.g.w * j.g.h ≤ x) : ¬ IsPl j (a.set b x) := fun h1 => by
  have := h1.2.1 x (List.mem_iff_getElem.2 ⟨b, by simpa using hb, by simp⟩)
  omega
theorem twice_ne {j : Job} {a : List Int} {b c : Nat} (hb : b < a.length) (hc : c < a.length) (hne : b ≠ c) : ¬ IsPl j (a.set b (a.getD c default)) := fun h1 => by
  have h2 := h1.2.2
  have := nodup_inj h2 (i := b) (j := c) (by simpa using hb) (by simpa using hc) (by simp [List.getElem_set, hne, hc])
  exact hne this

theorem setBad_ok {j : Job} (hj : j.Ok) {ts ns : List Int} (h1 : (ts.length : Int) ≤ 1000000) (h2 : (ns.length : Int) ≤ 1000000) (h3 : ∀ n ∈ ns, -9223372036854775808 ≤ n ∧ n ≤ 9223372036854775807) : (⟨j.p, j.g, ⟨ts, ns⟩⟩ : Job).Ok :=
  ⟨hj.wh, hj.tr, hj.kind, hj.nb, hj.nin, hj.ins, hj.outs, h1, h2, h3, hj.w, hj.h, hj.nd, hj.sb, hj.sd⟩
theorem setPads_ok {j : Job} (hj : j.Ok) (n : Int) : (⟨j.p, ⟨j.g.w, j.g.h, j.g.tracks, n, j.g.kind⟩, j.bad⟩ : Job).Ok :=
  ⟨hj.wh, hj.tr, hj.kind, hj.nb, hj.nin, hj.ins, hj.outs, hj.tiles, hj.nodes, hj.nr, hj.w, hj.h, hj.nd, hj.sb, hj.sd⟩
theorem narrow_ne {j : Job} {a : List Int} : checkF ⟨j.p, ⟨j.g.w, j.g.h, j.g.tracks, (j.p.ins.length : Int) - 1, j.g.kind⟩, j.bad⟩ a = 290 :=
  checkF_ne fun ⟨h, _, _⟩ => by have := h.1; simp only at this; omega

def jobD (p : Packed) (g : Grid) (c d : PV) : List PV := [.sl true 3 (rows wireC p.ins), .sl true 5 (rows (blockC true) p.blocks), .sl true 3 (rows wireC p.out), .sl true 1 (ints p.drive), .int g.w, .int g.h, .int g.tracks, .int g.pads, .sl true 1 (ints g.kind), c, d]
@[push_cast] theorem jobD_eq (p : Packed) (g : Grid) (c d : PV) : jobD p g c d = [.sl true 3 (rows wireC p.ins), .sl true 5 (rows (blockC true) p.blocks), .sl true 3 (rows wireC p.out), .sl true 1 (ints p.drive), .int g.w, .int g.h, .int g.tracks, .int g.pads, .sl true 1 (ints g.kind), c, d] := rfl
theorem vsub (a : List Int) (b : Nat) (y : Int) : Sub (.sl false 1 (rows intC (List.take a.length (a.set b y)))) (.sl false 1 (ints (a.set b y))) := by
  rw [List.take_of_length_le (by simp)]
  exact .refl _
theorem jobB_sub (p : Packed) (g : Grid) {c d : PV} {ts ns : List Int} (hc : Sub c (.sl false 1 (ints ts))) (hd : Sub d (.sl false 1 (ints ns))) :
    SubL [.sl true 3 (rows wireC p.ins), .sl true 5 (rows (blockC true) p.blocks), .sl true 3 (rows wireC p.out), .sl true 1 (ints p.drive), .int g.w, .int g.h, .int g.tracks, .int g.pads, .sl true 1 (ints g.kind), c, d] (jobC false ⟨p, g, ⟨ts, ns⟩⟩) :=
  ⟨.slp _ _ _ _ (fun h => by cases h), Sub.slR 5 (fun h => by cases h) (SubR.map _ _ _ fun b _ => blockC_sub b), .slp _ _ _ _ (fun h => by cases h), .slp _ _ _ _ (fun h => by cases h), .refl _, .refl _, .refl _, .refl _, .slp _ _ _ _ (fun h => by cases h), hc, hd, trivial⟩

set_option maxHeartbeats 2000000 in
set_option maxRecDepth 4000 in
theorem refuses_tail (x : RawP) (y : RawG) (z : Odd) (hz : (z.at_.length : Int) ≤ 40) (j : Job) (hj : j.Ok) (a : List Int) (hal : a.length = j.p.blocks.length) (b : Nat) (hb : b < a.length) (v w : Int) (st : St)
    (hst : st.keepS [0, 243, 5, 7, 8, 9, 10, 11] = ⟨[(5, .ptr 5 0), (7, .bool true), (8, .ptr 8 0), (9, .sl true 1 (ints a)), (10, .int a.length), (11, .int b)], [(3, rawPC false x), (4, rawGC false y), (5, oddC false z), (8, jobC true j), (14, jobD j.p j.g (.view 70 0 1) .nil), (15, jobD j.p j.g .nil (.view 79 0 1))], [(70, ⟨1, 3, ints [v]⟩), (79, ⟨1, 3, ints [w]⟩)], []⟩) :
    awp (Env.of Try.prog) ac7d_r18 (retK [RV.tmp 6] fun v => Sub v (.bool true)) st := by
  simp only [ac7d_r18, push_cast, reduceIte, Nat.reduceEqDiff, Nat.reduceAdd, Nat.reduceSub, Nat.reduceMul, Nat.reduceBEq, Nat.reduceLT, Nat.reduceLeDiff, reduceCtorEq, Int.reduceToNat, Int.reduceNeg, hst]
  have hwh := hj.wh
  have hnb := hj.nb
  have hn0 : 0 < a.length := by omega
  have e0 : List.replicate 0 (0 : Int) = [] := rfl
  simp only [e0, push_cast, reduceIte, Nat.reduceEqDiff, Nat.reduceAdd, Nat.reduceSub, Nat.reduceMul, Nat.reduceBEq, Nat.reduceLT, Nat.reduceLeDiff, reduceCtorEq, Int.reduceToNat, Int.reduceNeg]
  obtain ⟨r2, hr2, hr20, hr21⟩ := pick_ok hn0 ((b : Int) + 1)
  obtain ⟨c, rfl⟩ := Int.eq_ofNat_of_zero_le hr20
  rw [hr2]
  simp only [push_cast, reduceIte, Nat.reduceEqDiff, Nat.reduceAdd, Nat.reduceSub, Nat.reduceMul, Nat.reduceBEq, Nat.reduceLT, Nat.reduceLeDiff, reduceCtorEq, Int.reduceToNat, Int.reduceNeg]
  refine ⟨by omega, by omega, by omega, by omega, by omega, by omega, hb, by omega, by omega, by omega, hb, by omega, by omega, by omega, hb, by have := hj.ins; omega, ?_⟩
  have hj3 := setPads_ok hj ((j.p.ins.length : Int) - 1)
  have hc1 : 1 < (a.length : Int) → b ≠ c := fun h1 e => by
    subst e
    have h2 : ((b : Int) + 1) % a.length = if (b : Int) + 1 = a.length then 0 else (b : Int) + 1 := by
      split
      · rename_i h3; rw [h3, Int.emod_self]
      · exact Int.emod_eq_of_lt (by omega) (by omega)
    rw [h2] at hr2
    split at hr2 <;> omega
  have htw : 1 < (a.length : Int) → checkF j (a.set b (a.getD c default)) = 290 := fun h1 => checkF_ne fun h => twice_ne hb (by omega) (hc1 h1) h.2.1
  have hou : ¬ IsPl j (a.set b (j.g.w * j.g.h)) := out_ne hb (.inr (by omega))
  have hbe : ¬ IsPl j (a.set b (-1 - (z.at_.length : Int))) := out_ne hb (.inl (by omega))
  have hls : ∀ y, ((a.set b y).length : Int) ≤ 1000000 := fun y => by simp; omega
  refine cut_of ⟨[(7, .bool true), (8, .ptr 8 0), (9, .sl true 1 (ints a)), (17, .view 153 0 a.length), (18, .view 166 0 a.length), (197, .bool false)], [(3, rawPC false x), (4, rawGC false y), (5, oddC false z), (8, jobC true j), (14, jobD j.p j.g (.view 70 0 1) .nil), (15, jobD j.p j.g .nil (.view 79 0 1)), (19, jobC true ⟨j.p, ⟨j.g.w, j.g.h, j.g.tracks, (j.p.ins.length : Int) - 1, j.g.kind⟩, j.bad⟩)],
    [(70, ⟨1, 3, ints [v]⟩), (79, ⟨1, 3, ints [w]⟩), (140, ⟨1, 3, ints (a.set b (a.getD c default))⟩), (153, ⟨1, 3, ints (a.set b (j.g.w * j.g.h))⟩), (166, ⟨1, 3, ints (a.set b (-1 - (z.at_.length : Int)))⟩)], []⟩ ?_ ?_
  · refine grd_dec rfl (fun h1 => ?_) fun h1 => ?_ <;> simp only [push_cast, reduceIte, Nat.reduceEqDiff, Nat.reduceAdd, Nat.reduceSub, Nat.reduceMul, Nat.reduceBEq, Nat.reduceLT, Nat.reduceLeDiff, reduceCtorEq, Int.reduceToNat, Int.reduceNeg]
    · refine cal_sub (lcheck_ok j hj (a.set b (a.getD c default)) (hls _)) ⟨Sub.aggL (jobC_sub j), vsub _ _ _, trivial⟩ ?_
      rw [htw h1]
      simp only [push_cast, reduceIte, Nat.reduceEqDiff, Nat.reduceAdd, Nat.reduceSub, Nat.reduceMul, Nat.reduceBEq, Nat.reduceLT, Nat.reduceLeDiff, reduceCtorEq, Int.reduceToNat, Int.reduceNeg]
      refine grd_decf rfl (fun h3 => absurd rfl h3) fun _ => ?_
      simp only [push_cast, reduceIte, Nat.reduceEqDiff, Nat.reduceAdd, Nat.reduceSub, Nat.reduceMul, Nat.reduceBEq, Nat.reduceLT, Nat.reduceLeDiff, reduceCtorEq, Int.reduceToNat, Int.reduceNeg]
      refine cal_sub (lcheck_ok _ hj3 a (by omega)) ⟨Sub.aggL (jobC_sub ⟨j.p, ⟨j.g.w, j.g.h, j.g.tracks, (j.p.ins.length : Int) - 1, j.g.kind⟩, j.bad⟩), .slp _ _ _ _ (fun h => by cases h), trivial⟩ ?_
      rw [narrow_ne]
      simp only [push_cast, reduceIte, Nat.reduceEqDiff, Nat.reduceAdd, Nat.reduceSub, Nat.reduceMul, Nat.reduceBEq, Nat.reduceLT, Nat.reduceLeDiff, reduceCtorEq, Int.reduceToNat, Int.reduceNeg]
      rw [show decide ((290 : Int) ≠ 290) = false from rfl]
    · refine cal_sub (lcheck_ok _ hj3 a (by omega)) ⟨Sub.aggL (jobC_sub ⟨j.p, ⟨j.g.w, j.g.h, j.g.tracks, (j.p.ins.length : Int) - 1, j.g.kind⟩, j.bad⟩), .slp _ _ _ _ (fun h => by cases h), trivial⟩ ?_
      rw [narrow_ne]
      simp only [push_cast, reduceIte, Nat.reduceEqDiff, Nat.reduceAdd, Nat.reduceSub, Nat.reduceMul, Nat.reduceBEq, Nat.reduceLT, Nat.reduceLeDiff, reduceCtorEq, Int.reduceToNat, Int.reduceNeg]
      rw [show decide ((290 : Int) ≠ 290) = false from rfl]
  · simp only [push_cast, reduceIte, Nat.reduceEqDiff, Nat.reduceAdd, Nat.reduceSub, Nat.reduceMul, Nat.reduceBEq, Nat.reduceLT, Nat.reduceLeDiff, reduceCtorEq, Int.reduceToNat, Int.reduceNeg]
    refine cal_sub (lcheck_ok j hj (a.set b (j.g.w * j.g.h)) (hls _)) ⟨Sub.aggL (jobC_sub j), vsub _ _ _, trivial⟩ ?_
    rw [checkF_ne fun h => hou h.2.1]
    simp only [push_cast, reduceIte, Nat.reduceEqDiff, Nat.reduceAdd, Nat.reduceSub, Nat.reduceMul, Nat.reduceBEq, Nat.reduceLT, Nat.reduceLeDiff, reduceCtorEq, Int.reduceToNat, Int.reduceNeg]
    refine cal_sub (lcheck_ok j hj (a.set b (-1 - (z.at_.length : Int))) (hls _)) ⟨Sub.aggL (jobC_sub j), vsub _ _ _, trivial⟩ ?_
    rw [checkF_ne fun h => hbe h.2.1]
    simp only [push_cast, reduceIte, Nat.reduceEqDiff, Nat.reduceAdd, Nat.reduceSub, Nat.reduceMul, Nat.reduceBEq, Nat.reduceLT, Nat.reduceLeDiff, reduceCtorEq, Int.reduceToNat, Int.reduceNeg]
    have hld : ((a.drop 1).length : Int) ≤ 1000000 := by simp; omega
    have hnd : (a.drop 1).length ≠ j.p.blocks.length := by simp; omega
    refine ⟨by omega, ?_⟩
    refine cal_sub (lcheck_ok j hj (a.drop 1) hld) ⟨Sub.aggL (jobC_sub j), .slp _ _ _ _ (fun h => by cases h), trivial⟩ ?_
    rw [checkF_ne fun h => len_ne hnd h.2.1]
    simp only [e0, push_cast, reduceIte, Nat.reduceEqDiff, Nat.reduceAdd, Nat.reduceSub, Nat.reduceMul, Nat.reduceBEq, Nat.reduceLT, Nat.reduceLeDiff, reduceCtorEq, Int.reduceToNat, Int.reduceNeg]
    refine ⟨by omega, by simp, by omega, ?_⟩
    rw [List.take_of_length_le (show (a ++ [0]).length ≤ a.length + 1 by simp)]
    refine cal_sub (lcheck_ok j hj (a ++ [0]) (by simp; omega)) ⟨Sub.aggL (jobC_sub j), .refl _, trivial⟩ ?_
    rw [checkF_ne fun h => len_ne (by simp; omega) h.2.1]
    simp only [push_cast, reduceIte, Nat.reduceEqDiff, Nat.reduceAdd, Nat.reduceSub, Nat.reduceMul, Nat.reduceBEq, Nat.reduceLT, Nat.reduceLeDiff, reduceCtorEq, Int.reduceToNat, Int.reduceNeg]
    refine cal_sub (lcost_ok j hj (a.set b (j.g.w * j.g.h)) (hls _)) ⟨Sub.aggL (jobC_sub j), vsub _ _ _, trivial⟩ ?_
    rw [cost1F_ne hou]
    simp only [push_cast, reduceIte, Nat.reduceEqDiff, Nat.reduceAdd, Nat.reduceSub, Nat.reduceMul, Nat.reduceBEq, Nat.reduceLT, Nat.reduceLeDiff, reduceCtorEq, Int.reduceToNat, Int.reduceNeg]
    refine ⟨by omega, ?_⟩
    refine cal_sub (lcost_ok j hj (a.drop 1) hld) ⟨Sub.aggL (jobC_sub j), .slp _ _ _ _ (fun h => by cases h), trivial⟩ ?_
    rw [cost1F_ne (len_ne hnd)]
    simp only [push_cast, reduceIte, Nat.reduceEqDiff, Nat.reduceAdd, Nat.reduceSub, Nat.reduceMul, Nat.reduceBEq, Nat.reduceLT, Nat.reduceLeDiff, reduceCtorEq, Int.reduceToNat, Int.reduceNeg]

end Go.Proofs.Ytbdamnfkgdbidaa
/- PlacementRefuses: the law's function answers true -/
namespace Go.Proofs.Ytbdamnfkgdbidaa
open Go Go.Vc Txt

set_option maxHeartbeats 2000000 in
set_option maxRecDepth 4000 in
theorem refuses_ok (x : RawP) (hx : x.By) (y : RawG) (hy : y.By) (z : Odd) (hz : z.By) :
    FnEq Try.prog 7 [.agg (rawPC false x), .agg (rawGC false y), .agg (oddC false z)] (.bool true) := by
  refine FnEq.of_awp Try.func7 ok7d (by show 3 ≤ _; decide) (by simp only [push_cast, reduceIte, Nat.reduceEqDiff, Nat.reduceAdd, Nat.reduceSub, Nat.reduceMul, Nat.reduceBEq, Nat.reduceLT, Nat.reduceLeDiff, reduceCtorEq, Int.reduceToNat, Int.reduceNeg] <;> first | exact fun _ _ => trivial | simp) ?_
  simp only [ac7d, rv7d, push_cast, reduceIte, Nat.reduceEqDiff, Nat.reduceAdd, Nat.reduceSub, Nat.reduceMul, Nat.reduceBEq, Nat.reduceLT, Nat.reduceLeDiff, reduceCtorEq, Int.reduceToNat, Int.reduceNeg]
  refine cal_sub examples_ok (by simp only [push_cast, reduceIte, Nat.reduceEqDiff, Nat.reduceAdd, Nat.reduceSub, Nat.reduceMul, Nat.reduceBEq, Nat.reduceLT, Nat.reduceLeDiff, reduceCtorEq, Int.reduceToNat, Int.reduceNeg]) ?_
  simp only [push_cast, reduceIte, Nat.reduceEqDiff, Nat.reduceAdd, Nat.reduceSub, Nat.reduceMul, Nat.reduceBEq, Nat.reduceLT, Nat.reduceLeDiff, reduceCtorEq, Int.reduceToNat, Int.reduceNeg]
  refine cal_sub (small_ok x y z) (by simp only [push_cast, reduceIte, Nat.reduceEqDiff, Nat.reduceAdd, Nat.reduceSub, Nat.reduceMul, Nat.reduceBEq, Nat.reduceLT, Nat.reduceLeDiff, reduceCtorEq, Int.reduceToNat, Int.reduceNeg]) ?_
  simp only [push_cast, reduceIte, Nat.reduceEqDiff, Nat.reduceAdd, Nat.reduceSub, Nat.reduceMul, Nat.reduceBEq, Nat.reduceLT, Nat.reduceLeDiff, reduceCtorEq, Int.reduceToNat, Int.reduceNeg]
  refine cond_of (fun h => ?_) fun h => ?_
  · simp only [push_cast, reduceIte, Nat.reduceEqDiff, Nat.reduceAdd, Nat.reduceSub, Nat.reduceMul, Nat.reduceBEq, Nat.reduceLT, Nat.reduceLeDiff, reduceCtorEq, Int.reduceToNat, Int.reduceNeg]

  have hs : Small x y z := by simpa using h
  have hx := hx.ok hs.1
  have hy := hy.ok hs.2.1
  obtain ⟨_, _, s3, s4, s5, _⟩ := hs
  refine cal_subO (lmade_ok x hx y hy z (by omega) hz.bad) (by simp only [push_cast, reduceIte, Nat.reduceEqDiff, Nat.reduceAdd, Nat.reduceSub, Nat.reduceMul, Nat.reduceBEq, Nat.reduceLT, Nat.reduceLeDiff, reduceCtorEq, Int.reduceToNat, Int.reduceNeg]) ?_
  rintro _ ⟨p, hp, rfl⟩
  have hj := job_ok hx hp hy z.bad
  have hpb : p.blocks.length ≤ 9 := by have := hp.nb; omega
  generalize hj0 : (⟨p, gridF y, badF (gridF y) z.bad⟩ : Job) = j at hj ⊢
  have hjb : j.p.blocks.length ≤ 9 := by rw [← hj0]; exact hpb
  clear hj0
  have hwh := hj.wh
  have hpos : 0 < j.g.w * j.g.h := Int.mul_pos hj.w.1 hj.h.1
  have htr := hj.tr
  simp only [push_cast, reduceIte, Nat.reduceEqDiff, Nat.reduceAdd, Nat.reduceSub, Nat.reduceMul, Nat.reduceBEq, Nat.reduceLT, Nat.reduceLeDiff, reduceCtorEq, Int.reduceToNat, Int.reduceNeg]
  refine cal_sub (rtiles_ok j hj z.at_ (by omega) hz.at_) ⟨Sub.aggL (jobC_sub j), .refl _, trivial⟩ ?_
  have hal : (tilesF j z.at_).length = j.p.blocks.length := tilesN_len _ _ _
  have har := tilesN_rng ⟨hpos, hwh.2⟩ z.at_ j.p.blocks.length (by omega)
  rw [show tilesN j z.at_ j.p.blocks.length = tilesF j z.at_ from rfl] at har
  generalize tilesF j z.at_ = a at hal har ⊢
  simp only [push_cast, reduceIte, Nat.reduceEqDiff, Nat.reduceAdd, Nat.reduceSub, Nat.reduceMul, Nat.reduceBEq, Nat.reduceLT, Nat.reduceLeDiff, reduceCtorEq, Int.reduceToNat, Int.reduceNeg]
  refine cond_dec (fun h0 => ?_) fun h0 => ?_
  · have hl0 : a.length = 0 := by omega
    refine ⟨by simp, ?_⟩
    refine cal_sub (lcheck_ok j hj [0] (by decide)) ⟨Sub.aggL (jobC_sub j), .refl _, trivial⟩ ?_
    rw [checkF_ne fun h => len_ne (by show 1 ≠ _; omega) h.2.1]
    simp only [push_cast, reduceIte, Nat.reduceEqDiff, Nat.reduceAdd, Nat.reduceSub, Nat.reduceMul, Nat.reduceBEq, Nat.reduceLT, Nat.reduceLeDiff, reduceCtorEq, Int.reduceToNat, Int.reduceNeg]
  have hn0 : 0 < a.length := by omega
  obtain ⟨r, hr, hr0, hr1⟩ := pick_ok hn0 (z.fixed.length : Int)
  obtain ⟨b, rfl⟩ := Int.eq_ofNat_of_zero_le hr0
  have hb : b < a.length := by omega
  obtain ⟨t, ht⟩ : ∃ t, a.getD b default = t := ⟨_, rfl⟩
  have htr1 := har t (ht ▸ getD_mem hb)
  have he : 0 ≤ t * (6 + 2 * j.g.tracks) ∧ t * (6 + 2 * j.g.tracks) ≤ 1000000 * 2006 := ⟨Int.mul_nonneg (by omega) (by omega), Int.mul_le_mul (by omega) (by omega) (by omega) (by omega)⟩
  rw [hr]
  simp only [push_cast, reduceIte, Nat.reduceEqDiff, Nat.reduceAdd, Nat.reduceSub, Nat.reduceMul, Nat.reduceBEq, Nat.reduceLT, Nat.reduceLeDiff, reduceCtorEq, Int.reduceToNat, Int.reduceNeg, ht]
  refine ⟨by omega, by omega, hb, ?_⟩
  refine cal_sub (suits_exp j hj b t) ⟨Sub.aggL (packedC_sub _), Sub.aggL (gridC_sub _), Sub.aggL (badC_sub _), .refl _, .refl _, trivial⟩ ?_
  simp only [push_cast, reduceIte, Nat.reduceEqDiff, Nat.reduceAdd, Nat.reduceSub, Nat.reduceMul, Nat.reduceBEq, Nat.reduceLT, Nat.reduceLeDiff, reduceCtorEq, Int.reduceToNat, Int.reduceNeg]
  refine ⟨by simp, ?_⟩
  refine cal_sub (each_ok j.g (by omega)) ⟨Sub.aggL (gridC_sub _), trivial⟩ ?_
  simp only [push_cast, reduceIte, Nat.reduceEqDiff, Nat.reduceAdd, Nat.reduceSub, Nat.reduceMul, Nat.reduceBEq, Nat.reduceLT, Nat.reduceLeDiff, reduceCtorEq, Int.reduceToNat, Int.reduceNeg]
  refine ⟨by omega, by simp, ?_⟩
  refine cut_of ⟨[(5, .ptr 5 0), (7, .bool true), (8, .ptr 8 0), (9, .sl true 1 (ints a)), (10, .int a.length), (11, .int b), (139, .bool false)], [(3, rawPC false x), (4, rawGC false y), (5, oddC false z), (8, jobC true j), (14, jobD j.p j.g (.view 70 0 1) .nil), (15, jobD j.p j.g .nil (.view 79 0 1))], [(70, ⟨1, 3, ints [t]⟩), (79, ⟨1, 3, ints [t * (6 + 2 * j.g.tracks)]⟩)], []⟩ ?_ ?_
  · have hd1 : checkF ⟨j.p, j.g, ⟨[t], []⟩⟩ a = 290 := ht ▸ defect_ne hb
    have hd2 : checkF ⟨j.p, j.g, ⟨[], [t * (6 + 2 * j.g.tracks)]⟩⟩ a = 290 := ht ▸ pin_ne hb
    have hjd1 : (⟨j.p, j.g, ⟨[t], []⟩⟩ : Job).Ok := setBad_ok hj (by simp) (by simp) (fun n hn => by cases hn)
    have hjd2 : (⟨j.p, j.g, ⟨[], [t * (6 + 2 * j.g.tracks)]⟩⟩ : Job).Ok := setBad_ok hj (by simp) (by simp) (fun n hn => by rw [List.mem_singleton.1 hn]; omega)
    cases hsu : suitsR j b t
    · simp only [push_cast, reduceIte, Nat.reduceEqDiff, Nat.reduceAdd, Nat.reduceSub, Nat.reduceMul, Nat.reduceBEq, Nat.reduceLT, Nat.reduceLeDiff, reduceCtorEq, Int.reduceToNat, Int.reduceNeg]
      refine cal_sub (lcheck_ok _ hjd1 a (by omega)) ⟨Sub.aggL (jobB_sub _ _ (.refl _) (.nil _ _)), .slp _ _ _ _ (fun h => by cases h), trivial⟩ ?_
      rw [hd1]
      simp only [push_cast, reduceIte, Nat.reduceEqDiff, Nat.reduceAdd, Nat.reduceSub, Nat.reduceMul, Nat.reduceBEq, Nat.reduceLT, Nat.reduceLeDiff, reduceCtorEq, Int.reduceToNat, Int.reduceNeg]
      refine grd_decf rfl (fun h3 => absurd rfl h3) fun _ => ?_
      simp only [push_cast, reduceIte, Nat.reduceEqDiff, Nat.reduceAdd, Nat.reduceSub, Nat.reduceMul, Nat.reduceBEq, Nat.reduceLT, Nat.reduceLeDiff, reduceCtorEq, Int.reduceToNat, Int.reduceNeg]
      refine cal_sub (lcheck_ok _ hjd2 a (by omega)) ⟨Sub.aggL (jobB_sub _ _ (.nil _ _) (.refl _)), .slp _ _ _ _ (fun h => by cases h), trivial⟩ ?_
      rw [hd2]
      simp only [push_cast, reduceIte, Nat.reduceEqDiff, Nat.reduceAdd, Nat.reduceSub, Nat.reduceMul, Nat.reduceBEq, Nat.reduceLT, Nat.reduceLeDiff, reduceCtorEq, Int.reduceToNat, Int.reduceNeg]
      refine grd_decf rfl (fun h3 => absurd rfl h3) fun _ => ?_
      simp only [push_cast, reduceIte, Nat.reduceEqDiff, Nat.reduceAdd, Nat.reduceSub, Nat.reduceMul, Nat.reduceBEq, Nat.reduceLT, Nat.reduceLeDiff, reduceCtorEq, Int.reduceToNat, Int.reduceNeg]
      refine cal_sub (lcheck_ok j hj a (by omega)) ⟨Sub.aggL (jobC_sub j), .slp _ _ _ _ (fun h => by cases h), trivial⟩ ?_
      rw [unsuited_ne hb (by rw [ht]; exact hsu)]
      simp only [push_cast, reduceIte, Nat.reduceEqDiff, Nat.reduceAdd, Nat.reduceSub, Nat.reduceMul, Nat.reduceBEq, Nat.reduceLT, Nat.reduceLeDiff, reduceCtorEq, Int.reduceToNat, Int.reduceNeg]
      rw [show decide ((290 : Int) ≠ 290) = false from rfl]
    · obtain ⟨f1, f2, f3, _⟩ := suitsR_tile hsu
      have f4 := suitsR_at hsu
      have hkd := hj.kind
      rw [Int.toNat_natCast] at f3
      simp only [push_cast, reduceIte, Nat.reduceEqDiff, Nat.reduceAdd, Nat.reduceSub, Nat.reduceMul, Nat.reduceBEq, Nat.reduceLT, Nat.reduceLeDiff, reduceCtorEq, Int.reduceToNat, Int.reduceNeg]
      refine cal_sub (in_ok j.bad.tiles t (by have := hj.tiles; omega)) ⟨.slp _ _ _ _ (fun h => by cases h), .refl _, trivial⟩ ?_
      rw [decide_eq_false f1]
      simp only [push_cast, reduceIte, Nat.reduceEqDiff, Nat.reduceAdd, Nat.reduceSub, Nat.reduceMul, Nat.reduceBEq, Nat.reduceLT, Nat.reduceLeDiff, reduceCtorEq, Int.reduceToNat, Int.reduceNeg]
      refine ⟨by omega, by omega, ?_⟩
      refine grd_decf rfl (fun h3 => absurd h3 f2) fun _ => ?_
      simp only [push_cast, reduceIte, Nat.reduceEqDiff, Nat.reduceAdd, Nat.reduceSub, Nat.reduceMul, Nat.reduceBEq, Nat.reduceLT, Nat.reduceLeDiff, reduceCtorEq, Int.reduceToNat, Int.reduceNeg]
      refine ⟨by omega, by omega, ?_⟩
      refine grd_dec rfl (fun h3 => ?_) fun h3 => ?_
      · simp only [push_cast, reduceIte, Nat.reduceEqDiff, Nat.reduceAdd, Nat.reduceSub, Nat.reduceMul, Nat.reduceBEq, Nat.reduceLT, Nat.reduceLeDiff, reduceCtorEq, Int.reduceToNat, Int.reduceNeg]
        refine ⟨by omega, by omega, ?_⟩
        refine grd_decf rfl (fun h4 => absurd (f3 h3) h4) fun _ => ?_
        simp only [push_cast, reduceIte, Nat.reduceEqDiff, Nat.reduceAdd, Nat.reduceSub, Nat.reduceMul, Nat.reduceBEq, Nat.reduceLT, Nat.reduceLeDiff, reduceCtorEq, Int.reduceToNat, Int.reduceNeg]
        refine cal_sub (lcheck_ok _ hjd1 a (by omega)) ⟨Sub.aggL (jobB_sub _ _ (.refl _) (.nil _ _)), .slp _ _ _ _ (fun h => by cases h), trivial⟩ ?_
        rw [hd1]
        simp only [push_cast, reduceIte, Nat.reduceEqDiff, Nat.reduceAdd, Nat.reduceSub, Nat.reduceMul, Nat.reduceBEq, Nat.reduceLT, Nat.reduceLeDiff, reduceCtorEq, Int.reduceToNat, Int.reduceNeg]
        refine grd_decf rfl (fun h3 => absurd rfl h3) fun _ => ?_
        simp only [push_cast, reduceIte, Nat.reduceEqDiff, Nat.reduceAdd, Nat.reduceSub, Nat.reduceMul, Nat.reduceBEq, Nat.reduceLT, Nat.reduceLeDiff, reduceCtorEq, Int.reduceToNat, Int.reduceNeg]
        refine cal_sub (lcheck_ok _ hjd2 a (by omega)) ⟨Sub.aggL (jobB_sub _ _ (.nil _ _) (.refl _)), .slp _ _ _ _ (fun h => by cases h), trivial⟩ ?_
        rw [hd2]
        simp only [push_cast, reduceIte, Nat.reduceEqDiff, Nat.reduceAdd, Nat.reduceSub, Nat.reduceMul, Nat.reduceBEq, Nat.reduceLT, Nat.reduceLeDiff, reduceCtorEq, Int.reduceToNat, Int.reduceNeg]
        refine grd_decf rfl (fun h3 => absurd rfl h3) fun _ => ?_
        simp only [push_cast, reduceIte, Nat.reduceEqDiff, Nat.reduceAdd, Nat.reduceSub, Nat.reduceMul, Nat.reduceBEq, Nat.reduceLT, Nat.reduceLeDiff, reduceCtorEq, Int.reduceToNat, Int.reduceNeg]
      · simp only [push_cast, reduceIte, Nat.reduceEqDiff, Nat.reduceAdd, Nat.reduceSub, Nat.reduceMul, Nat.reduceBEq, Nat.reduceLT, Nat.reduceLeDiff, reduceCtorEq, Int.reduceToNat, Int.reduceNeg]
        refine cal_sub (lcheck_ok _ hjd1 a (by omega)) ⟨Sub.aggL (jobB_sub _ _ (.refl _) (.nil _ _)), .slp _ _ _ _ (fun h => by cases h), trivial⟩ ?_
        rw [hd1]
        simp only [push_cast, reduceIte, Nat.reduceEqDiff, Nat.reduceAdd, Nat.reduceSub, Nat.reduceMul, Nat.reduceBEq, Nat.reduceLT, Nat.reduceLeDiff, reduceCtorEq, Int.reduceToNat, Int.reduceNeg]
        refine grd_decf rfl (fun h3 => absurd rfl h3) fun _ => ?_
        simp only [push_cast, reduceIte, Nat.reduceEqDiff, Nat.reduceAdd, Nat.reduceSub, Nat.reduceMul, Nat.reduceBEq, Nat.reduceLT, Nat.reduceLeDiff, reduceCtorEq, Int.reduceToNat, Int.reduceNeg]
        refine cal_sub (lcheck_ok _ hjd2 a (by omega)) ⟨Sub.aggL (jobB_sub _ _ (.nil _ _) (.refl _)), .slp _ _ _ _ (fun h => by cases h), trivial⟩ ?_
        rw [hd2]
        simp only [push_cast, reduceIte, Nat.reduceEqDiff, Nat.reduceAdd, Nat.reduceSub, Nat.reduceMul, Nat.reduceBEq, Nat.reduceLT, Nat.reduceLeDiff, reduceCtorEq, Int.reduceToNat, Int.reduceNeg]
        refine grd_decf rfl (fun h3 => absurd rfl h3) fun _ => ?_
        simp only [push_cast, reduceIte, Nat.reduceEqDiff, Nat.reduceAdd, Nat.reduceSub, Nat.reduceMul, Nat.reduceBEq, Nat.reduceLT, Nat.reduceLeDiff, reduceCtorEq, Int.reduceToNat, Int.reduceNeg]
  · simp only [push_cast, reduceIte, Nat.reduceEqDiff, Nat.reduceAdd, Nat.reduceSub, Nat.reduceMul, Nat.reduceBEq, Nat.reduceLT, Nat.reduceLeDiff, reduceCtorEq, Int.reduceToNat, Int.reduceNeg]
    refine refuses_tail x y z (by omega) j hj a hal b hb t (t * (6 + 2 * j.g.tracks)) _ ?_
    simp only [push_cast, reduceIte, Nat.reduceEqDiff, Nat.reduceAdd, Nat.reduceSub, Nat.reduceMul, Nat.reduceBEq, Nat.reduceLT, Nat.reduceLeDiff, reduceCtorEq, Int.reduceToNat, Int.reduceNeg]
end Go.Proofs.Ytbdamnfkgdbidaa
/- PlacementRefuses holds for every described packing, every described grid and all odd numbers: the row. -/
namespace Go.Proofs.Ytbdamnfkgdbidaa
open Go Go.ChangeShapes Go.WideShapes Go.ChangeAt Go.RowKit Go.Vc

theorem rawFlat : flatOk Try.prog 9 24 rawT = true := by kernel_rfl
theorem gridFlat : flatOk Try.prog 9 27 gridT = true := by kernel_rfl
theorem oddFlat : flatOk Try.prog 9 30 oddT = true := by kernel_rfl
theorem Try.own : ownKnob Try.prog.godebug = none := by kernel_rfl
theorem Try.laidOut : laidOutB Try.prog = true := by kernel_rfl
theorem boolU : Try.prog.underlying 4 = some .bool := by kernel_rfl
theorem paramsRefuses : Try.f7.params = #[24, 27, 30] := by kernel_rfl

set_option maxRecDepth 100000 in
theorem refuses_lifted (os : Os) (started : os.Started) (H : Type) (enc : TypeId × Value → H) :
    ReturnsInHanded {} Try.checked os 7 .any (Rows.placementRefusesSpec.pre6 enc Try.prog Try.f7 Rows.placementRefusesRow.domain false) (Rows.placementRefusesSpec.post enc Try.prog Try.f7 false true false false) := by
  refine returnsInHanded_of_change (C := Try.checked) Try.own started (by kernel_rfl) Try.func7
    (ChangeSpec.witness6 (enc := enc) (C := Try.checked) false ⟨#[], #[.agg #[.int .u8 0, .int .u8 0, .slice none 0 0], .agg #[.int .u8 0, .int .u8 0, .int .u8 0, .int .u8 0, .slice none 0 0],
      .agg #[.slice none 0 0, .slice none 0 0, .slice none 0 0, .slice none 0 0, .slice none 0 0, .int .i64 0, .int .i64 0, .int .i64 0]], []⟩ 8 (by kernel_rfl) (by kernel_rfl) (by kernel_rfl) (by kernel_rfl)) ?_
  intro W base args ds gs before hval0 hW hcnd _
  have hval : ∀ (j : Nat) t v, Try.f7.params[j]? = some t → args[j]? = some v → Value.okWide Try.prog W .any base t v := hval0
  have hW' := hW
  obtain ⟨p, q, hA0, hV, rfl, hfz, hnd⟩ := hW
  have hA : DataW.TrodAll enc Try.prog W 0 (fun _ => true) true Try.f7.params.toList args.toList ds p := hA0
  rw [paramsRefuses] at hA hval
  obtain ⟨v0, v1, v2, d0, d1, d2, p0, p1, p2, rfl, rfl, rfl, h0, h1, h2⟩ := trodAll_three hA
  obtain ⟨rfl, rfl⟩ := trodVars_none hV
  obtain ⟨a, ra, ta⟩ := argTy rawFlat (by kernel_rfl) (hval 0 _ v0 rfl rfl) h0
  obtain ⟨b, rb, tb⟩ := argTy gridFlat (by kernel_rfl) (hval 1 _ v1 rfl rfl) h1
  obtain ⟨c, rc, tc⟩ := argTy oddFlat (by kernel_rfl) (hval 2 _ v2 rfl rfl) h2
  have hlt : ∀ x ∈ p0 ++ p1 ++ p2, x.block < W.heap.size := fun x hx => hW'.lt x (by simpa using hx)
  refine (zw_call (law_true refuses_ok ra rb rc) rfl fun j cc hj => ?_).mono fun e W' ⟨he, hb⟩ => ?_
  · match j with
    | 0 => simp at hj; subst hj; exact ta
    | 1 => simp at hj; subst hj; exact tb
    | 2 => simp at hj; subst hj; exact tc
    | j + 3 => simp at hj
  · refine ⟨_, he, _, _, _, [], _, [], hW', ?_, trodAll_mk3 (Below.trod Try.laidOut (by kernel_rfl) (of_decide_eq_true (by kernel_rfl)) h0 hb fun x hx => hlt x (by simp [hx])) (Below.trod Try.laidOut (by kernel_rfl) (of_decide_eq_true (by kernel_rfl)) h1 hb fun x hx => hlt x (by simp [hx]))
        (Below.trod Try.laidOut (by kernel_rfl) (of_decide_eq_true (by kernel_rfl)) h2 hb fun x hx => hlt x (by simp [hx])), rfl, hb.frame _, fun h => by cases h⟩
    exact trodAll_mk1 (shut_bool boolU true)
theorem refuses_holds : Rows.PlacementRefusesSaid :=
  OpenClaim.holds_of_wide 7 Try.f7 rfl rfl rfl rfl rfl rfl rfl ⟨rfl, rfl, rfl, rfl, rfl⟩ rfl rfl rfl rfl rfl (by kernel_rfl) Try.func7 (by kernel_rfl)
    (of_decide_eq_true (by kernel_rfl)) (by unfold Func.isWrapper; first | (rw [if_pos (by decide +kernel)]; kernel_rfl) | (rw [if_neg (by decide +kernel)]; exact ⟨rfl, rfl⟩))
    (fun os started H enc _ => refuses_lifted os started H enc)
end Go.Proofs.Ytbdamnfkgdbidaa
