/- BB CC DD TxtC EE PRoom: PlacementRoom holds for every described packing, every described grid and every number of pads: the row. -/
import Derived.Test.YtbdamnfkgdbidaaPart11
import Derived.Test.YtbdamnfkgdbidaaPart12
import Derived.Test.YtbdamnfkgdbidaaPart07
import Derived.Test.YtbdamnfkgdbidaaPart05
import Derived.Test.YtbdamnfkgdbidaaChecked
import Derived.Test.YtbdamnfkgdbidaaRows
set_option linter.unusedSimpArgs false
set_option linter.unusedVariables false
/- plain laws: what an improvement keeps -/
namespace Go.Proofs.Ytbdamnfkgdbidaa
open Go Go.Vc

/-- All blocks stand on tiles that suit them. -/
def Suited (j : Job) (a : List Int) : Prop := ∀ i : Nat, i < a.length → suitsR j i (a.getD i default) = true
theorem checkF_zero_iff {j : Job} {a : List Int} : checkF j a = 0 ↔ Fits j ∧ IsPl j a ∧ Suited j a := by
  have e : (List.range a.length).all (fun k => suitsR j k (a.getD k default)) = true ↔ Suited j a := by
    rw [List.all_eq_true]
    exact ⟨fun h i hi => h i (List.mem_range.2 hi), fun h i hi => h i (List.mem_range.1 hi)⟩
  unfold checkF
  constructor
  · intro h
    split at h
    · rename_i h1
      exact ⟨h1.1, h1.2.1, e.1 h1.2.2⟩
    · cases h
  · rintro ⟨h1, h2, h3⟩
    rw [if_pos ⟨h1, h2, e.2 h3⟩]

theorem getD_set_eq {a : List Int} {k : Nat} (h : k < a.length) (x : Int) : (a.set k x).getD k default = x := by simp [List.getD_eq_getElem?_getD, h]
theorem getD_set_ne {a : List Int} {k i : Nat} (h : k ≠ i) (x : Int) : (a.set k x).getD i default = a.getD i default := by simp [List.getD_eq_getElem?_getD, List.getElem?_set_ne h]

/-- What an exchange does. -/
theorem exch_spec {j : Job} {fx at_ a : List Int} {k t : Nat} (hp : IsPl j at_) (hk : k < at_.length) (h : exchF j fx at_ k t = some a) :
    (k : Int) ∉ fx ∧ suitsR j k t = true ∧ at_.getD k default ≠ t ∧
      ((∃ o : Nat, o < at_.length ∧ at_.getD o default = t ∧ o ≠ k ∧ (o : Int) ∉ fx ∧ suitsR j o (at_.getD k default) = true ∧ a = (at_.set k t).set o (at_.getD k default)) ∨
       ((t : Int) ∉ at_ ∧ a = at_.set k t)) := by
  unfold exchF at h
  simp only at h
  split at h
  · cases h
  rename_i h1
  split at h
  · cases h
  rename_i h2
  injection h with h
  have hs : suitsR j k t = true := by cases hc : suitsR j k t <;> simp_all
  refine ⟨fun hh => h1 (.inr (.inl hh)), hs, fun hh => h1 (.inl hh), ?_⟩
  subst h
  split
  · rename_i ho
    obtain ⟨i, e, hi, hpi, _⟩ := fidx_spec ho
    rw [e] at h2 ⊢
    have hpi : at_[i] = t := by simpa using hpi
    have hgi : at_.getD i default = t := by rw [← hpi]; simp [hi]
    refine .inl ⟨i, hi, hgi, fun e => ?_, fun hh => h2 ⟨by omega, .inl hh⟩, ?_, rfl⟩
    · subst e; exact h1 (.inl hgi)
    · cases hc : suitsR j i (at_.getD k default)
      · exact absurd ⟨by omega, .inr hc⟩ h2
      · rfl
  · rename_i ho
    refine .inr ⟨fun hm => ?_, rfl⟩
    have := fidx_neg ho _ hm
    simp at this

/-- An exchange keeps what suits, and the fixed blocks. -/
theorem exch_keeps {j : Job} {fx at_ a : List Int} {k t : Nat} (hp : IsPl j at_) (hk : k < at_.length) (h : exchF j fx at_ k t = some a) :
    (Suited j at_ → Suited j a) ∧ ∀ i : Nat, (i : Int) ∈ fx → a.getD i default = at_.getD i default := by
  obtain ⟨h1, h2, h3, h4⟩ := exch_spec hp hk h
  have hl := (exch_undo hk h).1
  rcases h4 with ⟨o, ho, hot, hok, hof, hos, rfl⟩ | ⟨ht, rfl⟩
  · refine ⟨fun hs i hi => ?_, fun i hi => ?_⟩
    · rw [hl] at hi
      by_cases e1 : o = i
      · subst e1; rw [getD_set_eq (by simpa using ho)]; exact hos
      · rw [getD_set_ne e1]
        by_cases e2 : k = i
        · subst e2; rw [getD_set_eq hk]; exact h2
        · rw [getD_set_ne e2]; exact hs i hi
    · have e1 : o ≠ i := fun e => hof (e ▸ hi)
      have e2 : k ≠ i := fun e => h1 (e ▸ hi)
      rw [getD_set_ne e1, getD_set_ne e2]
  · refine ⟨fun hs i hi => ?_, fun i hi => ?_⟩
    · rw [hl] at hi
      by_cases e2 : k = i
      · subst e2; rw [getD_set_eq hk]; exact h2
      · rw [getD_set_ne e2]; exact hs i hi
    · have e2 : k ≠ i := fun e => h1 (e ▸ hi)
      rw [getD_set_ne e2]

/-- What holds on the way from one placement on. -/
structure Keeps (j : Job) (fx at0 : List Int) (s : Im) : Prop where
  ok : ImOk j at0 s
  suit : Suited j at0 → Suited j s.1
  fix : ∀ i : Nat, (i : Int) ∈ fx → s.1.getD i default = at0.getD i default
theorem tile_keeps {j : Job} {fx at0 : List Int} {k : Nat} {s : Im} (h : Keeps j fx at0 s) (hk : k < at0.length) (t : Nat) : Keeps j fx at0 (tileStep j fx k s t) := by
  refine ⟨tileStep_ok h.ok hk t, ?_, ?_⟩
  all_goals
    have hl := h.ok.len
    unfold tileStep
    cases he : exchF j fx s.1 k t with
    | none => first | exact h.suit | exact h.fix
    | some a =>
      obtain ⟨e1, e2⟩ := exch_keeps h.ok.pl (by omega) he
      simp only
      split
      · first
          | exact fun hs => e1 (h.suit hs)
          | exact fun i hi => (e2 i hi).trans (h.fix i hi)
      · first | exact h.suit | exact h.fix
theorem tiles_keeps {j : Job} {fx at0 : List Int} {k : Nat} (hk : k < at0.length) : ∀ (l : List Nat) {s : Im}, Keeps j fx at0 s → Keeps j fx at0 (l.foldl (tileStep j fx k) s)
  | [], _, h => h
  | t :: l, _, h => tiles_keeps hk l (tile_keeps h hk t)
theorem blocks_keeps {j : Job} {fx at0 : List Int} : ∀ (l : List Nat) {s : Im}, (∀ k ∈ l, k < at0.length) → Keeps j fx at0 s → Keeps j fx at0 (l.foldl (blockStep j fx) s)
  | [], _, _, h => h
  | k :: l, _, hl, h => blocks_keeps l (fun m hm => hl m (List.mem_cons_of_mem _ hm)) (tiles_keeps (hl k List.mem_cons_self) _ h)
theorem pass_keeps {j : Job} {fx at0 : List Int} {s : Im} (h : Keeps j fx at0 s) : Keeps j fx at0 (passStep j fx at0.length s) := blocks_keeps (List.range at0.length) (fun k hk => List.mem_range.1 hk) h
theorem passes_keeps {j : Job} {fx at0 : List Int} : ∀ (p : Nat) {s : Im}, Keeps j fx at0 s → Keeps j fx at0 (passesF j fx at0.length p s)
  | 0, _, h => h
  | p + 1, s, h => by
    have h1 := pass_keeps h
    simp only [passesF]
    split
    · exact h1
    · exact passes_keeps p h1
theorem keeps_init {j : Job} {fx at0 : List Int} (hp : IsPl j at0) : Keeps j fx at0 (at0, costF j at0, 0) :=
  ⟨⟨hp, rfl, rfl, by show (0 : Int) ≤ 0; omega, by show 0 + costF j at0 ≤ _; omega⟩, id, fun _ _ => rfl⟩
theorem improveF_keeps {j : Job} {fx at0 : List Int} (hp : IsPl j at0) (p : Nat) : Keeps j fx at0 (improveF j fx at0 p) := passes_keeps p (keeps_init hp)

/-- No pass makes the cost greater. -/
theorem tile_le {j : Job} {fx : List Int} {k : Nat} (s : Im) (t : Nat) : (tileStep j fx k s t).2.1 ≤ s.2.1 := by
  unfold tileStep
  split
  · exact Int.le_refl _
  · split
    · rename_i h; exact Int.le_of_lt h
    · exact Int.le_refl _
theorem tiles_le {j : Job} {fx : List Int} {k : Nat} : ∀ (l : List Nat) (s : Im), (l.foldl (tileStep j fx k) s).2.1 ≤ s.2.1
  | [], _ => Int.le_refl _
  | t :: l, s => Int.le_trans (tiles_le l _) (tile_le s t)
theorem blocks_le {j : Job} {fx : List Int} : ∀ (l : List Nat) (s : Im), (l.foldl (blockStep j fx) s).2.1 ≤ s.2.1
  | [], _ => Int.le_refl _
  | k :: l, s => Int.le_trans (blocks_le l _) (tiles_le _ s)
theorem passes_le {j : Job} {fx : List Int} {n : Nat} : ∀ (p : Nat) (s : Im), (passesF j fx n (p + 1) s).2.1 ≤ (passesF j fx n p s).2.1
  | 0, s => by
    simp only [passesF]
    have : (passStep j fx n s).2.1 ≤ s.2.1 := blocks_le _ s
    split <;> exact this
  | p + 1, s => by
    have ih := passes_le (j := j) (fx := fx) (n := n) p (passStep j fx n s)
    show (if (passStep j fx n s).2.2 = s.2.2 then passStep j fx n s else passesF j fx n (p + 1) (passStep j fx n s)).2.1 ≤ (if (passStep j fx n s).2.2 = s.2.2 then passStep j fx n s else passesF j fx n p (passStep j fx n s)).2.1
    split
    · exact Int.le_refl _
    · exact ih

/-! What Place makes. -/
def SuitedP (j : Job) (a : List Int) : Prop := ∀ i : Nat, 0 ≤ a.getD i default → i < a.length → suitsR j i (a.getD i default) = true
theorem suitedP_set {j : Job} {a : List Int} {i : Nat} {t : Int} (h : SuitedP j a) (hs : suitsR j i t = true) : SuitedP j (a.set i t) := by
  intro m h0 hm
  rw [List.length_set] at hm
  by_cases e : i = m
  · subst e; rw [getD_set_eq hm]; exact hs
  · rw [getD_set_ne e] at h0 ⊢; exact h m h0 hm
theorem keepF_spec {j : Job} : ∀ (l : List Int) (i : Nat) (s s' : List Int × List Int), keepF j l i s = some s' → i + l.length ≤ s.1.length → SuitedP j s.1 →
    SuitedP j s'.1 ∧ s'.1.length = s.1.length ∧ (∀ m : Nat, m < l.length → l.getD m default ≠ -1 → s'.1.getD (i + m) default = l.getD m default ∧ ((i + m : Nat) : Int) ∈ s'.2) ∧
      (∀ m : Nat, m < i → s'.1.getD m default = s.1.getD m default) ∧ ∀ x ∈ s.2, x ∈ s'.2
  | [], _, s, s', h, _, hs => by cases h; exact ⟨hs, rfl, fun m hm => absurd hm (by simp), fun _ _ => rfl, fun _ h => h⟩
  | t :: r, i, s, s', h, hl, hs => by
    simp only [List.length_cons] at hl
    simp only [keepF] at h
    split at h
    · rename_i ht
      obtain ⟨h1, h2, h3, h4, h5⟩ := keepF_spec r (i + 1) s s' h (by omega) hs
      refine ⟨h1, h2, fun m hm hne => ?_, fun m hm => h4 m (by omega), h5⟩
      cases m with
      | zero => exact absurd ht hne
      | succ m =>
        have := h3 m (by simpa using hm) (by simpa using hne)
        rw [show i + 1 + m = i + (m + 1) by omega] at this
        simpa using this
    · rename_i ht
      split at h
      · cases h
      · rename_i hn
        have hsu : suitsR j i t = true := by cases hc : suitsR j i t <;> simp_all
        obtain ⟨h1, h2, h3, h4, h5⟩ := keepF_spec r (i + 1) _ s' h (by simp only [List.length_set]; omega) (suitedP_set hs hsu)
        refine ⟨h1, by rw [h2]; simp, fun m hm hne => ?_, fun m hm => ?_, fun x hx => h5 x (List.mem_append_left _ hx)⟩
        · cases m with
          | zero =>
            have := h4 i (by omega)
            simp only [getD_set_eq (show i < s.1.length by omega)] at this
            exact ⟨this, h5 _ (List.mem_append_right _ (by simp))⟩
          | succ m =>
            have := h3 m (by simpa using hm) (by simpa using hne)
            rw [show i + 1 + m = i + (m + 1) by omega] at this
            simpa using this
        · have := h4 m (by omega)
          simp only [getD_set_ne (show i ≠ m by omega)] at this
          exact this
theorem fillStep_suit {j : Job} {reads : Bool} {a a' : List Int} {b : Nat} (h : fillStep j reads a b = some a') (hs : SuitedP j a) : SuitedP j a' := by
  unfold fillStep at h
  split at h
  · cases h; exact hs
  · split at h
    · cases h
    · rename_i t ht
      cases h
      exact suitedP_set hs (findT_spec ht).1
theorem fillF_suit {j : Job} {reads : Bool} : ∀ (n b : Nat) (a a' : List Int), fillF j reads n b a = some a' → SuitedP j a → SuitedP j a'
  | 0, _, a, a', h, hs => by cases h; exact hs
  | n + 1, b, a, a', h, hs => by
    simp only [fillF] at h
    split at h
    · cases h
    · rename_i a1 h1
      exact fillF_suit n (b + 1) a1 a' h (fillStep_suit h1 hs)
theorem fillAll_suit {j : Job} : ∀ (l : List Bool) (a a' : List Int), fillAll j l a = some a' → SuitedP j a → SuitedP j a'
  | [], a, a', h, hs => by cases h; exact hs
  | r :: rs, a, a', h, hs => by
    simp only [fillAll] at h
    split at h
    · cases h
    · rename_i a1 h1
      exact fillAll_suit rs a1 a' h (fillF_suit _ _ _ _ h1 hs)

/-- Whatever the passes are: an error, or the improvement of one placement, on which the fixed blocks stand where they should. -/
theorem placeF_spec (j : Job) (fx : List Int) (hl : fx.length = j.p.blocks.length ∨ fx = []) :
    (∃ e : Int, (e = 290 ∨ e = 4) ∧ ∀ p : Int, 0 ≤ p → p ≤ 1000 → placeF j fx p = ([], e)) ∨
    (∃ a kept : List Int, Fits j ∧ IsPl j a ∧ Suited j a ∧ (∀ i : Nat, i < fx.length → 0 ≤ fx.getD i default → a.getD i default = fx.getD i default ∧ (i : Int) ∈ kept) ∧
      ∀ p : Int, 0 ≤ p → p ≤ 1000 → placeF j fx p = ((improveF j kept a p.toNat).1, 0)) := by
  have h0 : ∀ p : Int, 0 ≤ p → p ≤ 1000 → ¬ (p < 0 ∨ 1000 < p ∨ ((fx.length : Int) ≠ 0 ∧ (fx.length : Int) ≠ j.p.blocks.length)) := fun p h1 h2 => by
    rcases hl with hl | hl
    · omega
    · subst hl; simp; omega
  by_cases hF : Fits j
  · cases hk : keepF j fx 0 (List.replicate j.p.blocks.length (-1), []) with
    | none => exact .inl ⟨290, .inl rfl, fun p h1 h2 => by rw [placeF, if_neg (h0 p h1 h2), if_neg (fun h => h hF), hk]⟩
    | some s =>
      have hinit : SuitedP j (List.replicate j.p.blocks.length (-1)) := fun i hi hl => by
        rw [List.length_replicate] at hl
        simp [List.getD_eq_getElem?_getD, hl] at hi
      obtain ⟨k1, k2, k3, _, _⟩ := keepF_spec fx 0 _ s hk (by
        rcases hl with hl | hl
        · simp [hl]
        · subst hl; simp) hinit
      have hpart := (keepF_part fx 0 _ s hk (part_init j)).1
      cases hf : fillAll j [true, false] s.1 with
      | none => exact .inl ⟨4, .inr rfl, fun p h1 h2 => by rw [placeF, if_neg (h0 p h1 h2), if_neg (fun h => h hF), hk]; simp only [tailF, hf]⟩
      | some a =>
        obtain ⟨hpl, hst⟩ := fillAll_pl hf hpart
        have hsu := fillAll_suit _ _ _ hf k1
        refine .inr ⟨a, s.2, hF, hpl, fun i hi => hsu i ?_ hi, fun i hi h1 => ?_, fun p h1 h2 => by rw [placeF, if_neg (h0 p h1 h2), if_neg (fun h => h hF), hk]; simp only [tailF, hf]⟩
        · have := hpl.2.1 (a.getD i default) (by simp [List.getD_eq_getElem?_getD, hi])
          exact this.1
        · have h3 := k3 i hi (by omega)
          rw [Nat.zero_add] at h3
          refine ⟨?_, h3.2⟩
          rw [hst i (by rw [h3.1]; exact h1), h3.1]
  · exact .inl ⟨290, .inl rfl, fun p h1 h2 => by rw [placeF, if_neg (h0 p h1 h2), if_pos hF]⟩
end Go.Proofs.Ytbdamnfkgdbidaa
/- PlacementLegal: the law's function answers true -/
namespace Go.Proofs.Ytbdamnfkgdbidaa
open Go Go.Vc Txt

structure RawP.By (x : RawP) : Prop where
  ins : 0 ≤ x.ins ∧ x.ins ≤ 255
  out : 0 ≤ x.out ∧ x.out ≤ 255
  six : ∀ b ∈ x.blocks, b.length = 6
  byte : ∀ b ∈ x.blocks, ∀ v ∈ b, 0 ≤ v ∧ v ≤ 255
structure RawG.By (x : RawG) : Prop where
  w : 0 ≤ x.w ∧ x.w ≤ 255
  h : 0 ≤ x.h ∧ x.h ≤ 255
  tracks : 0 ≤ x.tracks ∧ x.tracks ≤ 255
  pads : 0 ≤ x.pads ∧ x.pads ≤ 255
  kind : ∀ k ∈ x.kind, 0 ≤ k ∧ k ≤ 255
structure Odd.By (z : Odd) : Prop where
  bad : ∀ b ∈ z.bad, 0 ≤ b ∧ b ≤ 255
  at_ : ∀ b ∈ z.at_, 0 ≤ b ∧ b ≤ 255
  fixed : ∀ b ∈ z.fixed, 0 ≤ b ∧ b ≤ 255
  any : ∀ b ∈ z.any, -9223372036854775808 ≤ b ∧ b ≤ 9223372036854775807
  some_ : ∀ b ∈ z.some_, -9223372036854775808 ≤ b ∧ b ≤ 9223372036854775807
  block : -9223372036854775808 ≤ z.block ∧ z.block ≤ 9223372036854775807
  tile : -9223372036854775808 ≤ z.tile ∧ z.tile ≤ 9223372036854775807
  passes : -9223372036854775808 ≤ z.passes ∧ z.passes ≤ 9223372036854775807
theorem RawP.By.ok {x : RawP} (h : x.By) (hl : x.blocks.length ≤ 9) : x.Ok := ⟨h.ins, h.out, by omega, h.six, h.byte⟩
theorem RawG.By.ok {x : RawG} (h : x.By) (hl : x.kind.length ≤ 40) : x.Ok := ⟨h.w, h.h, h.tracks, h.pads, by omega, h.kind⟩

set_option maxHeartbeats 2000000 in
theorem legal_ok (x : RawP) (hx : x.By) (y : RawG) (hy : y.By) (z : Odd) (hz : z.By) :
    FnEq Try.prog 4 [.agg (rawPC false x), .agg (rawGC false y), .agg (oddC false z)] (.bool true) := by
  refine FnEq.of_awp Try.func4 ok4 (by show 3 ≤ _; decide) (by simp only [push_cast, reduceIte, Nat.reduceEqDiff, Nat.reduceAdd, Nat.reduceSub, Nat.reduceMul, Nat.reduceBEq, Nat.reduceLT, Nat.reduceLeDiff, reduceCtorEq, Int.reduceToNat, Int.reduceNeg] <;> first | exact fun _ _ => trivial | simp) ?_
  simp only [ac4, rv4, push_cast, reduceIte, Nat.reduceEqDiff, Nat.reduceAdd, Nat.reduceSub, Nat.reduceMul, Nat.reduceBEq, Nat.reduceLT, Nat.reduceLeDiff, reduceCtorEq, Int.reduceToNat, Int.reduceNeg]
  refine cal_sub examples_ok (by simp only [push_cast, reduceIte, Nat.reduceEqDiff, Nat.reduceAdd, Nat.reduceSub, Nat.reduceMul, Nat.reduceBEq, Nat.reduceLT, Nat.reduceLeDiff, reduceCtorEq, Int.reduceToNat, Int.reduceNeg]) ?_
  simp only [push_cast, reduceIte, Nat.reduceEqDiff, Nat.reduceAdd, Nat.reduceSub, Nat.reduceMul, Nat.reduceBEq, Nat.reduceLT, Nat.reduceLeDiff, reduceCtorEq, Int.reduceToNat, Int.reduceNeg]
  refine cal_sub (small_ok x y z) (by simp only [push_cast, reduceIte, Nat.reduceEqDiff, Nat.reduceAdd, Nat.reduceSub, Nat.reduceMul, Nat.reduceBEq, Nat.reduceLT, Nat.reduceLeDiff, reduceCtorEq, Int.reduceToNat, Int.reduceNeg]) ?_
  simp only [push_cast, reduceIte, Nat.reduceEqDiff, Nat.reduceAdd, Nat.reduceSub, Nat.reduceMul, Nat.reduceBEq, Nat.reduceLT, Nat.reduceLeDiff, reduceCtorEq, Int.reduceToNat, Int.reduceNeg]
  refine cond_of (fun h => ?_) fun h => ?_
  · simp only [push_cast, reduceIte, Nat.reduceEqDiff, Nat.reduceAdd, Nat.reduceSub, Nat.reduceMul, Nat.reduceBEq, Nat.reduceLT, Nat.reduceLeDiff, reduceCtorEq, Int.reduceToNat, Int.reduceNeg]
    done
  have hs : Small x y z := by simpa using h
  have hx := hx.ok hs.1
  have hy := hy.ok hs.2.1
  obtain ⟨_, _, s3, s4, s5, _⟩ := hs
  refine cal_subO (lmade_ok x hx y hy z (by omega) hz.bad) (by simp only [push_cast, reduceIte, Nat.reduceEqDiff, Nat.reduceAdd, Nat.reduceSub, Nat.reduceMul, Nat.reduceBEq, Nat.reduceLT, Nat.reduceLeDiff, reduceCtorEq, Int.reduceToNat, Int.reduceNeg]) ?_
  rintro _ ⟨p, hp, rfl⟩
  have hj := job_ok hx hp hy z.bad
  have hpb : p.blocks.length ≤ 9 := by have := hp.nb; omega
  generalize hj0 : (⟨p, gridF y, badF (gridF y) z.bad⟩ : Job) = j at hj ⊢
  have hjb : j.p.blocks.length ≤ 9 := by rw [← hj0]; exact hpb
  clear hj0
  simp only [push_cast, reduceIte, Nat.reduceEqDiff, Nat.reduceAdd, Nat.reduceSub, Nat.reduceMul, Nat.reduceBEq, Nat.reduceLT, Nat.reduceLeDiff, reduceCtorEq, Int.reduceToNat, Int.reduceNeg]
  refine cal_sub (fixed_ok j hj z.fixed (by omega) hz.fixed) ⟨Sub.aggL (jobC_sub j), .refl _, trivial⟩ ?_
  have hfl : (fixedF j z.fixed).length = j.p.blocks.length := by simp [fixedF]
  generalize fixedF j z.fixed = fx at hfl ⊢
  simp only [push_cast, reduceIte, Nat.reduceEqDiff, Nat.reduceAdd, Nat.reduceSub, Nat.reduceMul, Nat.reduceBEq, Nat.reduceLT, Nat.reduceLeDiff, reduceCtorEq, Int.reduceToNat, Int.reduceNeg]
  rcases placeF_spec j fx (.inl hfl) with ⟨e, he, hpl⟩ | ⟨a, kept, hF, hpl, hsu, hfix, hpl2⟩
  · refine loop_of (fun m st => m = 0 ∧ st = ⟨[(7, .bool true), (8, .ptr 8 0), (9, .sl true 1 (ints fx)), (10, .int (-1)), (11, .int 0)], [(8, jobC true j)], [], []⟩) 0 ?_ ?_
    · refine ⟨rfl, ?_⟩
      simp only [push_cast, reduceIte, Nat.reduceEqDiff, Nat.reduceAdd, Nat.reduceSub, Nat.reduceMul, Nat.reduceBEq, Nat.reduceLT, Nat.reduceLeDiff, reduceCtorEq, Int.reduceToNat, Int.reduceNeg]
    · rintro m st ⟨rfl, rfl⟩
      simp only [push_cast, reduceIte, Nat.reduceEqDiff, Nat.reduceAdd, Nat.reduceSub, Nat.reduceMul, Nat.reduceBEq, Nat.reduceLT, Nat.reduceLeDiff, reduceCtorEq, Int.reduceToNat, Int.reduceNeg]
      refine cond_dec (fun _ => ?_) fun h1 => absurd h1 (by omega)
      refine cal_sub (lplaced_ok j hj ⟨[], fx, 0⟩ (by show (fx.length : Int) ≤ _; omega)) ⟨Sub.aggL (jobC_sub j), Sub.aggL ⟨.nil _ _, .slp _ _ _ _ (fun h => by cases h), .refl _, trivial⟩, trivial⟩ ?_
      rw [show placeF j fx 0 = ([], e) from hpl 0 (by omega) (by omega)]
      simp only [push_cast, reduceIte, Nat.reduceEqDiff, Nat.reduceAdd, Nat.reduceSub, Nat.reduceMul, Nat.reduceBEq, Nat.reduceLT, Nat.reduceLeDiff, reduceCtorEq, Int.reduceToNat, Int.reduceNeg]
      refine cond_dec (fun _ => ?_) fun h1 => absurd h1 (by omega)
      refine ⟨by omega, ?_⟩
      refine cal_sub (lplaced_ok j hj ⟨[], fx, 0 + 1⟩ (by show (fx.length : Int) ≤ _; omega)) ⟨Sub.aggL (jobC_sub j), Sub.aggL ⟨.nil _ _, .slp _ _ _ _ (fun h => by cases h), .refl _, trivial⟩, trivial⟩ ?_
      rw [show placeF j fx (0 + 1) = ([], e) from hpl 1 (by omega) (by omega)]
      simp only [push_cast, reduceIte, Nat.reduceEqDiff, Nat.reduceAdd, Nat.reduceSub, Nat.reduceMul, Nat.reduceBEq, Nat.reduceLT, Nat.reduceLeDiff, reduceCtorEq, Int.reduceToNat, Int.reduceNeg]
      refine cutE_of (fun st1 => ∃ B, st1 = ⟨[(7, .bool true), (77, .bool false)], B, [], []⟩) ?_ ?_
      · (repeat' (first | (refine grd_dec rfl (fun _ => ?_) fun _ => ?_ <;> simp only [push_cast, reduceIte, Nat.reduceEqDiff, Nat.reduceAdd, Nat.reduceSub, Nat.reduceMul, Nat.reduceBEq, Nat.reduceLT, Nat.reduceLeDiff, reduceCtorEq, Int.reduceToNat, Int.reduceNeg]) | (refine grd_decf rfl (fun _ => ?_) fun _ => ?_ <;> simp only [push_cast, reduceIte, Nat.reduceEqDiff, Nat.reduceAdd, Nat.reduceSub, Nat.reduceMul, Nat.reduceBEq, Nat.reduceLT, Nat.reduceLeDiff, reduceCtorEq, Int.reduceToNat, Int.reduceNeg])))
        all_goals first | (exfalso; omega) | exact ⟨_, by rw [show decide (e ≠ e) = false by simp]⟩
      · rintro _ ⟨B, rfl⟩
        simp only [push_cast, reduceIte, Nat.reduceEqDiff, Nat.reduceAdd, Nat.reduceSub, Nat.reduceMul, Nat.reduceBEq, Nat.reduceLT, Nat.reduceLeDiff, reduceCtorEq, Int.reduceToNat, Int.reduceNeg]
  · have hfl9 : (fx.length : Int) ≤ 9 := by omega
    refine loop_of (fun m st => ∃ (t : Nat) (last : Int), t ≤ 4 ∧ m = 4 - t ∧ (t = 0 → last = -1) ∧ (∀ q : Nat, t = q + 1 → last = (improveF j kept a q).2.1) ∧
      st = ⟨[(7, .bool true), (8, .ptr 8 0), (9, .sl true 1 (ints fx)), (10, .int last), (11, .int t)], [(8, jobC true j)], [], []⟩) 4 ?_ ?_
    · refine ⟨0, -1, by omega, rfl, fun _ => rfl, fun q hq => by omega, ?_⟩
      simp only [push_cast, reduceIte, Nat.reduceEqDiff, Nat.reduceAdd, Nat.reduceSub, Nat.reduceMul, Nat.reduceBEq, Nat.reduceLT, Nat.reduceLeDiff, reduceCtorEq, Int.reduceToNat, Int.reduceNeg]
    · rintro m st ⟨t, last, ht, rfl, hl0, hl1, rfl⟩
      simp only [push_cast, reduceIte, Nat.reduceEqDiff, Nat.reduceAdd, Nat.reduceSub, Nat.reduceMul, Nat.reduceBEq, Nat.reduceLT, Nat.reduceLeDiff, reduceCtorEq, Int.reduceToNat, Int.reduceNeg]
      refine cond_dec (fun h1 => ?_) fun h1 => ?_
      · have hpt := hpl2 t (by omega) (by omega)
        rw [Int.toNat_natCast] at hpt
        have hk := improveF_keeps (fx := kept) hpl t
        refine cal_sub (lplaced_ok j hj ⟨[], fx, t⟩ (by show (fx.length : Int) ≤ _; omega)) ⟨Sub.aggL (jobC_sub j), Sub.aggL ⟨.nil _ _, .slp _ _ _ _ (fun h => by cases h), .refl _, trivial⟩, trivial⟩ ?_
        rw [show placeF j fx (t : Int) = ((improveF j kept a t).1, 0) from hpt]
        simp only [push_cast, reduceIte, Nat.reduceEqDiff, Nat.reduceAdd, Nat.reduceSub, Nat.reduceMul, Nat.reduceBEq, Nat.reduceLT, Nat.reduceLeDiff, reduceCtorEq, Int.reduceToNat, Int.reduceNeg]
        refine cond_dec (fun h2 => absurd rfl h2) fun _ => ?_
        have hlen : ((improveF j kept a t).1.length : Int) ≤ 1000000 := by have := hk.ok.len; have := hpl.1; omega
        have hcost : cost1F j (improveF j kept a t).1 = ((improveF j kept a t).2.1, 0) := by rw [cost1F, if_pos hk.ok.pl, hk.ok.cost]
        have hcheck : checkF j (improveF j kept a t).1 = 0 := checkF_zero_iff.2 ⟨hF, hk.ok.pl, hk.suit hsu⟩
        refine cal_sub (lcost_ok j hj _ hlen) ⟨Sub.aggL (jobC_sub j), .slp _ _ _ _ (fun h => by cases h), trivial⟩ ?_
        rw [hcost]
        simp only [push_cast, reduceIte, Nat.reduceEqDiff, Nat.reduceAdd, Nat.reduceSub, Nat.reduceMul, Nat.reduceBEq, Nat.reduceLT, Nat.reduceLeDiff, reduceCtorEq, Int.reduceToNat, Int.reduceNeg]
        refine cal_sub (lcheck_ok j hj _ hlen) ⟨Sub.aggL (jobC_sub j), .slp _ _ _ _ (fun h => by cases h), trivial⟩ ?_
        rw [hcheck]
        simp only [push_cast, reduceIte, Nat.reduceEqDiff, Nat.reduceAdd, Nat.reduceSub, Nat.reduceMul, Nat.reduceBEq, Nat.reduceLT, Nat.reduceLeDiff, reduceCtorEq, Int.reduceToNat, Int.reduceNeg]
        have hle : 0 ≤ last → (improveF j kept a t).2.1 ≤ last := fun h0 => by
          cases t with
          | zero => have := hl0 rfl; omega
          | succ q => rw [hl1 q rfl]; exact passes_le q _
        have hlenf : (improveF j kept a t).1.length = fx.length := by rw [hk.ok.len, hpl.1, hfl]
        have hfx : ∀ i : Nat, i < fx.length → 0 ≤ fx.getD i default → (improveF j kept a t).1.getD i default = fx.getD i default := fun i hi h0 => by
          have h3 := hfix i hi h0
          rw [hk.fix i h3.2, h3.1]
        generalize hr : improveF j kept a t = r at hle hlenf hfx ⊢
        refine cut_of ⟨[(7, .bool true), (8, .ptr 8 0), (9, .sl true 1 (ints fx)), (11, .int t), (12, .ptr 12 0), (14, .ptr 14 0), (110, .bool false)], [(8, jobC true j), (12, [.sl true 1 (ints r.1), .int 0, .int 0]), (14, [.int r.2.1, .int 0])], [], []⟩ ?_ ?_
        · refine grd_decf rfl (fun h3 => absurd rfl h3) fun _ => ?_
          simp only [push_cast, reduceIte, Nat.reduceEqDiff, Nat.reduceAdd, Nat.reduceSub, Nat.reduceMul, Nat.reduceBEq, Nat.reduceLT, Nat.reduceLeDiff, reduceCtorEq, Int.reduceToNat, Int.reduceNeg]
          refine grd_decf rfl (fun h3 => absurd rfl h3) fun _ => ?_
          simp only [push_cast, reduceIte, Nat.reduceEqDiff, Nat.reduceAdd, Nat.reduceSub, Nat.reduceMul, Nat.reduceBEq, Nat.reduceLT, Nat.reduceLeDiff, reduceCtorEq, Int.reduceToNat, Int.reduceNeg]
          have hne : decide ((r.1.length : Int) ≠ (fx.length : Int)) = false := decide_eq_false (by omega)
          refine grd_dec rfl (fun h4 => ?_) fun h4 => ?_ <;> simp only [push_cast, reduceIte, Nat.reduceEqDiff, Nat.reduceAdd, Nat.reduceSub, Nat.reduceMul, Nat.reduceBEq, Nat.reduceLT, Nat.reduceLeDiff, reduceCtorEq, Int.reduceToNat, Int.reduceNeg]
          · refine grd_decf rfl (fun h5 => absurd h5 (by have := hle h4; omega)) fun _ => ?_
            simp only [push_cast, reduceIte, Nat.reduceEqDiff, Nat.reduceAdd, Nat.reduceSub, Nat.reduceMul, Nat.reduceBEq, Nat.reduceLT, Nat.reduceLeDiff, reduceCtorEq, Int.reduceToNat, Int.reduceNeg]
            rw [hne]
          · rw [hne]
        · simp only [push_cast, reduceIte, Nat.reduceEqDiff, Nat.reduceAdd, Nat.reduceSub, Nat.reduceMul, Nat.reduceBEq, Nat.reduceLT, Nat.reduceLeDiff, reduceCtorEq, Int.reduceToNat, Int.reduceNeg]
          refine loop_of (fun m st => ∃ i : Nat, i ≤ fx.length ∧ m = fx.length - i ∧ st = ⟨[(7, .bool true), (8, .ptr 8 0), (9, .sl true 1 (ints fx)), (11, .int t), (12, .ptr 12 0), (14, .ptr 14 0), (15, .int i)], [(8, jobC true j), (12, [.sl true 1 (ints r.1), .int 0, .int 0]), (14, [.int r.2.1, .int 0])], [], []⟩) fx.length ?_ ?_
          · refine ⟨0, by omega, by omega, ?_⟩
            simp only [push_cast, reduceIte, Nat.reduceEqDiff, Nat.reduceAdd, Nat.reduceSub, Nat.reduceMul, Nat.reduceBEq, Nat.reduceLT, Nat.reduceLeDiff, reduceCtorEq, Int.reduceToNat, Int.reduceNeg]
          · rintro m st ⟨i, hi, rfl, rfl⟩
            simp only [push_cast, reduceIte, Nat.reduceEqDiff, Nat.reduceAdd, Nat.reduceSub, Nat.reduceMul, Nat.reduceBEq, Nat.reduceLT, Nat.reduceLeDiff, reduceCtorEq, Int.reduceToNat, Int.reduceNeg]
            refine cond_dec (fun h5 => ?_) fun h5 => ?_
            · have hi' : i < fx.length := by omega
              refine ⟨by omega, by omega, ?_⟩
              refine dcut_of ⟨[(7, .bool true), (8, .ptr 8 0), (9, .sl true 1 (ints fx)), (11, .int t), (12, .ptr 12 0), (14, .ptr 14 0), (15, .int i), (133, .bool false)], [(8, jobC true j), (12, [.sl true 1 (ints r.1), .int 0, .int 0]), (14, [.int r.2.1, .int 0])], [], []⟩ ?_ ?_
              · refine dgrd_dec rfl (fun h6 => ?_) fun h6 => ?_ <;> simp only [push_cast, reduceIte, Nat.reduceEqDiff, Nat.reduceAdd, Nat.reduceSub, Nat.reduceMul, Nat.reduceBEq, Nat.reduceLT, Nat.reduceLeDiff, reduceCtorEq, Int.reduceToNat, Int.reduceNeg]
                · rw [hfx i hi' h6, show decide (fx.getD i default ≠ fx.getD i default) = false by simp]
                  exact ⟨by omega, by omega, by omega, hi', rfl⟩
              · simp only [push_cast, reduceIte, Nat.reduceEqDiff, Nat.reduceAdd, Nat.reduceSub, Nat.reduceMul, Nat.reduceBEq, Nat.reduceLT, Nat.reduceLeDiff, reduceCtorEq, Int.reduceToNat, Int.reduceNeg]
                refine ⟨by omega, _, ?_, i + 1, by omega, rfl, ?_⟩
                · omega
                · simp
            · refine ⟨by omega, _, ?_, t + 1, r.2.1, by omega, rfl, fun h => by omega, fun q hq => ?_, ?_⟩
              · omega
              · rw [show q = t by omega, hr]
              · simp
      · exact trivial
end Go.Proofs.Ytbdamnfkgdbidaa
/- What the row's arguments are: the described packing, the described grid and the odd numbers. -/
namespace Go.Proofs.Ytbdamnfkgdbidaa
open Go Go.Vc Txt

def rawT : List Ty := [.i .u8, .i .u8, .sl 6 [.i .u8, .i .u8, .i .u8, .i .u8, .i .u8, .i .u8]]
def gridT : List Ty := [.i .u8, .i .u8, .i .u8, .i .u8, .sl 1 [.i .u8]]
def oddT : List Ty := [.sl 1 [.i .u8], .sl 1 [.i .u8], .sl 1 [.i .u8], .sl 1 [.i .i64], .sl 1 [.i .i64], .i .i64, .i .i64, .i .i64]

theorem rowV_nil {a : List PV} (h : RowV [] a) : a = [] := List.length_eq_zero_iff.1 h.1
theorem rowV_cons {t : Ty} {ts : List Ty} {a : List PV} (h : RowV (t :: ts) a) : ∃ c r, a = c :: r ∧ CellV t c ∧ RowV ts r := by
  obtain ⟨h1, h2⟩ := h
  cases a with
  | nil => cases h1
  | cons c r => exact ⟨c, r, rfl, h2 0 t c rfl rfl, by simpa using h1, fun j t' c' ht hc => h2 (j + 1) t' c' ht hc⟩
theorem cellV_i {k : IntKind} {c : PV} (h : CellV (.i k) c) : ∃ n : Int, c = .sc (.int k n) ∧ k.min ≤ n ∧ n ≤ k.max := by
  cases h with | i k n h1 h2 => exact ⟨n, rfl, h1, h2⟩
theorem cellV_u8 {c : PV} (h : CellV (.i .u8) c) : ∃ n : Int, c = .sc (.int .u8 n) ∧ 0 ≤ n ∧ n ≤ 255 := by
  obtain ⟨n, h1, h2, h3⟩ := cellV_i h
  exact ⟨n, h1, h2, h3⟩
theorem cellV_i64 {c : PV} (h : CellV (.i .i64) c) : ∃ n : Int, c = .int n ∧ -9223372036854775808 ≤ n ∧ n ≤ 9223372036854775807 := by
  obtain ⟨n, h1, h2, h3⟩ := cellV_i h
  exact ⟨n, h1, h2, h3⟩
theorem cellV_sl {es : Nat} {ts : List Ty} {c : PV} (h : CellV (.sl es ts) c) : ∃ rs : List (List PV), c = .sl true es rs ∧ rs.length ≤ maxLen ∧ ∀ r ∈ rs, RowV ts r := by
  cases h with | sl es ts rs h1 h2 h3 => exact ⟨rs, rfl, h1, fun r hr => ⟨h2 r hr, h3 r hr⟩⟩
theorem rows_all {α : Type} {f : α → List PV} {Q : α → Prop} : ∀ {rs : List (List PV)}, (∀ r ∈ rs, ∃ x, r = f x ∧ Q x) → ∃ l : List α, rs = rows f l ∧ ∀ x ∈ l, Q x
  | [], _ => ⟨[], rfl, fun x hx => by cases hx⟩
  | r :: rs, h => by
    obtain ⟨x, rfl, hx⟩ := h r (by simp)
    obtain ⟨l, rfl, hl⟩ := rows_all (f := f) (Q := Q) (rs := rs) fun r hr => h r (by simp [hr])
    refine ⟨x :: l, rfl, fun y hy => ?_⟩
    rcases List.mem_cons.1 hy with rfl | hy
    · exact hx
    · exact hl y hy
theorem cellV_bytes {c : PV} (h : CellV (.sl 1 [.i .u8]) c) : ∃ l : List Int, c = .sl true 1 (bytes8 l) ∧ ∀ b ∈ l, 0 ≤ b ∧ b ≤ 255 := by
  obtain ⟨rs, rfl, _, h2⟩ := cellV_sl h
  obtain ⟨l, rfl, hl⟩ := rows_all (f := fun x : Int => [PV.sc (.int .u8 x)]) (Q := fun b => 0 ≤ b ∧ b ≤ 255) (rs := rs) fun r hr => by
    obtain ⟨c, q, rfl, hc, h3⟩ := rowV_cons (h2 r hr)
    obtain ⟨n, rfl, hn⟩ := cellV_u8 hc
    rw [rowV_nil h3]
    exact ⟨n, rfl, hn⟩
  exact ⟨l, rfl, hl⟩
theorem cellV_ints {c : PV} (h : CellV (.sl 1 [.i .i64]) c) : ∃ l : List Int, c = .sl true 1 (ints l) ∧ ∀ b ∈ l, -9223372036854775808 ≤ b ∧ b ≤ 9223372036854775807 := by
  obtain ⟨rs, rfl, _, h2⟩ := cellV_sl h
  obtain ⟨l, rfl, hl⟩ := rows_all (f := fun x : Int => [PV.int x]) (Q := fun b => -9223372036854775808 ≤ b ∧ b ≤ 9223372036854775807) (rs := rs) fun r hr => by
    obtain ⟨c, q, rfl, hc, h3⟩ := rowV_cons (h2 r hr)
    obtain ⟨n, rfl, hn⟩ := cellV_i64 hc
    rw [rowV_nil h3]
    exact ⟨n, rfl, hn⟩
  exact ⟨l, rfl, hl⟩
theorem rowV_bytes : ∀ {n : Nat} {a : List PV}, RowV (List.replicate n (.i .u8)) a → ∃ l : List Int, a = bytesC l ∧ l.length = n ∧ ∀ b ∈ l, 0 ≤ b ∧ b ≤ 255
  | 0, a, h => ⟨[], by rw [rowV_nil h]; rfl, rfl, fun b hb => by cases hb⟩
  | n + 1, a, h => by
    obtain ⟨c, q, rfl, hc, h3⟩ := rowV_cons h
    obtain ⟨x, rfl, hx⟩ := cellV_u8 hc
    obtain ⟨l, rfl, h1, h2⟩ := rowV_bytes (n := n) h3
    refine ⟨x :: l, rfl, by simp [h1], fun y hy => ?_⟩
    rcases List.mem_cons.1 hy with rfl | hy
    · exact hx
    · exact h2 y hy
theorem rawP_of {a : List PV} (h : RowV rawT a) : ∃ x : RawP, x.By ∧ a = rawPC true x := by
  obtain ⟨c0, a0, rfl, h0, k0⟩ := rowV_cons h
  obtain ⟨c1, a1, rfl, h1, k1⟩ := rowV_cons k0
  obtain ⟨c2, a2, rfl, h2, k2⟩ := rowV_cons k1
  obtain ⟨n0, rfl, b0⟩ := cellV_u8 h0
  obtain ⟨n1, rfl, b1⟩ := cellV_u8 h1
  obtain ⟨rs, rfl, _, h3⟩ := cellV_sl h2
  obtain ⟨l, rfl, hl⟩ := rows_all (f := bytesC) (Q := fun b => b.length = 6 ∧ ∀ v ∈ b, 0 ≤ v ∧ v ≤ 255) (rs := rs) fun r hr => by
    obtain ⟨l, h4, h5⟩ := rowV_bytes (n := 6) (h3 r hr)
    exact ⟨l, h4, h5⟩
  rw [rowV_nil k2]
  exact ⟨⟨n0, n1, l⟩, ⟨b0, b1, fun b hb => (hl b hb).1, fun b hb => (hl b hb).2⟩, rfl⟩
theorem rawG_of {a : List PV} (h : RowV gridT a) : ∃ x : RawG, x.By ∧ a = rawGC true x := by
  obtain ⟨c0, a0, rfl, h0, k0⟩ := rowV_cons h
  obtain ⟨c1, a1, rfl, h1, k1⟩ := rowV_cons k0
  obtain ⟨c2, a2, rfl, h2, k2⟩ := rowV_cons k1
  obtain ⟨c3, a3, rfl, h3, k3⟩ := rowV_cons k2
  obtain ⟨c4, a4, rfl, h4, k4⟩ := rowV_cons k3
  obtain ⟨n0, rfl, b0⟩ := cellV_u8 h0
  obtain ⟨n1, rfl, b1⟩ := cellV_u8 h1
  obtain ⟨n2, rfl, b2⟩ := cellV_u8 h2
  obtain ⟨n3, rfl, b3⟩ := cellV_u8 h3
  obtain ⟨l, rfl, hl⟩ := cellV_bytes h4
  rw [rowV_nil k4]
  exact ⟨⟨n0, n1, n2, n3, l⟩, ⟨b0, b1, b2, b3, hl⟩, rfl⟩
theorem odd_of {a : List PV} (h : RowV oddT a) : ∃ x : Odd, x.By ∧ a = oddC true x := by
  obtain ⟨c0, a0, rfl, h0, k0⟩ := rowV_cons h
  obtain ⟨c1, a1, rfl, h1, k1⟩ := rowV_cons k0
  obtain ⟨c2, a2, rfl, h2, k2⟩ := rowV_cons k1
  obtain ⟨c3, a3, rfl, h3, k3⟩ := rowV_cons k2
  obtain ⟨c4, a4, rfl, h4, k4⟩ := rowV_cons k3
  obtain ⟨c5, a5, rfl, h5, k5⟩ := rowV_cons k4
  obtain ⟨c6, a6, rfl, h6, k6⟩ := rowV_cons k5
  obtain ⟨c7, a7, rfl, h7, k7⟩ := rowV_cons k6
  obtain ⟨l0, rfl, b0⟩ := cellV_bytes h0
  obtain ⟨l1, rfl, b1⟩ := cellV_bytes h1
  obtain ⟨l2, rfl, b2⟩ := cellV_bytes h2
  obtain ⟨l3, rfl, b3⟩ := cellV_ints h3
  obtain ⟨l4, rfl, b4⟩ := cellV_ints h4
  obtain ⟨n5, rfl, b5⟩ := cellV_i64 h5
  obtain ⟨n6, rfl, b6⟩ := cellV_i64 h6
  obtain ⟨n7, rfl, b7⟩ := cellV_i64 h7
  rw [rowV_nil k7]
  exact ⟨⟨l0, l1, l2, l3, l4, n5, n6, n7⟩, ⟨b0, b1, b2, b3, b4, b5, b6, b7⟩, rfl⟩
/-- The three arguments of a law of the placement. -/
theorem law_true {f : Nat} (hok : ∀ (x : RawP), x.By → ∀ (y : RawG), y.By → ∀ (z : Odd), z.By → FnEq Try.prog f [.agg (rawPC false x), .agg (rawGC false y), .agg (oddC false z)] (.bool true))
    {a b c : List PV} (ha : RowV rawT a) (hb : RowV gridT b) (hc : RowV oddT c) : FnEq Try.prog f [.agg a, .agg b, .agg c] (.bool true) := by
  obtain ⟨x, hx, rfl⟩ := rawP_of ha
  obtain ⟨y, hy, rfl⟩ := rawG_of hb
  obtain ⟨z, hz, rfl⟩ := odd_of hc
  refine FnOK.sub (hok x hx y hy z hz) ⟨Sub.aggL ?_, Sub.aggL ?_, Sub.aggL ?_, trivial⟩
  · exact ⟨.refl _, .refl _, .slp _ _ _ _ (fun h => by cases h), trivial⟩
  · exact ⟨.refl _, .refl _, .refl _, .refl _, .slp _ _ _ _ (fun h => by cases h), trivial⟩
  · exact ⟨.slp _ _ _ _ (fun h => by cases h), .slp _ _ _ _ (fun h => by cases h), .slp _ _ _ _ (fun h => by cases h), .slp _ _ _ _ (fun h => by cases h), .slp _ _ _ _ (fun h => by cases h), .refl _, .refl _, .refl _, trivial⟩
end Go.Proofs.Ytbdamnfkgdbidaa
/- YtbdamnfkgdbidaaTxtC.lean: the abstract text of functions, printed by gen.py; tied to the program by the kernel. -/
namespace Go.Proofs.Ytbdamnfkgdbidaa.Txt
open Go Go.Vc
set_option maxRecDepth 100000

def ac6c_r8 : AC :=
  (.seq (.reg [0, 114, 7, 8] [
    ⟨some 37, none, .fa 4 (.t 8)⟩,
    ⟨some 38, none, .fa 4 (.t 37)⟩,
    ⟨none, none, .sto 1 (.t 38) (.c (.nil))⟩])
  (.seq (.seq (.reg [0, 114, 7, 8] [
    ⟨some 9, none, .mv (.c (.sc (.int .i64 0)))⟩])
  (.block 0
  (.loop [0, 114, 7, 8, 9]
    (.seq (.seq (.reg [0, 114, 7, 8, 9] [
        ⟨some 39, none, .mv (.t 9)⟩,
        ⟨some 40, none, .fa 4 (.t 8)⟩,
        ⟨some 41, none, .fa 0 (.t 40)⟩,
        ⟨some 42, none, .ld false 1 (.t 41)⟩,
        ⟨some 43, none, .fa 4 (.t 8)⟩,
        ⟨some 44, none, .fa 1 (.t 43)⟩,
        ⟨some 45, none, .ld false 1 (.t 44)⟩,
        ⟨some 46, none, .ari .mul true .i64 (.t 42) (.t 45)⟩,
        ⟨some 47, none, .cmp .lss .i64 (.t 39) (.t 46)⟩])
      (.cond (.t 47)
      .skip
      (.exit 0)))
      (.seq (.block 1
      (.reg [0, 114, 7, 8, 9] [
          ⟨some 50, none, .fa 4 (.t 8)⟩,
          ⟨some 51, none, .fa 4 (.t 50)⟩,
          ⟨some 52, none, .ld false 1 (.t 51)⟩,
          ⟨some 53, none, .bsl 1 3 [.sc (.int .i64 0)] 1 [(0, (.c (.sc (.int .i64 2))))]⟩,
          ⟨some 54, none, .app 1 3 8 (.t 52) (.t 53)⟩,
          ⟨some 55, none, .fa 4 (.t 8)⟩,
          ⟨some 56, none, .fa 4 (.t 55)⟩,
          ⟨none, none, .sto 1 (.t 56) (.t 54)⟩]))
      (.reg [0, 114, 7, 8, 9] [
        ⟨some 48, none, .mv (.t 9)⟩,
        ⟨some 49, none, .ari .add true .i64 (.t 48) (.c (.sc (.int .i64 1)))⟩,
        ⟨some 9, none, .mv (.t 49)⟩]))))))
  (.seq (.reg [0, 114, 7, 8] [
    ⟨some 57, none, .fa 0 (.t 8)⟩,
    ⟨some 58, none, .fa 0 (.t 57)⟩,
    ⟨some 59, none, .ld false 1 (.t 58)⟩,
    ⟨some 60, none, .len (.t 59)⟩,
    ⟨some 61, none, .fa 4 (.t 8)⟩,
    ⟨some 62, none, .fa 3 (.t 61)⟩,
    ⟨some 63, none, .ld false 1 (.t 62)⟩,
    ⟨some 64, none, .cmp .leq .i64 (.t 60) (.t 63)⟩,
    ⟨some 65, none, .mv (.t 64)⟩,
    ⟨some 66, some (65, true), .fa 0 (.t 8)⟩,
    ⟨some 67, some (65, true), .fa 2 (.t 66)⟩,
    ⟨some 68, some (65, true), .ld false 1 (.t 67)⟩,
    ⟨some 69, some (65, true), .len (.t 68)⟩,
    ⟨some 70, some (65, true), .fa 4 (.t 8)⟩,
    ⟨some 71, some (65, true), .fa 3 (.t 70)⟩,
    ⟨some 72, some (65, true), .ld false 1 (.t 71)⟩,
    ⟨some 73, some (65, true), .cmp .leq .i64 (.t 69) (.t 72)⟩,
    ⟨some 74, none, .pick (.t 65) (.t 73) (.c (.sc (.bool false)))⟩,
    ⟨some 10, none, .mv (.t 74)⟩])
  (.cut [0, 114, 7, 8, 10] (.seq (.reg [0, 114, 7, 8, 10] [
    ⟨some 75, none, .ld true 11 (.t 8)⟩,
    ⟨some 76, none, .bld [.nil, .nil, .sc (.int .i64 0)] [(2, 1, (.c (.sc (.int .i64 1))))]⟩,
    ⟨some 77, none, .cal 23 [(.t 75), (.t 76)]⟩,
    ⟨some 11, none, .alc [.nil, .sc (.int .i64 0), .sc (.int .i64 0)]⟩,
    ⟨none, none, .sto 3 (.t 11) (.t 77)⟩])
  (.seq (.seq (.reg [0, 114, 7, 8, 10, 11] [
    ⟨some 78, none, .mv (.t 10)⟩,
    ⟨some 79, none, .not (.t 78)⟩])
  (.cond (.t 79)
  (.seq (.reg [0, 114, 7, 11] [
      ⟨some 80, none, .fa 2 (.t 11)⟩,
      ⟨some 81, none, .ld false 1 (.t 80)⟩,
      ⟨some 82, none, .cmp .eql .i64 (.t 81) (.c (.sc (.int .i64 290)))⟩,
      ⟨some 83, none, .mv (.t 82)⟩,
      ⟨some 84, some (83, true), .mv (.t 7)⟩,
      ⟨some 85, none, .pick (.t 83) (.t 84) (.c (.sc (.bool false)))⟩,
      ⟨some 6, none, .mv (.t 85)⟩])
    .ret)
  .skip))
  (.seq (.seq (.reg [0, 114, 7, 8, 11] [
    ⟨some 86, none, .fa 0 (.t 8)⟩,
    ⟨some 87, none, .fa 1 (.t 86)⟩,
    ⟨some 88, none, .ld false 1 (.t 87)⟩,
    ⟨some 89, none, .len (.t 88)⟩,
    ⟨some 90, none, .fa 4 (.t 8)⟩,
    ⟨some 91, none, .fa 4 (.t 90)⟩,
    ⟨some 92, none, .ld false 1 (.t 91)⟩,
    ⟨some 93, none, .len (.t 92)⟩,
    ⟨some 94, none, .cmp .gtr .i64 (.t 89) (.t 93)⟩])
  (.cond (.t 94)
  (.seq (.reg [0, 114, 7, 11] [
      ⟨some 95, none, .fa 2 (.t 11)⟩,
      ⟨some 96, none, .ld false 1 (.t 95)⟩,
      ⟨some 97, none, .cmp .eql .i64 (.t 96) (.c (.sc (.int .i64 4)))⟩,
      ⟨some 98, none, .mv (.t 97)⟩,
      ⟨some 99, some (98, true), .mv (.t 7)⟩,
      ⟨some 100, none, .pick (.t 98) (.t 99) (.c (.sc (.bool false)))⟩,
      ⟨some 6, none, .mv (.t 100)⟩])
    .ret)
  .skip))
  (.seq (.reg [0, 114, 7, 8, 11] [
    ⟨some 101, none, .fa 2 (.t 11)⟩,
    ⟨some 102, none, .ld false 1 (.t 101)⟩,
    ⟨some 103, none, .cmp .eql .i64 (.t 102) (.c (.sc (.int .i64 0)))⟩,
    ⟨some 104, none, .mv (.t 103)⟩,
    ⟨some 105, some (104, true), .ld true 11 (.t 8)⟩,
    ⟨some 106, some (104, true), .fa 0 (.t 11)⟩,
    ⟨some 107, some (104, true), .ld false 1 (.t 106)⟩,
    ⟨some 108, some (104, true), .cal 15 [(.t 105), (.t 107)]⟩,
    ⟨some 109, some (104, true), .cmp .eql .i64 (.t 108) (.c (.sc (.int .i64 0)))⟩,
    ⟨some 110, none, .pick (.t 104) (.t 109) (.c (.sc (.bool false)))⟩,
    ⟨some 111, none, .mv (.t 110)⟩,
    ⟨some 112, some (111, true), .mv (.t 7)⟩,
    ⟨some 113, none, .pick (.t 111) (.t 112) (.c (.sc (.bool false)))⟩,
    ⟨some 6, none, .mv (.t 113)⟩])
  .ret))))))))
/-- wireloom/wireloomlaw29.PlacementRoom -/
def ac6c : AC :=
  (.seq (.reg [0, 114, 0, 1, 2] [
    ⟨some 3, none, .box (.t 0)⟩,
    ⟨some 4, none, .box (.t 1)⟩,
    ⟨some 6, none, .mv (.c (.sc (.bool false)))⟩])
  (.seq (.reg [0, 114, 2, 3, 4] [
    ⟨some 12, none, .cal 9 []⟩,
    ⟨some 7, none, .mv (.t 12)⟩])
  (.seq (.seq (.reg [0, 114, 2, 3, 4, 7] [
    ⟨some 13, none, .mv (.t 7)⟩,
    ⟨some 14, none, .not (.t 13)⟩,
    ⟨some 15, none, .mv (.t 14)⟩,
    ⟨some 16, some (15, false), .ld true 3 (.t 3)⟩,
    ⟨some 17, some (15, false), .ld true 5 (.t 4)⟩,
    ⟨some 18, some (15, false), .bld [.nil, .nil, .nil, .nil, .nil, .sc (.int .i64 0), .sc (.int .i64 0), .sc (.int .i64 0)] []⟩,
    ⟨some 19, some (15, false), .cal 10 [(.t 16), (.t 17), (.t 18)]⟩,
    ⟨some 20, some (15, false), .not (.t 19)⟩,
    ⟨some 21, none, .pick (.t 15) (.c (.sc (.bool true))) (.t 20)⟩])
  (.cut [0, 114, 2, 3, 4, 7, 21] (.cond (.t 21)
  (.seq (.reg [0, 114, 7] [
      ⟨some 22, none, .mv (.t 7)⟩,
      ⟨some 6, none, .mv (.t 22)⟩])
    .ret)
  .skip)))
  (.seq (.drw [0, 114, 2, 3, 4, 7] [
    ⟨⟨some 23, none, .ld true 3 (.t 3)⟩, [], [8], true⟩,
    ⟨⟨some 24, none, .cal 29 [(.t 23)]⟩, [], [8], true⟩,
    ⟨⟨some 25, none, .ld true 5 (.t 4)⟩, [], [8], true⟩,
    ⟨⟨some 26, none, .cal 30 [(.t 25)]⟩, [], [8], true⟩,
    ⟨⟨some 27, none, .bld [.nil, .nil, .nil, .nil, .sc (.int .i64 0), .sc (.int .i64 0), .sc (.int .i64 0), .sc (.int .i64 0), .nil, .nil, .nil] [(0, 4, (.t 24)), (4, 5, (.t 26))]⟩, [], [8], true⟩,
    ⟨⟨some 8, none, .alc [.nil, .nil, .nil, .nil, .sc (.int .i64 0), .sc (.int .i64 0), .sc (.int .i64 0), .sc (.int .i64 0), .nil, .nil, .nil]⟩, [8], [], true⟩,
    ⟨⟨none, none, .sto 11 (.t 8) (.t 27)⟩, [], [], false⟩])
  (.seq (.reg [0, 114, 2, 7, 8] [
    ⟨some 28, none, .mv (.t 2)⟩,
    ⟨some 29, none, .dvd .rem true .u8 (.t 28) (.c (.sc (.int .u8 6)))⟩,
    ⟨some 30, none, .cnv true .i64 (.t 29)⟩,
    ⟨some 31, none, .fa 4 (.t 8)⟩,
    ⟨some 32, none, .fa 3 (.t 31)⟩,
    ⟨none, none, .sto 1 (.t 32) (.t 30)⟩])
  (.seq (.seq (.reg [0, 114, 2, 7, 8] [
    ⟨some 33, none, .mv (.t 2)⟩,
    ⟨some 34, none, .cmp .geq .u8 (.t 33) (.c (.sc (.int .u8 200)))⟩])
  (.cond (.t 34)
  (.reg [0, 114, 7, 8] [
      ⟨some 35, none, .fa 4 (.t 8)⟩,
      ⟨some 36, none, .fa 0 (.t 35)⟩,
      ⟨none, none, .sto 1 (.t 36) (.c (.sc (.int .i64 1)))⟩])
  .skip))
  ac6c_r8))))))
def rv6c : List RV := [.tmp 6]
theorem ok6c : fnOk Try.prog ac6c rv6c Try.f6 = true := by kernel_rfl
end Go.Proofs.Ytbdamnfkgdbidaa.Txt
/- PlacementRoom: the law's function answers true -/
namespace Go.Proofs.Ytbdamnfkgdbidaa
open Go Go.Vc Txt

theorem nodup_sub : ∀ {l m : List Int}, l.Nodup → (∀ x ∈ l, x ∈ m) → l.length ≤ m.length
  | [], _, _, _ => by simp
  | x :: l, m, hn, h => by
    rw [List.nodup_cons] at hn
    have hx := h x (by simp)
    have := nodup_sub (l := l) (m := m.erase x) hn.2 fun y hy => by
      have hne : y ≠ x := fun e => hn.1 (e ▸ hy)
      exact (List.mem_erase_of_ne hne).2 (h y (by simp [hy]))
    rw [List.length_erase_of_mem hx] at this
    have := List.length_pos_of_mem hx
    simp only [List.length_cons]
    omega
theorem ofNat_nodup : ∀ n : Nat, ((List.range n).map Int.ofNat).Nodup := fun n => by
  refine List.pairwise_iff_getElem.2 fun i k hi hk hik e => ?_
  simp at e; omega
/-- A placement has no more blocks than there are tiles. -/
theorem isPl_le {j : Job} (hj : j.Ok) {a : List Int} (h : IsPl j a) : (j.p.blocks.length : Int) ≤ j.g.w * j.g.h := by
  obtain ⟨h1, h2, h3⟩ := h
  have := nodup_sub h3 (m := (List.range (j.g.w * j.g.h).toNat).map Int.ofNat) fun x hx => by
    obtain ⟨q1, q2⟩ := h2 x hx
    exact List.mem_map.2 ⟨x.toNat, List.mem_range.2 (by omega), by simp; omega⟩
  simp only [List.length_map, List.length_range] at this
  have := hj.wh
  omega
/-- With a free tile for each block that has none, all blocks are placed. -/
theorem findT_free {j : Job} (hj : j.Ok) (hs : ∀ b t : Nat, b < j.p.blocks.length → t < j.g.kind.length → suitsR j b t = true) {a : List Int} {b : Nat} (hb : b < j.p.blocks.length) (hl : a.length ≤ j.g.kind.length) (hneg : (-1 : Int) ∈ a) :
    ∃ t, findT j a b = some t := by
  unfold findT
  cases hf : (List.range j.g.kind.length).find? (fun t : Nat => suitsR j b t && !decide ((t : Int) ∈ a)) with
  | some t => exact ⟨t, rfl⟩
  | none =>
    rw [List.find?_eq_none] at hf
    have hall : ∀ t : Nat, t < j.g.kind.length → (t : Int) ∈ a := fun t ht => by
      have := hf t (List.mem_range.2 ht)
      rw [hs b t hb ht] at this
      simpa using this
    have := nodup_sub (l := (-1) :: (List.range j.g.kind.length).map Int.ofNat) (m := a) (by
      rw [List.nodup_cons]
      refine ⟨fun hm => ?_, ofNat_nodup _⟩
      obtain ⟨t, _, ht⟩ := List.mem_map.1 hm
      exact absurd ht (by simp)) fun x hx => by
        rcases List.mem_cons.1 hx with rfl | hx
        · exact hneg
        · obtain ⟨t, h1, rfl⟩ := List.mem_map.1 hx
          exact hall t (List.mem_range.1 h1)
    simp at this
    omega
theorem fillF_room {j : Job} (hj : j.Ok) (hs : ∀ b t : Nat, b < j.p.blocks.length → t < j.g.kind.length → suitsR j b t = true) (hl : j.p.blocks.length ≤ j.g.kind.length) {reads : Bool} :
    ∀ (n b : Nat) (a : List Int), Part j a → b + n ≤ j.p.blocks.length → ∃ a', fillF j reads n b a = some a' ∧ Part j a'
  | 0, _, a, hp, _ => ⟨a, rfl, hp⟩
  | n + 1, b, a, hp, hb => by
    have hab : b < a.length := by rw [hp.len]; omega
    have hstep : ∃ a', fillStep j reads a b = some a' := by
      unfold fillStep
      split
      · exact ⟨a, rfl⟩
      · rename_i h1
        have hneg : (-1 : Int) ∈ a := by
          have hm : a.getD b default ∈ a := by simp [List.getD_eq_getElem?_getD, hab]
          rcases hp.rng _ hm with h2 | h2
          · rw [← h2]; exact hm
          · exact absurd (.inl h2.1) h1
        obtain ⟨t, ht⟩ := findT_free hj hs (a := a) (b := b) (by omega) (by rw [hp.len]; exact hl) hneg
        rw [ht]
        exact ⟨_, rfl⟩
    obtain ⟨a', ha'⟩ := hstep
    obtain ⟨p1, _, _⟩ := fillStep_part ha' hp hab
    obtain ⟨a2, h2, p2⟩ := fillF_room hj hs hl (reads := reads) n (b + 1) a' p1 (by omega)
    exact ⟨a2, by simp only [fillF, ha', h2], p2⟩
theorem fillAll_room {j : Job} (hj : j.Ok) (hs : ∀ b t : Nat, b < j.p.blocks.length → t < j.g.kind.length → suitsR j b t = true) (hl : j.p.blocks.length ≤ j.g.kind.length) :
    ∀ (l : List Bool) (a : List Int), Part j a → ∃ a', fillAll j l a = some a'
  | [], a, _ => ⟨a, rfl⟩
  | r :: rs, a, hp => by
    obtain ⟨a1, h1, p1⟩ := fillF_room hj hs hl (reads := r) j.p.blocks.length 0 a hp (by omega)
    obtain ⟨a2, h2⟩ := fillAll_room hj hs hl rs a1 p1
    exact ⟨a2, by simp only [fillAll, h1, h2]⟩
/-- Where every tile suits every block, Place answers by the numbers alone. -/
theorem placeF_room {j : Job} (hj : j.Ok) (hs : ∀ b t : Nat, b < j.p.blocks.length → t < j.g.kind.length → suitsR j b t = true) :
    (¬ Fits j → placeF j [] 1 = ([], 290)) ∧ (Fits j → j.g.kind.length < j.p.blocks.length → placeF j [] 1 = ([], 4)) ∧
    (Fits j → j.p.blocks.length ≤ j.g.kind.length → (placeF j [] 1).2 = 0 ∧ checkF j (placeF j [] 1).1 = 0) := by
  have hk := hj.kind
  have h0 : ¬ ((1 : Int) < 0 ∨ 1000 < (1 : Int) ∨ ((([] : List Int).length : Int) ≠ 0 ∧ (([] : List Int).length : Int) ≠ j.p.blocks.length)) := by simp
  refine ⟨fun hF => ?_, fun hF hl => ?_, fun hF hl => ?_⟩
  · rw [placeF, if_neg h0, if_pos hF]
  · rw [placeF, if_neg h0, if_neg (fun h => h hF)]
    simp only [keepF, tailF]
    cases hf : fillAll j [true, false] (List.replicate j.p.blocks.length (-1)) with
    | none => rfl
    | some a =>
      have := isPl_le hj (fillAll_pl hf (part_init j)).1
      omega
  · obtain ⟨a, ha⟩ := fillAll_room hj hs hl [true, false] _ (part_init j)
    have he : placeF j [] 1 = ((improveF j [] a 1).1, 0) := by
      rw [placeF, if_neg h0, if_neg (fun h => h hF)]
      simp only [keepF, tailF, ha]
      rfl
    rcases placeF_spec j [] (.inr rfl) with ⟨e, h1, h2⟩ | ⟨a1, kept, _, h1, h2, _, h3⟩
    · have := h2 1 (by omega) (by omega)
      rw [he] at this
      have := congrArg Prod.snd this
      simp only at this
      omega
    · rw [h3 1 (by omega) (by omega)]
      have hkp := improveF_keeps (fx := kept) h1 (Int.toNat 1)
      exact ⟨rfl, checkF_zero_iff.2 ⟨hF, hkp.ok.pl, hkp.suit h2⟩⟩

def roomG (g : Grid) (pads : Int) : Grid := ⟨if 200 ≤ pads then 1 else g.w, g.h, g.tracks, pads % 6, List.replicate ((if 200 ≤ pads then 1 else g.w) * g.h).toNat 2⟩
theorem roomJ_ok {x : RawP} (hx : x.Ok) {p : Packed} (hp : p.Gen x) {y : RawG} (hy : y.Ok) (pads : Int) : (⟨p, roomG (gridF y) pads, ⟨[], []⟩⟩ : Job).Ok := by
  have h := job_ok hx hp hy []
  obtain ⟨g1, g2, g3, g4, g5, g6⟩ := gridF_ok hy
  have hw : 1 ≤ (roomG (gridF y) pads).w ∧ (roomG (gridF y) pads).w ≤ 5 := by unfold roomG; simp only; split <;> omega
  have hm : 0 ≤ (roomG (gridF y) pads).w * (roomG (gridF y) pads).h ∧ (roomG (gridF y) pads).w * (roomG (gridF y) pads).h ≤ 5 * 5 :=
    ⟨Int.mul_nonneg (by omega) (by show 0 ≤ (gridF y).h; omega), Int.mul_le_mul hw.2 (by show (gridF y).h ≤ 5; omega) (by show 0 ≤ (gridF y).h; omega) (by omega)⟩
  refine ⟨⟨hm.1, by show (roomG (gridF y) pads).w * (roomG (gridF y) pads).h ≤ 1000000; omega⟩, h.tr, ?_, h.nb, h.nin, h.ins, h.outs, (by show (([] : List Int).length : Int) ≤ _; simp), (by show (([] : List Int).length : Int) ≤ _; simp), fun n hn => (by cases hn), ⟨by show 0 < (roomG (gridF y) pads).w; omega, by show (roomG (gridF y) pads).w ≤ 1000000; omega⟩, h.h, h.nd, h.sb, h.sd⟩
  show ((roomG (gridF y) pads).kind.length : Int) = (roomG (gridF y) pads).w * (roomG (gridF y) pads).h
  have : (roomG (gridF y) pads).kind.length = ((roomG (gridF y) pads).w * (roomG (gridF y) pads).h).toNat := by simp [roomG]
  omega
theorem room_suits {p : Packed} {g : Grid} {pads : Int} (b t : Nat) (hb : b < p.blocks.length) (ht : t < (roomG g pads).kind.length) (hk : ((roomG g pads).kind.length : Int) = (roomG g pads).w * (roomG g pads).h) : suitsR ⟨p, roomG g pads, ⟨[], []⟩⟩ b t = true := by
  unfold suitsR
  have h2 : (roomG g pads).kind.getD t default = 2 := by
    have : (roomG g pads).kind = List.replicate ((roomG g pads).w * (roomG g pads).h).toNat 2 := rfl
    rw [this] at ht ⊢
    rw [List.length_replicate] at ht
    simp [List.getD_eq_getElem?_getD, ht]
  rw [if_neg (by simp only; omega)]
  simp only [Int.toNat_natCast, h2]
  simp

def roomB (p : Packed) (w h tr pd : Int) (c : PV) : List PV := [.sl true 3 (rows wireC p.ins), .sl true 5 (rows (blockC true) p.blocks), .sl true 3 (rows wireC p.out), .sl true 1 (ints p.drive), .int w, .int h, .int tr, .int pd, c, .nil, .nil]
@[push_cast] theorem roomB_eq (p : Packed) (w h tr pd : Int) (c : PV) : roomB p w h tr pd c = [.sl true 3 (rows wireC p.ins), .sl true 5 (rows (blockC true) p.blocks), .sl true 3 (rows wireC p.out), .sl true 1 (ints p.drive), .int w, .int h, .int tr, .int pd, c, .nil, .nil] := rfl

theorem room_tail (p : Packed) (w h tr pd : Int) (c : PV) (b3 b4 : List PV) (st : St) (hst : st.keepS [0, 114, 7, 8] = ⟨[(7, .bool true), (8, .ptr 8 0)], [(3, b3), (4, b4), (8, roomB p w h tr pd c)], [], []⟩) (hw : 1 ≤ w ∧ w ≤ 5) (hh : 1 ≤ h ∧ h ≤ 5) (hj : (⟨p, ⟨w, h, tr, pd, List.replicate (w * h).toNat 2⟩, ⟨[], []⟩⟩ : Job).Ok)
    (hs : ∀ b t : Nat, b < p.blocks.length → t < (w * h).toNat → suitsR ⟨p, ⟨w, h, tr, pd, List.replicate (w * h).toNat 2⟩, ⟨[], []⟩⟩ b t = true) :
    awp (Env.of Try.prog) ac6c_r8 (retK [RV.tmp 6] fun v => Sub v (.bool true)) st := by
  simp only [ac6c_r8, push_cast, reduceIte, Nat.reduceEqDiff, Nat.reduceAdd, Nat.reduceSub, Nat.reduceMul, Nat.reduceBEq, Nat.reduceLT, Nat.reduceLeDiff, reduceCtorEq, Int.reduceToNat, Int.reduceNeg, hst]
  have hm : 1 * 1 ≤ w * h ∧ w * h ≤ 5 * 5 := ⟨Int.mul_le_mul hw.1 hh.1 (by omega) (by omega), Int.mul_le_mul hw.2 hh.2 (by omega) (by omega)⟩
  obtain ⟨n, hn⟩ : ∃ n : Nat, w * h = n := ⟨(w * h).toNat, by omega⟩
  refine loop_of (fun m st => ∃ k : Nat, k ≤ n ∧ m = n - k ∧
    ((k = 0 ∧ st = ⟨[(7, .bool true), (8, .ptr 8 0), (9, .int k)], [(8, roomB p w h tr pd .nil)], [], []⟩) ∨
     (k ≠ 0 ∧ st = ⟨[(7, .bool true), (8, .ptr 8 0), (9, .int k)], [(8, roomB p w h tr pd (.view 54 0 k))], [(54, ⟨1, 3, ints (List.replicate k 2)⟩)], []⟩))) n ?_ ?_
  · refine ⟨0, by omega, by omega, .inl ⟨rfl, ?_⟩⟩
    simp only [push_cast, reduceIte, Nat.reduceEqDiff, Nat.reduceAdd, Nat.reduceSub, Nat.reduceMul, Nat.reduceBEq, Nat.reduceLT, Nat.reduceLeDiff, reduceCtorEq, Int.reduceToNat, Int.reduceNeg]
  · rintro m st ⟨k, hk, rfl, ⟨rfl, rfl⟩ | ⟨hk0, rfl⟩⟩
    · simp only [push_cast, reduceIte, Nat.reduceEqDiff, Nat.reduceAdd, Nat.reduceSub, Nat.reduceMul, Nat.reduceBEq, Nat.reduceLT, Nat.reduceLeDiff, reduceCtorEq, Int.reduceToNat, Int.reduceNeg]
      rw [hn]
      refine ⟨by omega, ?_⟩
      refine cond_dec (fun h1 => ?_) fun h1 => absurd h1 (by omega)
      refine ⟨by simp, by omega, _, ?_, 1, by omega, rfl, .inr ⟨by omega, ?_⟩⟩
      · omega
      · rfl
    · simp only [push_cast, reduceIte, Nat.reduceEqDiff, Nat.reduceAdd, Nat.reduceSub, Nat.reduceMul, Nat.reduceBEq, Nat.reduceLT, Nat.reduceLeDiff, reduceCtorEq, Int.reduceToNat, Int.reduceNeg]
      rw [hn]
      refine ⟨by omega, ?_⟩
      refine cond_dec (fun h1 => ?_) fun h1 => ?_
      · refine ⟨by simp, by simp; omega, by omega, _, ?_, k + 1, by omega, rfl, .inr ⟨by omega, ?_⟩⟩
        · omega
        · rw [List.replicate_succ']; rfl
      · have hkn : k = n := by omega
        subst hkn
        have hlen : (List.replicate k (2 : Int)).length = k := by simp
        have hkd : List.replicate (w * h).toNat (2 : Int) = List.replicate k 2 := by rw [hn, Int.toNat_natCast]
        rw [hkd] at hj hs
        have hF : Fits ⟨p, ⟨w, h, tr, pd, List.replicate k 2⟩, ⟨[], []⟩⟩ ↔ (p.ins.length : Int) ≤ pd ∧ (p.out.length : Int) ≤ pd := Iff.rfl
        have hroom := placeF_room hj fun b t hb ht => hs b t hb (by simpa [hn] using ht)
        refine cut_of ⟨[(7, .bool true), (8, .ptr 8 0), (10, .bool (decide (Fits ⟨p, ⟨w, h, tr, pd, List.replicate k 2⟩, ⟨[], []⟩⟩)))], [(8, roomB p w h tr pd (.view 54 0 k))], [(54, ⟨1, 3, ints (List.replicate k 2)⟩)], []⟩ ?_ ?_
        · refine grd_dec rfl (fun h2 => ?_) fun h2 => ?_ <;> simp only [push_cast, reduceIte, Nat.reduceEqDiff, Nat.reduceAdd, Nat.reduceSub, Nat.reduceMul, Nat.reduceBEq, Nat.reduceLT, Nat.reduceLeDiff, reduceCtorEq, Int.reduceToNat, Int.reduceNeg]
          · rw [decide_eq_decide.2 (show Fits ⟨p, ⟨w, h, tr, pd, List.replicate k 2⟩, ⟨[], []⟩⟩ ↔ (p.out.length : Int) ≤ pd from hF.trans (and_iff_right h2))]
          · rw [decide_eq_false (show ¬ Fits ⟨p, ⟨w, h, tr, pd, List.replicate k 2⟩, ⟨[], []⟩⟩ from fun h3 => h2 (hF.1 h3).1)]
        · simp only [push_cast, reduceIte, Nat.reduceEqDiff, Nat.reduceAdd, Nat.reduceSub, Nat.reduceMul, Nat.reduceBEq, Nat.reduceLT, Nat.reduceLeDiff, reduceCtorEq, Int.reduceToNat, Int.reduceNeg]
          generalize hj0 : (⟨p, ⟨w, h, tr, pd, List.replicate k 2⟩, ⟨[], []⟩⟩ : Job) = j at hj hroom ⊢
          refine cal_sub (lplaced_ok j hj ⟨[], [], 1⟩ (by simp)) ⟨Sub.aggL ?_, Sub.aggL ⟨.nil _ _, .nil _ _, .refl _, trivial⟩, trivial⟩ ?_
          · subst hj0
            refine ⟨.slp _ _ _ _ (fun h => by cases h), Sub.slR 5 (fun h => by cases h) (SubR.map _ _ _ fun b _ => blockC_sub b), .slp _ _ _ _ (fun h => by cases h), .slp _ _ _ _ (fun h => by cases h), .refl _, .refl _, .refl _, .refl _, ?_, .nil _ _, .nil _ _, trivial⟩
            rw [List.take_of_length_le (by simp)]
            exact .refl _
          simp only [push_cast, reduceIte, Nat.reduceEqDiff, Nat.reduceAdd, Nat.reduceSub, Nat.reduceMul, Nat.reduceBEq, Nat.reduceLT, Nat.reduceLeDiff, reduceCtorEq, Int.reduceToNat, Int.reduceNeg]
          have e1 : j.p.blocks = p.blocks := by rw [← hj0]
          have e2 : j.g.kind.length = k := by rw [← hj0]; simp
          rw [e1, e2] at hroom
          obtain ⟨r1, r2, r3⟩ := hroom
          refine cond_of (fun h3 => ?_) fun h3 => ?_
          · have hFj : ¬ Fits j := by simpa using h3
            rw [r1 hFj]
            simp only [push_cast, reduceIte, Nat.reduceEqDiff, Nat.reduceAdd, Nat.reduceSub, Nat.reduceMul, Nat.reduceBEq, Nat.reduceLT, Nat.reduceLeDiff, reduceCtorEq, Int.reduceToNat, Int.reduceNeg]
          · have hFj : Fits j := by simpa using h3
            refine cond_dec (fun h4 => ?_) fun h4 => ?_
            · rw [r2 hFj (by omega)]
              simp only [push_cast, reduceIte, Nat.reduceEqDiff, Nat.reduceAdd, Nat.reduceSub, Nat.reduceMul, Nat.reduceBEq, Nat.reduceLT, Nat.reduceLeDiff, reduceCtorEq, Int.reduceToNat, Int.reduceNeg]
            · obtain ⟨r4, r5⟩ := r3 hFj (by omega)
              have hpl := (checkF_zero_iff.1 r5).2.1.1
              have hnb := hj.nb
              generalize placeF j [] 1 = r at r4 r5 hpl ⊢
              rw [r4]
              refine grd_dec rfl (fun _ => ?_) fun h => absurd rfl h
              simp only [push_cast, reduceIte, Nat.reduceEqDiff, Nat.reduceAdd, Nat.reduceSub, Nat.reduceMul, Nat.reduceBEq, Nat.reduceLT, Nat.reduceLeDiff, reduceCtorEq, Int.reduceToNat, Int.reduceNeg]
              refine cal_sub (lcheck_ok j hj r.1 (by omega)) ⟨Sub.aggL ?_, .slp _ _ _ _ (fun h => by cases h), trivial⟩ ?_
              · subst hj0
                refine ⟨.slp _ _ _ _ (fun h => by cases h), Sub.slR 5 (fun h => by cases h) (SubR.map _ _ _ fun b _ => blockC_sub b), .slp _ _ _ _ (fun h => by cases h), .slp _ _ _ _ (fun h => by cases h), .refl _, .refl _, .refl _, .refl _, ?_, .nil _ _, .nil _ _, trivial⟩
                rw [List.take_of_length_le (by simp)]
                exact .refl _
              rw [r5]
              simp only [push_cast, reduceIte, Nat.reduceEqDiff, Nat.reduceAdd, Nat.reduceSub, Nat.reduceMul, Nat.reduceBEq, Nat.reduceLT, Nat.reduceLeDiff, reduceCtorEq, Int.reduceToNat, Int.reduceNeg]
              done

theorem room_ok (x : RawP) (hx : x.By) (y : RawG) (hy : y.By) (pads : Int) (hp : 0 ≤ pads ∧ pads ≤ 255) :
    FnEq Try.prog 6 [.agg (rawPC false x), .agg (rawGC false y), .sc (.int .u8 pads)] (.bool true) := by
  refine FnEq.of_awp Try.func6 ok6c (by show 3 ≤ _; decide) (by simp only [push_cast, reduceIte, Nat.reduceEqDiff, Nat.reduceAdd, Nat.reduceSub, Nat.reduceMul, Nat.reduceBEq, Nat.reduceLT, Nat.reduceLeDiff, reduceCtorEq, Int.reduceToNat, Int.reduceNeg] <;> first | exact fun _ _ => trivial | simp) ?_
  simp only [ac6c, rv6c, push_cast, reduceIte, Nat.reduceEqDiff, Nat.reduceAdd, Nat.reduceSub, Nat.reduceMul, Nat.reduceBEq, Nat.reduceLT, Nat.reduceLeDiff, reduceCtorEq, Int.reduceToNat, Int.reduceNeg]
  refine cal_sub examples_ok (by simp only [push_cast, reduceIte, Nat.reduceEqDiff, Nat.reduceAdd, Nat.reduceSub, Nat.reduceMul, Nat.reduceBEq, Nat.reduceLT, Nat.reduceLeDiff, reduceCtorEq, Int.reduceToNat, Int.reduceNeg]) ?_
  simp only [push_cast, reduceIte, Nat.reduceEqDiff, Nat.reduceAdd, Nat.reduceSub, Nat.reduceMul, Nat.reduceBEq, Nat.reduceLT, Nat.reduceLeDiff, reduceCtorEq, Int.reduceToNat, Int.reduceNeg]
  refine cal_sub (small_ok x y ⟨[], [], [], [], [], 0, 0, 0⟩) ⟨.refl _, .refl _, Sub.aggL ⟨.nil _ _, .nil _ _, .nil _ _, .nil _ _, .nil _ _, .refl _, .refl _, .refl _, trivial⟩, trivial⟩ ?_
  simp only [push_cast, reduceIte, Nat.reduceEqDiff, Nat.reduceAdd, Nat.reduceSub, Nat.reduceMul, Nat.reduceBEq, Nat.reduceLT, Nat.reduceLeDiff, reduceCtorEq, Int.reduceToNat, Int.reduceNeg]
  refine cond_of (fun h => ?_) fun h => ?_
  · simp only [push_cast, reduceIte, Nat.reduceEqDiff, Nat.reduceAdd, Nat.reduceSub, Nat.reduceMul, Nat.reduceBEq, Nat.reduceLT, Nat.reduceLeDiff, reduceCtorEq, Int.reduceToNat, Int.reduceNeg]
    done
  have hs : Small x y ⟨[], [], [], [], [], 0, 0, 0⟩ := by simpa using h
  have hx := hx.ok hs.1
  have hy := hy.ok hs.2.1
  obtain ⟨g1, g2, g3, g4, g5, g6⟩ := gridF_ok hy
  refine dcal_of (packed_ok x hx) ?_ ?_
  · exact ⟨_, genP x, genP_ok hx, rfl⟩
  rintro _ ⟨p, hp1, rfl⟩
  refine ⟨rfl, ?_⟩
  simp only [push_cast, reduceIte, Nat.reduceEqDiff, Nat.reduceAdd, Nat.reduceSub, Nat.reduceMul, Nat.reduceBEq, Nat.reduceLT, Nat.reduceLeDiff, reduceCtorEq, Int.reduceToNat, Int.reduceNeg]
  refine dcal_sub (made_ok y hy) (by simp only [push_cast, reduceIte, Nat.reduceEqDiff, Nat.reduceAdd, Nat.reduceSub, Nat.reduceMul, Nat.reduceBEq, Nat.reduceLT, Nat.reduceLeDiff, reduceCtorEq, Int.reduceToNat, Int.reduceNeg]) rfl ?_
  simp only [push_cast, reduceIte, Nat.reduceEqDiff, Nat.reduceAdd, Nat.reduceSub, Nat.reduceMul, Nat.reduceBEq, Nat.reduceLT, Nat.reduceLeDiff, reduceCtorEq, Int.reduceToNat, Int.reduceNeg]
  refine ⟨by omega, by omega, ?_⟩
  have hj := roomJ_ok hx hp1 hy pads
  have hsu : ∀ b t : Nat, b < p.blocks.length → t < (roomG (gridF y) pads).kind.length → suitsR ⟨p, roomG (gridF y) pads, ⟨[], []⟩⟩ b t = true := fun b t hb ht => room_suits b t hb ht hj.kind
  refine cond_dec (fun h2 => ?_) fun h2 => ?_
  · have hw : (if 200 ≤ pads then 1 else (gridF y).w) = 1 := if_pos h2
    have hj : (⟨p, ⟨1, (gridF y).h, (gridF y).tracks, pads % 6, List.replicate (1 * (gridF y).h).toNat 2⟩, ⟨[], []⟩⟩ : Job).Ok := by have := hj; simp only [roomG, hw] at this; exact this
    refine room_tail p 1 (gridF y).h (gridF y).tracks (pads % 6) (.sl true 1 (ints (gridF y).kind)) (rawPC false x) (rawGC false y) _ ?_ (by omega) (by omega) hj ?_
    · simp only [push_cast, reduceIte, Nat.reduceEqDiff, Nat.reduceAdd, Nat.reduceSub, Nat.reduceMul, Nat.reduceBEq, Nat.reduceLT, Nat.reduceLeDiff, reduceCtorEq, Int.reduceToNat, Int.reduceNeg]
    · simpa only [roomG, hw, List.length_replicate] using hsu
  · have hw : (if 200 ≤ pads then 1 else (gridF y).w) = (gridF y).w := if_neg h2
    have hj : (⟨p, ⟨(gridF y).w, (gridF y).h, (gridF y).tracks, pads % 6, List.replicate ((gridF y).w * (gridF y).h).toNat 2⟩, ⟨[], []⟩⟩ : Job).Ok := by have := hj; simp only [roomG, hw] at this; exact this
    refine room_tail p (gridF y).w (gridF y).h (gridF y).tracks (pads % 6) (.sl true 1 (ints (gridF y).kind)) (rawPC false x) (rawGC false y) _ ?_ (by omega) (by omega) hj ?_
    · simp only [push_cast, reduceIte, Nat.reduceEqDiff, Nat.reduceAdd, Nat.reduceSub, Nat.reduceMul, Nat.reduceBEq, Nat.reduceLT, Nat.reduceLeDiff, reduceCtorEq, Int.reduceToNat, Int.reduceNeg]
    · simpa only [roomG, hw, List.length_replicate] using hsu
end Go.Proofs.Ytbdamnfkgdbidaa
/- PlacementRoom holds for every described packing, every described grid and every number of pads: the row. -/
namespace Go.Proofs.Ytbdamnfkgdbidaa
open Go Go.ChangeShapes Go.WideShapes Go.ChangeAt Go.RowKit Go.Vc

theorem rawFlat : flatOk Try.prog 9 24 rawT = true := by kernel_rfl
theorem gridFlat : flatOk Try.prog 9 27 gridT = true := by kernel_rfl
theorem u8U : Try.prog.underlying 5 = some (.int .u8) := by kernel_rfl
theorem u8Flat : flatOk Try.prog 9 5 [.i .u8] = true := by kernel_rfl
theorem okInt {P : Program} {W : World} {base : Nat} {t : TypeId} {k : IntKind} {v : Value} (hu : P.underlying t = some (.int k)) (h : Value.okWide P W .any base t v) : ∃ n, v = .int k n := by
  unfold Value.okWide Cell.okWide Cell.ok at h
  rw [hu] at h
  cases v <;> first
    | (rename_i k' n; simp only at h; exact ⟨n, by rw [h.1]⟩)
    | (simp only at h)
theorem room_true {a b : List PV} {c : PV} (ha : RowV rawT a) (hb : RowV gridT b) (hc : CellV (.i .u8) c) : FnEq Try.prog 6 [.agg a, .agg b, c] (.bool true) := by
  obtain ⟨x, hx, rfl⟩ := rawP_of ha
  obtain ⟨y, hy, rfl⟩ := rawG_of hb
  obtain ⟨n, rfl, hn⟩ := cellV_u8 hc
  refine FnOK.sub (room_ok x hx y hy n hn) ⟨Sub.aggL ?_, Sub.aggL ?_, .refl _, trivial⟩
  · exact ⟨.refl _, .refl _, .slp _ _ _ _ (fun h => by cases h), trivial⟩
  · exact ⟨.refl _, .refl _, .refl _, .refl _, .slp _ _ _ _ (fun h => by cases h), trivial⟩
theorem Try.own : ownKnob Try.prog.godebug = none := by kernel_rfl
theorem Try.laidOut : laidOutB Try.prog = true := by kernel_rfl
theorem boolU : Try.prog.underlying 4 = some .bool := by kernel_rfl
theorem paramsRoom : Try.f6.params = #[24, 27, 5] := by kernel_rfl

set_option maxRecDepth 100000 in
theorem room_lifted (os : Os) (started : os.Started) (H : Type) (enc : TypeId × Value → H) :
    ReturnsInHanded {} Try.checked os 6 .any (Rows.placementRoomSpec.pre6 enc Try.prog Try.f6 Rows.placementRoomRow.domain false) (Rows.placementRoomSpec.post enc Try.prog Try.f6 false true false false) := by
  refine returnsInHanded_of_change (C := Try.checked) Try.own started (by kernel_rfl) Try.func6
    (ChangeSpec.witness6 (enc := enc) (C := Try.checked) false ⟨#[], #[.agg #[.int .u8 0, .int .u8 0, .slice none 0 0], .agg #[.int .u8 0, .int .u8 0, .int .u8 0, .int .u8 0, .slice none 0 0], .int .u8 0], []⟩ 8 (by kernel_rfl) (by kernel_rfl) (by kernel_rfl) (by kernel_rfl)) ?_
  intro W base args ds gs before hval0 hW hcnd _
  have hval : ∀ (j : Nat) t v, Try.f6.params[j]? = some t → args[j]? = some v → Value.okWide Try.prog W .any base t v := hval0
  have hW' := hW
  obtain ⟨p, q, hA0, hV, rfl, hfz, hnd⟩ := hW
  have hA : DataW.TrodAll enc Try.prog W 0 (fun _ => true) true Try.f6.params.toList args.toList ds p := hA0
  rw [paramsRoom] at hA hval
  obtain ⟨v0, v1, v2, d0, d1, d2, p0, p1, p2, rfl, rfl, rfl, h0, h1, h2⟩ := trodAll_three hA
  obtain ⟨rfl, rfl⟩ := trodVars_none hV
  obtain ⟨a, ra, ta⟩ := argTy rawFlat (by kernel_rfl) (hval 0 _ v0 rfl rfl) h0
  obtain ⟨b, rb, tb⟩ := argTy gridFlat (by kernel_rfl) (hval 1 _ v1 rfl rfl) h1
  obtain ⟨n2, rfl⟩ := okInt u8U (hval 2 _ v2 rfl rfl)
  obtain ⟨c, rc, tc⟩ := argC u8Flat rfl h2
  have hlt : ∀ x ∈ p0 ++ p1 ++ p2, x.block < W.heap.size := fun x hx => hW'.lt x (by simpa using hx)
  refine (zw_call (room_true ra rb rc) rfl fun j cc hj => ?_).mono fun e W' ⟨he, hb⟩ => ?_
  · match j with
    | 0 => simp at hj; subst hj; exact ta
    | 1 => simp at hj; subst hj; exact tb
    | 2 => simp at hj; subst hj; exact tc
    | j + 3 => simp at hj
  · refine ⟨_, he, _, _, _, [], _, [], hW', ?_, trodAll_mk3 (Below.trod Try.laidOut (by kernel_rfl) (of_decide_eq_true (by kernel_rfl)) h0 hb fun x hx => hlt x (by simp [hx])) (Below.trod Try.laidOut (by kernel_rfl) (of_decide_eq_true (by kernel_rfl)) h1 hb fun x hx => hlt x (by simp [hx]))
        (Below.trod Try.laidOut (by kernel_rfl) (of_decide_eq_true (by kernel_rfl)) h2 hb fun x hx => hlt x (by simp [hx])), rfl, hb.frame _, fun h => by cases h⟩
    exact trodAll_mk1 (shut_bool boolU true)
theorem room_holds : Rows.PlacementRoomSaid :=
  OpenClaim.holds_of_wide 6 Try.f6 rfl rfl rfl rfl rfl rfl rfl ⟨rfl, rfl, rfl, rfl, rfl⟩ rfl rfl rfl rfl rfl (by kernel_rfl) Try.func6 (by kernel_rfl)
    (of_decide_eq_true (by kernel_rfl)) (by unfold Func.isWrapper; first | (rw [if_pos (by decide +kernel)]; kernel_rfl) | (rw [if_neg (by decide +kernel)]; exact ⟨rfl, rfl⟩))
    (fun os started H enc _ => room_lifted os started H enc)
end Go.Proofs.Ytbdamnfkgdbidaa
