/- KK LL MM NN OO TxtE PP QQ RR TxtF: lemmas for PMatches -/
import Derived.Test.YtbdamnfkgdbidaaPart11
import Derived.Test.YtbdamnfkgdbidaaPart12
import Derived.Test.YtbdamnfkgdbidaaPart13
import Derived.Test.YtbdamnfkgdbidaaPart10
import Derived.Test.YtbdamnfkgdbidaaPart05
import Derived.Test.YtbdamnfkgdbidaaChecked
set_option linter.unusedSimpArgs false
set_option linter.unusedVariables false
namespace Go.Proofs.Ytbdamnfkgdbidaa
open Go Go.Vc Txt
def prC (p : Int × Int) : List PV := [.int p.1, .int p.2]
@[push_cast] theorem prC_eq (p : Int × Int) : prC p = [.int p.1, .int p.2] := rfl
def sinkB (j : Job) (a : List Int) (s : Int) : Nat → List (Int × Int)
  | 0 => []
  | k + 1 => sinkB j a s k ++ if s ∈ (j.p.blocks.getD k default).ins then [spotF j (a.getD k default)] else []
def sinkD (j : Job) (s : Int) : Nat → List (Int × Int)
  | 0 => []
  | o + 1 => sinkD j s o ++ if j.p.drive.getD o default = s then [(j.g.w, (o : Int) % j.g.h)] else []
def sinksF (j : Job) (a : List Int) (s : Int) : List (Int × Int) := sinkB j a s j.p.blocks.length ++ sinkD j s j.p.drive.length
def endsF (j : Job) (a : List Int) (s : Int) : List (Int × Int) := if (sinksF j a s).length = 0 then [] else sinksF j a s ++ [srcF j a s]
theorem sinkB_len (j : Job) (a : List Int) (s : Int) : ∀ k, (sinkB j a s k).length ≤ k
  | 0 => Nat.le_refl _
  | k + 1 => by have := sinkB_len j a s k; rw [sinkB, List.length_append]; split <;> simp <;> omega
theorem sinkD_len (j : Job) (s : Int) : ∀ k, (sinkD j s k).length ≤ k
  | 0 => Nat.le_refl _
  | k + 1 => by have := sinkD_len j s k; rw [sinkD, List.length_append]; split <;> simp <;> omega
set_option maxHeartbeats 1000000 in
theorem ends_r (j : Job) (hj : j.Ok) (a : List Int) (hp : IsPl j a) (s : Int) (hs : 0 ≤ s ∧ s < j.p.ins.length + 2 * j.p.blocks.length) :
    FnEq Try.prog 85 [.agg (jobC false j), .sl false 1 (ints a), .int s] (.sl true 2 (rows prC (endsF j a s))) := by
  refine FnEq.of_awp Try.func85 ok85 (by show 3 ≤ _; decide) (by simp only [push_cast, reduceIte, Nat.reduceEqDiff, Nat.reduceAdd, Nat.reduceSub, Nat.reduceMul, Nat.reduceBEq, Nat.reduceLT, Nat.reduceLeDiff, reduceCtorEq, Int.reduceToNat, Int.reduceNeg] <;> first | exact fun _ _ => trivial | simp) ?_
  simp only [ac85, rv85, push_cast, reduceIte, Nat.reduceEqDiff, Nat.reduceAdd, Nat.reduceSub, Nat.reduceMul, Nat.reduceBEq, Nat.reduceLT, Nat.reduceLeDiff, reduceCtorEq, Int.reduceToNat, Int.reduceNeg]
  have h1 := hj.ins
  have h2 := hj.nb
  have h3 := hj.wh
  have hw := hj.w
  have hh := hj.h
  have hal := hp.1
  have hnd := hj.nd
  refine loop_of (fun m st => ∃ (k : Nat) (l : List (Int × Int)), k ≤ j.p.blocks.length ∧ m = j.p.blocks.length - k ∧ l = sinkB j a s k ∧
    st = ⟨[(1, .sl false 1 (ints a)), (2, .int s), (3, .ptr 3 0), (7, .int j.p.ins.length), (8, .view 16 0 l.length), (9, .int k)], [(3, jobC false j)], [(16, ⟨2, 63, rows prC l⟩)], []⟩) j.p.blocks.length ?_ ?_
  · refine ⟨0, [], by omega, by omega, rfl, ?_⟩
    simp only [push_cast, reduceIte, Nat.reduceEqDiff, Nat.reduceAdd, Nat.reduceSub, Nat.reduceMul, Nat.reduceBEq, Nat.reduceLT, Nat.reduceLeDiff, reduceCtorEq, Int.reduceToNat, Int.reduceNeg]
    rfl
  · rintro m st ⟨k, l, hk, rfl, hl, rfl⟩
    simp only [push_cast, reduceIte, Nat.reduceEqDiff, Nat.reduceAdd, Nat.reduceSub, Nat.reduceMul, Nat.reduceBEq, Nat.reduceLT, Nat.reduceLeDiff, reduceCtorEq, Int.reduceToNat, Int.reduceNeg]
    have hll := sinkB_len j a s k
    rw [← hl] at hll
    refine cond_dec (fun h => ?_) fun h => ?_
    · have hk' : k < j.p.blocks.length := by omega
      have hbm : j.p.blocks.getD k default ∈ j.p.blocks := by simp [List.getD_eq_getElem?_getD, hk']
      have hbn := hj.nin _ hbm
      obtain ⟨q1, q2, q3⟩ := isPl_get hp hk'
      refine ⟨by omega, hk', ?_⟩
      refine cal_sub (in_ok (j.p.blocks.getD k default).ins s (by omega)) (by simp only [push_cast, reduceIte, Nat.reduceEqDiff, Nat.reduceAdd, Nat.reduceSub, Nat.reduceMul, Nat.reduceBEq, Nat.reduceLT, Nat.reduceLeDiff, reduceCtorEq, Int.reduceToNat, Int.reduceNeg]) ?_
      simp only [push_cast, reduceIte, Nat.reduceEqDiff, Nat.reduceAdd, Nat.reduceSub, Nat.reduceMul, Nat.reduceBEq, Nat.reduceLT, Nat.reduceLeDiff, reduceCtorEq, Int.reduceToNat, Int.reduceNeg]
      refine cond_dec (fun h4 => ?_) fun h4 => ?_
      · refine ⟨by omega, by omega, ⟨q2, by omega, hw.1⟩, by omega, by omega, ⟨q2, by omega, hw.1⟩, by omega, by omega, _, ?_, k + 1, l ++ [spotF j (a.getD k default)], by omega, rfl, ?_, ?_⟩
        · omega
        · rw [sinkB, if_pos h4, ← hl]
        · simp [rows, prC, spotF]
      · refine ⟨by omega, _, ?_, k + 1, l, by omega, rfl, ?_, ?_⟩
        · omega
        · rw [sinkB, if_neg h4, ← hl, List.append_nil]
        · simp
    · have hkk : k = j.p.blocks.length := by omega
      subst hkk
      refine loop_of (fun m st => ∃ (o : Nat) (l : List (Int × Int)), o ≤ j.p.drive.length ∧ m = j.p.drive.length - o ∧ l = sinkB j a s j.p.blocks.length ++ sinkD j s o ∧
        st = ⟨[(1, .sl false 1 (ints a)), (2, .int s), (3, .ptr 3 0), (7, .int j.p.ins.length), (8, .view 16 0 l.length), (10, .int o)], [(3, jobC false j)], [(16, ⟨2, 63, rows prC l⟩)], []⟩) j.p.drive.length ?_ ?_
      · refine ⟨0, l, by omega, by omega, by rw [sinkD, List.append_nil]; exact hl, ?_⟩
        simp only [push_cast, reduceIte, Nat.reduceEqDiff, Nat.reduceAdd, Nat.reduceSub, Nat.reduceMul, Nat.reduceBEq, Nat.reduceLT, Nat.reduceLeDiff, reduceCtorEq, Int.reduceToNat, Int.reduceNeg]
      · rintro m st ⟨o, l, ho, rfl, hl, rfl⟩
        simp only [push_cast, reduceIte, Nat.reduceEqDiff, Nat.reduceAdd, Nat.reduceSub, Nat.reduceMul, Nat.reduceBEq, Nat.reduceLT, Nat.reduceLeDiff, reduceCtorEq, Int.reduceToNat, Int.reduceNeg]
        have hll2 : l.length ≤ j.p.blocks.length + o := by
          have e1 := sinkB_len j a s j.p.blocks.length
          have e2 := sinkD_len j s o
          rw [hl, List.length_append]; omega
        refine cond_dec (fun h => ?_) fun h => ?_
        · have ho' : o < j.p.drive.length := by omega
          refine ⟨by omega, ho', ?_⟩
          refine cond_dec (fun h4 => ?_) fun h4 => ?_
          · refine ⟨⟨by omega, by omega, hh.1⟩, by omega, by omega, _, ?_, o + 1, l ++ [(j.g.w, (o : Int) % j.g.h)], by omega, rfl, ?_, ?_⟩
            · omega
            · rw [sinkD, if_pos h4, ← List.append_assoc, ← hl]
            · simp [rows, prC]
          · refine ⟨by omega, _, ?_, o + 1, l, by omega, rfl, ?_, ?_⟩
            · omega
            · rw [sinkD, if_neg h4, List.append_nil]; exact hl
            · simp
        · have hoo : o = j.p.drive.length := by omega
          subst hoo
          have hl : l = sinksF j a s := hl
          have he : endsF j a s = if l.length = 0 then [] else l ++ [srcF j a s] := by rw [endsF, hl]
          rw [he]
          clear he hl
          refine cond_dec (fun h4 => ?_) fun h4 => ?_
          · rw [if_pos (by omega), List.eq_nil_of_length_eq_zero (show l.length = 0 by omega)]
            exact ⟨fun _ _ => by trivial, .refl _⟩
          · rw [if_neg (by omega)]
            have hsn : ∀ x y : Int, List.take (l.length + 1) (rows prC l ++ [[.sc (.int .i64 x), .sc (.int .i64 y)]]) = rows prC (l ++ [(x, y)]) := fun x y => by
              rw [List.take_of_length_le (by simp [rows])]
              simp [rows, prC]
            have hpm : ∀ L : List (Int × Int), ∀ x ∈ rows prC L, ∀ c ∈ x, Perm c := fun L x hx c hc => by
              obtain ⟨p, _, rfl⟩ := List.mem_map.1 hx
              rcases List.mem_cons.1 hc with rfl | hc
              · simp only [push_cast, reduceIte, Nat.reduceEqDiff, Nat.reduceAdd, Nat.reduceSub, Nat.reduceMul, Nat.reduceBEq, Nat.reduceLT, Nat.reduceLeDiff, reduceCtorEq, Int.reduceToNat, Int.reduceNeg]
              · rw [List.mem_singleton.1 hc]; simp only [push_cast, reduceIte, Nat.reduceEqDiff, Nat.reduceAdd, Nat.reduceSub, Nat.reduceMul, Nat.reduceBEq, Nat.reduceLT, Nat.reduceLeDiff, reduceCtorEq, Int.reduceToNat, Int.reduceNeg]
            refine cond_dec (fun h5 => ?_) fun h5 => ?_
            · rw [hsn, show srcF j a s = (-1, s % j.g.h) from by rw [srcF, if_neg (by omega)]]
              exact ⟨⟨by omega, by omega, hh.1⟩, by omega, hpm _, .refl _⟩
            · have hk : ((s - j.p.ins.length) / 2).toNat < j.p.blocks.length := by omega
              obtain ⟨k1, k2, k3⟩ := isPl_get hp hk
              rw [hsn, show srcF j a s = ((a.getD ((s - j.p.ins.length) / 2).toNat default) % j.g.w, (a.getD ((s - j.p.ins.length) / 2).toNat default) / j.g.w) from by rw [srcF, if_pos (by omega)]; rfl]
              exact ⟨by omega, ⟨by omega, by omega, by omega⟩, by omega, k1, ⟨k2, by omega, hw.1⟩, by omega, k1, ⟨k2, by omega, hw.1⟩, by omega, hpm _, .refl _⟩
end Go.Proofs.Ytbdamnfkgdbidaa
namespace Go.Proofs.Ytbdamnfkgdbidaa
open Go Go.Vc Txt
def mnP (p q : Int × Int) : Int × Int := (min p.1 q.1, min p.2 q.2)
def mxP (p q : Int × Int) : Int × Int := (max p.1 q.1, max p.2 q.2)
def loF (l : List (Int × Int)) (i : Nat) : Int × Int := (l.take i).foldl mnP (l.getD 0 default)
def hiF (l : List (Int × Int)) (i : Nat) : Int × Int := (l.take i).foldl mxP (l.getD 0 default)
def lengthF (l : List (Int × Int)) : Int := if l.length = 0 then 0 else (hiF l l.length).1 - (loF l l.length).1 + (hiF l l.length).2 - (loF l l.length).2
theorem loF_succ {l : List (Int × Int)} {i : Nat} (hi : i < l.length) : loF l (i + 1) = mnP (loF l i) (l.getD i default) := by
  unfold loF
  rw [List.take_succ_eq_append_getElem hi, List.foldl_append]
  simp [hi]
theorem hiF_succ {l : List (Int × Int)} {i : Nat} (hi : i < l.length) : hiF l (i + 1) = mxP (hiF l i) (l.getD i default) := by
  unfold hiF
  rw [List.take_succ_eq_append_getElem hi, List.foldl_append]
  simp [hi]
def NrP (p : Int × Int) : Prop := (-1 ≤ p.1 ∧ p.1 ≤ 1000000) ∧ (-1 ≤ p.2 ∧ p.2 ≤ 1000000)
theorem loF_nr {l : List (Int × Int)} (h : ∀ p ∈ l, NrP p) (h0 : 0 < l.length) : ∀ i, i ≤ l.length → NrP (loF l i) ∧ NrP (hiF l i)
  | 0, _ => by
    have : NrP (l.getD 0 default) := h _ (by simp [List.getD_eq_getElem?_getD, h0])
    exact ⟨this, this⟩
  | i + 1, hi => by
    obtain ⟨⟨a1, a2⟩, b1, b2⟩ := loF_nr h h0 i (by omega)
    obtain ⟨c1, c2⟩ : NrP (l.getD i default) := h _ (by simp [List.getD_eq_getElem?_getD, show i < l.length by omega])
    rw [loF_succ (by omega), hiF_succ (by omega)]
    unfold NrP mnP mxP
    simp only
    omega
theorem sinkB_nr {j : Job} (hj : j.Ok) {a : List Int} (hp : IsPl j a) (s : Int) : ∀ k, k ≤ j.p.blocks.length → ∀ p ∈ sinkB j a s k, GdP j p
  | 0, _, p, h => by cases h
  | k + 1, hk, p, h => by
    rcases List.mem_append.1 h with h | h
    · exact sinkB_nr hj hp s k (by omega) p h
    · split at h
      · rw [List.mem_singleton.1 h]; exact spotF_gd hj (isPl_get hp (by omega)).2
      · cases h
theorem sinkD_nr {j : Job} (hj : j.Ok) (s : Int) : ∀ k, ∀ p ∈ sinkD j s k, GdP j p
  | 0, p, h => by cases h
  | k + 1, p, h => by
    rcases List.mem_append.1 h with h | h
    · exact sinkD_nr hj s k p h
    · split at h
      · rw [List.mem_singleton.1 h]
        have hw := hj.w
        have hh := hj.h
        exact ⟨by show -1 ≤ j.g.w; omega, Int.le_refl _, Int.emod_nonneg _ (by omega), Int.emod_lt_of_pos _ hh.1⟩
      · cases h
theorem endsF_gd {j : Job} (hj : j.Ok) {a : List Int} (hp : IsPl j a) {s : Int} (hs : 0 ≤ s ∧ s < j.p.ins.length + 2 * j.p.blocks.length) : ∀ p ∈ endsF j a s, GdP j p := by
  intro p h
  unfold endsF at h
  split at h
  · cases h
  · rcases List.mem_append.1 h with h | h
    · rcases List.mem_append.1 h with h | h
      · exact sinkB_nr hj hp s _ (Nat.le_refl _) p h
      · exact sinkD_nr hj s _ p h
    · rw [List.mem_singleton.1 h]; exact srcF_gd hj hp hs
theorem endsF_nr {j : Job} (hj : j.Ok) {a : List Int} (hp : IsPl j a) {s : Int} (hs : 0 ≤ s ∧ s < j.p.ins.length + 2 * j.p.blocks.length) : ∀ p ∈ endsF j a s, NrP p := by
  intro p h
  obtain ⟨h1, h2, h3, h4⟩ := endsF_gd hj hp hs p h
  have hw := hj.w
  have hh := hj.h
  exact ⟨⟨h1, by omega⟩, by omega, by omega⟩
theorem endsF_len (j : Job) (a : List Int) (s : Int) : (endsF j a s).length ≤ j.p.blocks.length + j.p.drive.length + 1 := by
  have e1 := sinkB_len j a s j.p.blocks.length
  have e2 := sinkD_len j s j.p.drive.length
  unfold endsF
  split
  · simp
  · rw [List.length_append, sinksF, List.length_append]; simp; omega
set_option maxHeartbeats 1000000 in
theorem length_r (j : Job) (hj : j.Ok) (a : List Int) (hp : IsPl j a) (s : Int) (hs : 0 ≤ s ∧ s < j.p.ins.length + 2 * j.p.blocks.length) :
    FnEq Try.prog 70 [.agg (jobC false j), .sl false 1 (ints a), .int s] (.int (lengthF (endsF j a s))) := by
  refine FnEq.of_awp Try.func70 ok70 (by show 3 ≤ _; decide) (by simp only [push_cast, reduceIte, Nat.reduceEqDiff, Nat.reduceAdd, Nat.reduceSub, Nat.reduceMul, Nat.reduceBEq, Nat.reduceLT, Nat.reduceLeDiff, reduceCtorEq, Int.reduceToNat, Int.reduceNeg] <;> first | exact fun _ _ => trivial | simp) ?_
  simp only [ac70, rv70, push_cast, reduceIte, Nat.reduceEqDiff, Nat.reduceAdd, Nat.reduceSub, Nat.reduceMul, Nat.reduceBEq, Nat.reduceLT, Nat.reduceLeDiff, reduceCtorEq, Int.reduceToNat, Int.reduceNeg]
  refine cal_sub (ends_r j hj a hp s hs) (by simp only [push_cast, reduceIte, Nat.reduceEqDiff, Nat.reduceAdd, Nat.reduceSub, Nat.reduceMul, Nat.reduceBEq, Nat.reduceLT, Nat.reduceLeDiff, reduceCtorEq, Int.reduceToNat, Int.reduceNeg]) ?_
  have hnr := endsF_nr hj hp hs
  have hlen := endsF_len j a s
  have hnb := hj.nb
  have hnd := hj.nd
  generalize endsF j a s = l at hnr hlen ⊢
  simp only [push_cast, reduceIte, Nat.reduceEqDiff, Nat.reduceAdd, Nat.reduceSub, Nat.reduceMul, Nat.reduceBEq, Nat.reduceLT, Nat.reduceLeDiff, reduceCtorEq, Int.reduceToNat, Int.reduceNeg]
  refine cond_dec (fun h => ?_) fun h => ?_
  · rw [lengthF, if_pos (by omega)]
  have h0 : 0 < l.length := by omega
  refine ⟨by omega, h0, by omega, h0, ?_⟩
  refine loop_of (fun m st => ∃ i : Nat, i ≤ l.length ∧ m = l.length - i ∧
    st = ⟨[(7, .sl true 2 (rows prC l)), (8, .ptr 8 0), (9, .ptr 9 0), (10, .int i)], [(8, prC (loF l i)), (9, prC (hiF l i))], [], []⟩) l.length ?_ ?_
  · refine ⟨0, by omega, by omega, ?_⟩
    simp only [push_cast, reduceIte, Nat.reduceEqDiff, Nat.reduceAdd, Nat.reduceSub, Nat.reduceMul, Nat.reduceBEq, Nat.reduceLT, Nat.reduceLeDiff, reduceCtorEq, Int.reduceToNat, Int.reduceNeg]
    rfl
  · rintro m st ⟨i, hi, rfl, rfl⟩
    simp only [push_cast, reduceIte, Nat.reduceEqDiff, Nat.reduceAdd, Nat.reduceSub, Nat.reduceMul, Nat.reduceBEq, Nat.reduceLT, Nat.reduceLeDiff, reduceCtorEq, Int.reduceToNat, Int.reduceNeg]
    obtain ⟨⟨a1, a2⟩, b1, b2⟩ := loF_nr hnr h0 i hi
    refine cond_dec (fun h1 => ?_) fun h1 => ?_
    · have hi' : i < l.length := by omega
      refine ⟨by omega, by omega, by omega, hi', by omega, by omega, by omega, hi', by omega, by omega, by omega, hi', by omega, by omega, by omega, hi', by omega, _, ?_, i + 1, by omega, rfl, ?_⟩
      · omega
      · rw [loF_succ hi', hiF_succ hi']
        simp [mnP, mxP]
    · have hii : i = l.length := by omega
      subst hii
      refine ⟨by omega, by omega, by omega, by omega, by omega, by omega, by omega, ?_⟩
      rw [lengthF, if_neg (by omega)]
def costRN (j : Job) (a : List Int) : Nat → Int
  | 0 => 0
  | s + 1 => costRN j a s + lengthF (endsF j a s)
def costR (j : Job) (a : List Int) : Int := costRN j a (j.p.ins.length + 2 * j.p.blocks.length)
theorem lengthF_bd {j : Job} (hj : j.Ok) {a : List Int} (hp : IsPl j a) {s : Int} (hs : 0 ≤ s ∧ s < j.p.ins.length + 2 * j.p.blocks.length) : -4000004 ≤ lengthF (endsF j a s) ∧ lengthF (endsF j a s) ≤ 4000004 := by
  unfold lengthF
  split
  · omega
  · obtain ⟨⟨a1, a2⟩, b1, b2⟩ := loF_nr (endsF_nr hj hp hs) (by omega) _ (Nat.le_refl _)
    omega
theorem costRN_bd {j : Job} (hj : j.Ok) {a : List Int} (hp : IsPl j a) : ∀ n : Nat, (n : Int) ≤ j.p.ins.length + 2 * j.p.blocks.length → -4000004 * (n : Int) ≤ costRN j a n ∧ costRN j a n ≤ 4000004 * (n : Int)
  | 0, _ => by simp [costRN]
  | n + 1, hn => by
    have h1 := costRN_bd hj hp n (by omega)
    have h2 := lengthF_bd hj hp (s := (n : Int)) ⟨by omega, by omega⟩
    rw [costRN]
    omega
theorem cost_r (j : Job) (hj : j.Ok) (a : List Int) (hp : IsPl j a) : FnEq Try.prog 42 [.agg (jobC false j), .sl false 1 (ints a)] (.int (costR j a)) := by
  refine FnEq.of_awp Try.func42 ok42 (by show 2 ≤ _; decide) (by simp only [push_cast, reduceIte, Nat.reduceEqDiff, Nat.reduceAdd, Nat.reduceSub, Nat.reduceMul, Nat.reduceBEq, Nat.reduceLT, Nat.reduceLeDiff, reduceCtorEq, Int.reduceToNat, Int.reduceNeg] <;> first | exact fun _ _ => trivial | simp) ?_
  simp only [ac42, rv42, push_cast, reduceIte, Nat.reduceEqDiff, Nat.reduceAdd, Nat.reduceSub, Nat.reduceMul, Nat.reduceBEq, Nat.reduceLT, Nat.reduceLeDiff, reduceCtorEq, Int.reduceToNat, Int.reduceNeg]
  have h1 := hj.ins
  have h2 := hj.nb
  refine loop_of (fun m st => ∃ s : Nat, s ≤ j.p.ins.length + 2 * j.p.blocks.length ∧ m = j.p.ins.length + 2 * j.p.blocks.length - s ∧
    st = ⟨[(1, .sl false 1 (ints a)), (2, .ptr 2 0), (5, .int (costRN j a s)), (6, .int s)], [(2, jobC false j)], [], []⟩) (j.p.ins.length + 2 * j.p.blocks.length) ?_ ?_
  · refine ⟨0, by omega, by omega, ?_⟩
    simp only [push_cast, reduceIte, Nat.reduceEqDiff, Nat.reduceAdd, Nat.reduceSub, Nat.reduceMul, Nat.reduceBEq, Nat.reduceLT, Nat.reduceLeDiff, reduceCtorEq, Int.reduceToNat, Int.reduceNeg]
    rfl
  · rintro m st ⟨s, hs, rfl, rfl⟩
    simp only [push_cast, reduceIte, Nat.reduceEqDiff, Nat.reduceAdd, Nat.reduceSub, Nat.reduceMul, Nat.reduceBEq, Nat.reduceLT, Nat.reduceLeDiff, reduceCtorEq, Int.reduceToNat, Int.reduceNeg]
    refine cal_sub (signals_ok j.p (by omega) (by omega)) (by simp only [push_cast, reduceIte, Nat.reduceEqDiff, Nat.reduceAdd, Nat.reduceSub, Nat.reduceMul, Nat.reduceBEq, Nat.reduceLT, Nat.reduceLeDiff, reduceCtorEq, Int.reduceToNat, Int.reduceNeg]) ?_
    simp only [push_cast, reduceIte, Nat.reduceEqDiff, Nat.reduceAdd, Nat.reduceSub, Nat.reduceMul, Nat.reduceBEq, Nat.reduceLT, Nat.reduceLeDiff, reduceCtorEq, Int.reduceToNat, Int.reduceNeg]
    have hc := costRN_bd hj hp s (by omega)
    refine cond_dec (fun h => ?_) fun h => ?_
    · have hs' : 0 ≤ (s : Int) ∧ (s : Int) < j.p.ins.length + 2 * j.p.blocks.length := ⟨by omega, by omega⟩
      have hl := lengthF_bd hj hp hs'
      refine cal_sub (length_r j hj a hp s hs') (by simp only [push_cast, reduceIte, Nat.reduceEqDiff, Nat.reduceAdd, Nat.reduceSub, Nat.reduceMul, Nat.reduceBEq, Nat.reduceLT, Nat.reduceLeDiff, reduceCtorEq, Int.reduceToNat, Int.reduceNeg]) ?_
      simp only [push_cast, reduceIte, Nat.reduceEqDiff, Nat.reduceAdd, Nat.reduceSub, Nat.reduceMul, Nat.reduceBEq, Nat.reduceLT, Nat.reduceLeDiff, reduceCtorEq, Int.reduceToNat, Int.reduceNeg]
      refine ⟨by omega, by omega, _, ?_, s + 1, by omega, rfl, ?_⟩
      · omega
      · rw [costRN]; simp
    · rw [costR, show j.p.ins.length + 2 * j.p.blocks.length = s by omega]
end Go.Proofs.Ytbdamnfkgdbidaa
namespace Go.Proofs.Ytbdamnfkgdbidaa
open Go Go.Vc
theorem eget_eput (M : EM) (s : Int) (e : Ext) (t : Int) : eget (eput M s e) t = if s = t then some e else eget M t := by
  induction M with
  | nil => simp only [eput, eget]
  | cons x r ih =>
    obtain ⟨k, v⟩ := x
    simp only [eput]
    by_cases h : k = s
    · subst h
      simp only [if_true, eget]
      split <;> rfl
    · rw [if_neg h]
      simp only [eget, ih]
      by_cases h2 : k = t
      · rw [if_pos h2, if_pos h2, if_neg (fun e => h (h2.trans e.symm))]
      · rw [if_neg h2, if_neg h2]
structure BB (e : Ext) (P : Int × Int → Prop) : Prop where
  all : ∀ p, P p → e.x0 ≤ p.1 ∧ p.1 ≤ e.x1 ∧ e.y0 ≤ p.2 ∧ p.2 ≤ e.y1
  x0 : ∃ p, P p ∧ p.1 = e.x0
  x1 : ∃ p, P p ∧ p.1 = e.x1
  y0 : ∃ p, P p ∧ p.2 = e.y0
  y1 : ∃ p, P p ∧ p.2 = e.y1
theorem BB.len {e f : Ext} {P Q : Int × Int → Prop} (h : BB e P) (g : BB f Q) (hPQ : ∀ p, P p ↔ Q p) : extLen e = extLen f := by
  obtain ⟨ha, ⟨a, a1, a2⟩, ⟨b, b1, b2⟩, ⟨c, c1, c2⟩, d, d1, d2⟩ := h
  obtain ⟨ga, ⟨a', a1', a2'⟩, ⟨b', b1', b2'⟩, ⟨c', c1', c2'⟩, d', d1', d2'⟩ := g
  have e1 := ga a ((hPQ a).1 a1)
  have e2 := ga b ((hPQ b).1 b1)
  have e3 := ga c ((hPQ c).1 c1)
  have e4 := ga d ((hPQ d).1 d1)
  have f1 := ha a' ((hPQ a').2 a1')
  have f2 := ha b' ((hPQ b').2 b1')
  have f3 := ha c' ((hPQ c').2 c1')
  have f4 := ha d' ((hPQ d').2 d1')
  have g1 : extLen e = e.x1 - e.x0 + e.y1 - e.y0 := rfl
  have g2 : extLen f = f.x1 - f.x0 + f.y1 - f.y0 := rfl
  omega
theorem min_or (a b : Int) : min a b = a ∧ a ≤ b ∨ min a b = b ∧ b ≤ a := by omega
theorem BB.ext {e : Ext} {P : Int × Int → Prop} (h : BB e P) (q : Int × Int) : BB (extF e q) fun p => P p ∨ p = q := by
  obtain ⟨ha, ⟨a, a1, a2⟩, ⟨b, b1, b2⟩, ⟨c, c1, c2⟩, d, d1, d2⟩ := h
  unfold extF
  refine ⟨fun p hp => ?_, ?_, ?_, ?_, ?_⟩
  · rcases hp with hp | rfl
    · have := ha p hp
      simp only; omega
    · simp only; omega
  · by_cases h : e.x0 ≤ q.1
    · exact ⟨a, .inl a1, by simp only; omega⟩
    · exact ⟨q, .inr rfl, by simp only; omega⟩
  · by_cases h : q.1 ≤ e.x1
    · exact ⟨b, .inl b1, by simp only; omega⟩
    · exact ⟨q, .inr rfl, by simp only; omega⟩
  · by_cases h : e.y0 ≤ q.2
    · exact ⟨c, .inl c1, by simp only; omega⟩
    · exact ⟨q, .inr rfl, by simp only; omega⟩
  · by_cases h : q.2 ≤ e.y1
    · exact ⟨d, .inl d1, by simp only; omega⟩
    · exact ⟨q, .inr rfl, by simp only; omega⟩
theorem BB.iff {e : Ext} {P Q : Int × Int → Prop} (h : BB e P) (hPQ : ∀ p, P p ↔ Q p) : BB e Q := by
  have : P = Q := funext fun p => propext (hPQ p)
  rw [← this]; exact h
theorem BB.one (q : Int × Int) : BB ⟨q.1, q.2, q.1, q.2⟩ fun p => p = q :=
  ⟨fun p h => by subst h; simp, ⟨q, rfl, rfl⟩, ⟨q, rfl, rfl⟩, ⟨q, rfl, rfl⟩, q, rfl, rfl⟩
theorem fold_bb (j : Job) (a : List Int) (s : Int) : ∀ (L : List (Int × Int × Int)) (M : EM) (P : Int × Int → Prop), ((eget M s = none ∧ ∀ p, ¬ P p) ∨ ∃ e, eget M s = some e ∧ (∃ p, P p) ∧ BB e fun p => p = srcF j a s ∨ P p) →
    let P' := fun p => P p ∨ (s, p) ∈ L
    (eget (L.foldl (stepF j a) M) s = none ∧ ∀ p, ¬ P' p) ∨ ∃ e, eget (L.foldl (stepF j a) M) s = some e ∧ (∃ p, P' p) ∧ BB e fun p => p = srcF j a s ∨ P' p
  | [], M, P, h => by
    refine h.imp (fun ⟨h1, h2⟩ => ⟨h1, fun p hp => ?_⟩) fun ⟨e, h1, ⟨q, h2⟩, h3⟩ => ⟨e, h1, ⟨q, .inl h2⟩, h3.iff fun p => ?_⟩
    · rcases hp with hp | hp
      · exact h2 p hp
      · cases hp
    · simp
  | c :: L, M, P, h => by
    have step : ((eget (stepF j a M c) s = none ∧ ∀ p, ¬ (P p ∨ (s, p) = c)) ∨ ∃ e, eget (stepF j a M c) s = some e ∧ (∃ p, P p ∨ (s, p) = c) ∧ BB e fun p => p = srcF j a s ∨ (P p ∨ (s, p) = c)) := by
      unfold stepF
      simp only [eget_eput]
      by_cases hc : c.1 = s
      · rw [if_pos hc]
        have hcp : ∀ p, (s, p) = c ↔ p = c.2 := fun p => ⟨fun e => by rw [← e], fun e => by subst e; exact Prod.ext hc.symm rfl⟩
        refine .inr ⟨_, rfl, ⟨c.2, .inr ((hcp _).2 rfl)⟩, ?_⟩
        have hb : BB ((eget M c.1).getD ⟨(srcF j a c.1).1, (srcF j a c.1).2, (srcF j a c.1).1, (srcF j a c.1).2⟩) fun p => p = srcF j a s ∨ P p := by
          rw [hc]
          rcases h with ⟨h1, h2⟩ | ⟨e, h1, _, h3⟩
          · rw [h1]
            exact (BB.one (srcF j a s)).iff fun p => ⟨fun e => .inl e, fun e => e.resolve_right (h2 p)⟩
          · rw [h1]
            exact h3
        refine (hb.ext c.2).iff fun p => ?_
        rw [hcp]
        exact or_assoc
      · rw [if_neg hc]
        have hcp : ∀ p, ¬ (s, p) = c := fun p e => hc (by rw [← e])
        refine h.imp (fun ⟨h1, h2⟩ => ⟨h1, fun p hp => hp.elim (h2 p) (hcp p)⟩) fun ⟨e, h1, ⟨q, h2⟩, h3⟩ => ⟨e, h1, ⟨q, .inl h2⟩, h3.iff fun p => ?_⟩
        simp [hcp]
    have ih := fold_bb j a s L (stepF j a M c) (fun p => P p ∨ (s, p) = c) step
    have e : ∀ p, ((P p ∨ (s, p) = c) ∨ (s, p) ∈ L) ↔ (P p ∨ (s, p) ∈ c :: L) := fun p => by rw [List.mem_cons, or_assoc]
    refine ih.imp (fun ⟨h1, h2⟩ => ⟨h1, fun p hp => h2 p ((e p).2 hp)⟩) fun ⟨x, h1, ⟨q, h2⟩, h3⟩ => ⟨x, h1, ⟨q, (e q).1 h2⟩, h3.iff fun p => or_congr_right (e p)⟩
theorem eput_keys (M : EM) (s : Int) (e : Ext) : (eput M s e).map (·.1) = M.map (·.1) ∨ (s ∉ M.map (·.1) ∧ (eput M s e).map (·.1) = M.map (·.1) ++ [s]) := by
  induction M with
  | nil => exact .inr ⟨by simp, rfl⟩
  | cons x r ih =>
    obtain ⟨k, v⟩ := x
    simp only [eput]
    split
    · exact .inl rfl
    · rename_i h
      rcases ih with ih | ⟨h1, ih⟩
      · exact .inl (by simp only [List.map_cons, ih])
      · exact .inr ⟨by simp only [List.map_cons, List.mem_cons, not_or]; exact ⟨fun e => h e.symm, h1⟩, by simp only [List.map_cons, ih, List.cons_append]⟩
theorem fold_keys (j : Job) (a : List Int) {n : Int} : ∀ (L : List (Int × Int × Int)) (M : EM), (M.map (·.1)).Nodup → (∀ x ∈ M, 0 ≤ x.1 ∧ x.1 < n) → (∀ c ∈ L, 0 ≤ c.1 ∧ c.1 < n) →
    ((L.foldl (stepF j a) M).map (·.1)).Nodup ∧ ∀ x ∈ L.foldl (stepF j a) M, 0 ≤ x.1 ∧ x.1 < n
  | [], M, h1, h2, _ => ⟨h1, h2⟩
  | c :: L, M, h1, h2, h3 => by
    have hk : ((stepF j a M c).map (·.1)).Nodup ∧ ∀ x ∈ (stepF j a M c).map (·.1), 0 ≤ x ∧ x < n := by
      have h2' : ∀ x ∈ M.map (·.1), 0 ≤ x ∧ x < n := fun x hx => by obtain ⟨y, hy, rfl⟩ := List.mem_map.1 hx; exact h2 y hy
      unfold stepF
      simp only
      rcases eput_keys M c.1 (extF ((eget M c.1).getD ⟨(srcF j a c.1).1, (srcF j a c.1).2, (srcF j a c.1).1, (srcF j a c.1).2⟩) c.2) with h | ⟨hn, h⟩
      · rw [h]; exact ⟨h1, h2'⟩
      · rw [h]
        refine ⟨List.nodup_append.2 ⟨h1, by simp, fun x hx y hy e => ?_⟩, fun x hx => ?_⟩
        · rw [List.mem_singleton.1 hy] at e; exact hn (e ▸ hx)
        · rcases List.mem_append.1 hx with hx | hx
          · exact h2' x hx
          · rw [List.mem_singleton.1 hx]; exact h3 c List.mem_cons_self
    exact fold_keys j a L _ hk.1 (fun x hx => hk.2 x.1 (List.mem_map.2 ⟨x, hx, rfl⟩)) fun d hd => h3 d (List.mem_cons_of_mem _ hd)
def sumF (f : Int → Int) : Nat → Int
  | 0 => 0
  | n + 1 => sumF f n + f n
theorem sumF_congr {f g : Int → Int} : ∀ n : Nat, (∀ k : Nat, k < n → f k = g k) → sumF f n = sumF g n
  | 0, _ => rfl
  | n + 1, h => by rw [sumF, sumF, sumF_congr n fun k hk => h k (by omega), h n (by omega)]
theorem sumF_upd {f : Int → Int} {s c : Int} (hf : f s = 0) : ∀ n : Nat, sumF (fun t => if s = t then c else f t) n = sumF f n + if 0 ≤ s ∧ s < n then c else 0
  | 0 => by rw [if_neg (by omega)]; rfl
  | n + 1 => by
    rw [sumF, sumF, sumF_upd hf n]
    by_cases h : s = n
    · subst h
      rw [if_pos rfl, if_neg (by omega), if_pos (by omega), hf]
    · rw [if_neg h]
      by_cases h2 : 0 ≤ s ∧ s < n
      · rw [if_pos h2, if_pos (by omega)]; omega
      · rw [if_neg h2, if_neg (by omega)]; omega
theorem sumF_zero : ∀ n : Nat, sumF (fun _ => 0) n = 0
  | 0 => rfl
  | n + 1 => by rw [sumF, sumF_zero n]; rfl
theorem eget_none {M : EM} {s : Int} (h : s ∉ M.map (·.1)) : eget M s = none := by
  induction M with
  | nil => rfl
  | cons x r ih =>
    obtain ⟨k, v⟩ := x
    simp only [List.map_cons, List.mem_cons, not_or] at h
    rw [eget, if_neg (fun e => h.1 e.symm), ih h.2]
theorem emLen_sum : ∀ (M : EM) (n : Nat), (M.map (·.1)).Nodup → (∀ x ∈ M, 0 ≤ x.1 ∧ x.1 < n) → emLen M = sumF (fun s => ((eget M s).map extLen).getD 0) n
  | [], n, _, _ => by
    show (0 : Int) = _
    rw [show (fun s => ((eget [] s).map extLen).getD 0) = fun _ => (0 : Int) from rfl, sumF_zero]
  | (k, v) :: r, n, h1, h2 => by
    simp only [List.map_cons, List.nodup_cons] at h1
    have ih := emLen_sum r n h1.2 fun x hx => h2 x (List.mem_cons_of_mem _ hx)
    have e : (fun s => ((eget ((k, v) :: r) s).map extLen).getD 0) = fun s => if k = s then extLen v else ((eget r s).map extLen).getD 0 := funext fun s => by
      simp only [eget]
      split <;> rfl
    rw [e, sumF_upd (by rw [eget_none h1.1]; rfl), if_pos (h2 _ List.mem_cons_self), ← ih]
    show extLen v + emLen r = _
    exact Int.add_comm _ _
theorem mem_sinkB {j : Job} {a : List Int} {s : Int} {p : Int × Int} : ∀ k, p ∈ sinkB j a s k ↔ (s, p) ∈ connsB j a k
  | 0 => by simp [sinkB, connsB]
  | k + 1 => by
    rw [sinkB, connsB_succ, List.mem_append, List.mem_append, mem_sinkB k]
    refine or_congr_right ?_
    unfold connB
    rw [List.mem_map]
    split
    · rename_i h
      rw [List.mem_singleton]
      exact ⟨fun e => ⟨s, h, by rw [e]⟩, fun ⟨t, _, e⟩ => (congrArg Prod.snd e).symm⟩
    · rename_i h
      exact ⟨fun e => (by cases e), fun ⟨t, ht, e⟩ => by
        have e1 : t = s := congrArg Prod.fst e
        subst e1
        exact absurd ht h⟩
theorem mem_sinkD {j : Job} {s : Int} {p : Int × Int} : ∀ k, p ∈ sinkD j s k ↔ (s, p) ∈ connsD j k
  | 0 => by simp [sinkD, connsD]
  | k + 1 => by
    rw [sinkD, connsD_succ, List.mem_append, List.mem_append, mem_sinkD k, List.mem_singleton]
    refine or_congr_right ?_
    unfold connD
    split
    · rename_i h
      rw [List.mem_singleton]
      exact ⟨fun e => by rw [e, h], fun e => congrArg Prod.snd e⟩
    · rename_i h
      exact ⟨fun e => (by cases e), fun e => absurd (congrArg Prod.fst e).symm h⟩
theorem mem_sinks {j : Job} {a : List Int} {s : Int} {p : Int × Int} : p ∈ sinksF j a s ↔ (s, p) ∈ conns j a := by
  unfold sinksF conns
  rw [List.mem_append, List.mem_append, mem_sinkB, mem_sinkD]
theorem lo_bb {l : List (Int × Int)} (h0 : 0 < l.length) : ∀ i, i ≤ l.length → BB ⟨(loF l i).1, (loF l i).2, (hiF l i).1, (hiF l i).2⟩ fun p => p = l.getD 0 default ∨ p ∈ l.take i
  | 0, _ => (BB.one (l.getD 0 default)).iff fun p => by simp
  | i + 1, hi => by
    have ih := lo_bb h0 i (by omega)
    rw [loF_succ (by omega), hiF_succ (by omega)]
    refine (ih.ext (l.getD i default)).iff fun p => ?_
    rw [List.take_succ_eq_append_getElem (show i < l.length by omega), List.mem_append, List.mem_singleton, or_assoc]
    simp [show i < l.length by omega]
theorem length_eq {j : Job} {a : List Int} {s : Int} : lengthF (endsF j a s) = ((eget (foldF j a (conns j a)) s).map extLen).getD 0 := by
  have h := fold_bb j a s (conns j a) [] (fun _ => False) (.inl ⟨rfl, fun _ h => h⟩)
  simp only [false_or] at h
  rw [show (conns j a).foldl (stepF j a) [] = foldF j a (conns j a) from rfl] at h
  rcases h with ⟨h1, h2⟩ | ⟨e, h1, ⟨q, h2⟩, h3⟩
  · have hs : sinksF j a s = [] := List.eq_nil_iff_forall_not_mem.2 fun p hp => h2 p (mem_sinks.1 hp)
    rw [h1, endsF, if_pos (by rw [hs]; rfl)]
    rfl
  · have hn : ¬ (sinksF j a s).length = 0 := fun h => by
      have := List.eq_nil_of_length_eq_zero h
      have hq := mem_sinks.2 h2
      rw [this] at hq
      cases hq
    rw [h1, endsF, if_neg hn]
    have hl : 0 < (sinksF j a s ++ [srcF j a s]).length := by simp
    rw [lengthF, if_neg (by omega)]
    have hb := lo_bb hl _ (Nat.le_refl _)
    refine (show _ = extLen ⟨_, _, _, _⟩ from rfl).trans (hb.len h3 fun p => ?_)
    rw [List.take_length, ← mem_sinks, List.mem_append, List.mem_singleton]
    constructor
    · rintro (rfl | h | h)
      · have : (sinksF j a s ++ [srcF j a s]).getD 0 default ∈ sinksF j a s ++ [srcF j a s] := by
          rw [List.getD_eq_getElem?_getD, List.getElem?_eq_getElem hl]
          exact List.getElem_mem hl
        rcases List.mem_append.1 this with h | h
        · exact .inr h
        · exact .inl (List.mem_singleton.1 h)
      · exact .inr h
      · exact .inl h
    · rintro (h | h)
      · exact .inr (.inr h)
      · exact .inr (.inl h)
theorem costRN_sum (j : Job) (a : List Int) : ∀ n, costRN j a n = sumF (fun s => lengthF (endsF j a s)) n
  | 0 => rfl
  | n + 1 => by rw [costRN, sumF, costRN_sum j a n]
theorem costR_eq {j : Job} (hj : j.Ok) {a : List Int} (hp : IsPl j a) : costR j a = costF j a := by
  have hk := fold_keys j a (n := ((j.p.ins.length + 2 * j.p.blocks.length : Nat) : Int)) (conns j a) [] (by simp) (fun x hx => by cases hx) fun c hc => by
    have := (conns_bd hj hp c hc).1
    omega
  show _ = emLen ((conns j a).foldl (stepF j a) [])
  rw [costR, costRN_sum, emLen_sum _ _ hk.1 hk.2]
  exact sumF_congr _ fun s hs => length_eq
end Go.Proofs.Ytbdamnfkgdbidaa
namespace Go.Proofs.Ytbdamnfkgdbidaa
open Go Go.Vc Txt
theorem costIn_r (j : Job) (hj : j.Ok) (a : List Int) (hl : (a.length : Int) ≤ 1000000) : FnEq Try.prog 18 [.agg (jobC false j), .sl false 1 (ints a)] (.agg [.int (cost1F j a).1, .int (cost1F j a).2]) := by
  refine FnEq.of_awp Try.func18 ok18 (by show 2 ≤ _; decide) (by simp only [push_cast, reduceIte, Nat.reduceEqDiff, Nat.reduceAdd, Nat.reduceSub, Nat.reduceMul, Nat.reduceBEq, Nat.reduceLT, Nat.reduceLeDiff, reduceCtorEq, Int.reduceToNat, Int.reduceNeg] <;> first | exact fun _ _ => trivial | simp) ?_
  simp only [ac18, rv18, push_cast, reduceIte, Nat.reduceEqDiff, Nat.reduceAdd, Nat.reduceSub, Nat.reduceMul, Nat.reduceBEq, Nat.reduceLT, Nat.reduceLeDiff, reduceCtorEq, Int.reduceToNat, Int.reduceNeg]
  refine cal_sub (is_ok j a hl (by have := hj.nb; omega) hj.wh) (by simp only [push_cast, reduceIte, Nat.reduceEqDiff, Nat.reduceAdd, Nat.reduceSub, Nat.reduceMul, Nat.reduceBEq, Nat.reduceLT, Nat.reduceLeDiff, reduceCtorEq, Int.reduceToNat, Int.reduceNeg]) ?_
  simp only [push_cast, reduceIte, Nat.reduceEqDiff, Nat.reduceAdd, Nat.reduceSub, Nat.reduceMul, Nat.reduceBEq, Nat.reduceLT, Nat.reduceLeDiff, reduceCtorEq, Int.reduceToNat, Int.reduceNeg]
  refine cond_of (fun h => ?_) fun h => ?_
  · rw [cost1F, if_neg (by have h : (!decide (IsPl j a)) = true := h; simpa using h)]
    simp only [push_cast, reduceIte, Nat.reduceEqDiff, Nat.reduceAdd, Nat.reduceSub, Nat.reduceMul, Nat.reduceBEq, Nat.reduceLT, Nat.reduceLeDiff, reduceCtorEq, Int.reduceToNat, Int.reduceNeg]
  · have hp : IsPl j a := by have h : (!decide (IsPl j a)) = false := h; simpa using h
    refine cal_sub (cost_r j hj a hp) (by simp only [push_cast, reduceIte, Nat.reduceEqDiff, Nat.reduceAdd, Nat.reduceSub, Nat.reduceMul, Nat.reduceBEq, Nat.reduceLT, Nat.reduceLeDiff, reduceCtorEq, Int.reduceToNat, Int.reduceNeg]) ?_
    rw [cost1F, if_pos hp, costR_eq hj hp]
    simp only [push_cast, reduceIte, Nat.reduceEqDiff, Nat.reduceAdd, Nat.reduceSub, Nat.reduceMul, Nat.reduceBEq, Nat.reduceLT, Nat.reduceLeDiff, reduceCtorEq, Int.reduceToNat, Int.reduceNeg]
theorem exch_iff {j : Job} {fx a : List Int} {b t : Nat} (hp : IsPl j a) (hb : b < a.length) : exchF j fx a b t = if allowedF j a fx b t = true then some (exchangedF a b t) else none := by
  split
  · rename_i h; exact exch_allowed hp hb h
  · rename_i h
    cases he : exchF j fx a b t with
    | none => rfl
    | some a' =>
      refine absurd ?_ h
      obtain ⟨h1, h2, h3, h4⟩ := exch_spec hp hb he
      unfold allowedF
      rw [Int.toNat_natCast, if_neg (by
        rintro (h5 | h5 | h5)
        · exact h3 h5.symm
        · exact h1 h5
        · rw [h2] at h5; cases h5), List.all_eq_true]
      intro i hi
      have hi := List.mem_range.1 hi
      by_cases hit : a.getD i default = t
      · rcases h4 with ⟨o, ho, hot, hok, hof, hos, _⟩ | ⟨hn, _⟩
        · have : i = o := nodup_inj hp.2.2 hi ho (by
            have e1 : a.getD i default = a[i] := by simp [hi]
            have e2 : a.getD o default = a[o] := by simp [ho]
            rw [← e1, ← e2, hit, hot])
          subst this
          rw [hos, decide_eq_false hof]
          simp
        · exact absurd (hit ▸ (by simp [List.getD_eq_getElem?_getD, hi] : a.getD i default ∈ a)) hn
      · rw [decide_eq_false hit]
        rfl
theorem tile_eq {j : Job} {fx : List Int} {b : Nat} {s : Im} (hp : IsPl j s.1) (hb : b < s.1.length) (t : Nat) :
    tileStep j fx b s t = if allowedF j s.1 fx b t = true then (if costF j (exchangedF s.1 b t) < s.2.1 then (exchangedF s.1 b t, costF j (exchangedF s.1 b t), s.2.2 + 1) else s) else s := by
  unfold tileStep
  rw [exch_iff hp hb]
  split
  · rename_i h
    split at h
    · cases h
    · rename_i h1; rw [if_neg h1]
  · rename_i h
    split at h
    · rename_i h1
      cases h
      rw [if_pos h1]
    · cases h
set_option maxHeartbeats 1000000 in
theorem pass_r (j : Job) (hj : j.Ok) (a fx : List Int) (hp : IsPl j a) (hfx : (fx.length : Int) ≤ 1000000) :
    FnEq Try.prog 45 [.agg (jobC false j), .sl true 1 (ints a), .sl false 1 (ints fx)]
      (.agg [.sl true 1 (ints (passStep j fx a.length (a, costF j a, 0)).1), .int (passStep j fx a.length (a, costF j a, 0)).2.2, .int 0]) := by
  refine FnEq.of_awp Try.func45 ok45 (by show 3 ≤ _; decide) (by simp only [push_cast, reduceIte, Nat.reduceEqDiff, Nat.reduceAdd, Nat.reduceSub, Nat.reduceMul, Nat.reduceBEq, Nat.reduceLT, Nat.reduceLeDiff, reduceCtorEq, Int.reduceToNat, Int.reduceNeg] <;> first | exact fun _ _ => trivial | simp) ?_
  simp only [ac45, rv45, push_cast, reduceIte, Nat.reduceEqDiff, Nat.reduceAdd, Nat.reduceSub, Nat.reduceMul, Nat.reduceBEq, Nat.reduceLT, Nat.reduceLeDiff, reduceCtorEq, Int.reduceToNat, Int.reduceNeg]
  have hnb := hj.nb
  have hpl := hp.1
  have hwh := hj.wh
  have hkd := hj.kind
  have hb0 := costF_bd hj hp
  have hi0 : ImOk j a (a, costF j a, 0) := ⟨hp, rfl, rfl, by show (0 : Int) ≤ 0; omega, by show 0 + costF j a ≤ _; omega⟩
  refine loop_of (fun m st => ∃ (k : Nat) (s : Im), k ≤ a.length ∧ m = a.length - k ∧ ImOk j a s ∧ s = (List.range k).foldl (blockStep j fx) (a, costF j a, 0) ∧
    st = ⟨[(1, .sl true 1 (ints a)), (2, .sl false 1 (ints fx)), (3, .ptr 3 0), (6, .ptr 6 0), (7, .ptr 7 0), (8, .int k)], [(3, jobC false j), (6, [.nil, .int 0, .int 0]), (7, [.sl true 1 (ints s.1), .int s.2.2, .int 0])], [], []⟩) a.length ?_ ?_
  · refine ⟨0, (a, costF j a, 0), by omega, by omega, hi0, rfl, ?_⟩
    simp only [push_cast, reduceIte, Nat.reduceEqDiff, Nat.reduceAdd, Nat.reduceSub, Nat.reduceMul, Nat.reduceBEq, Nat.reduceLT, Nat.reduceLeDiff, reduceCtorEq, Int.reduceToNat, Int.reduceNeg]
  · rintro m st ⟨k, s, hk, rfl, hs, hse, rfl⟩
    simp only [push_cast, reduceIte, Nat.reduceEqDiff, Nat.reduceAdd, Nat.reduceSub, Nat.reduceMul, Nat.reduceBEq, Nat.reduceLT, Nat.reduceLeDiff, reduceCtorEq, Int.reduceToNat, Int.reduceNeg]
    refine cond_dec (fun h => ?_) fun h => ?_
    · have hk' : k < a.length := by omega
      refine loop_of (fun m st => ∃ (t : Nat) (u : Im), t ≤ j.g.kind.length ∧ m = j.g.kind.length - t ∧ ImOk j a u ∧ u = (List.range t).foldl (tileStep j fx k) s ∧
        st = ⟨[(1, .sl true 1 (ints a)), (2, .sl false 1 (ints fx)), (3, .ptr 3 0), (6, .ptr 6 0), (7, .ptr 7 0), (8, .int k), (9, .int t)], [(3, jobC false j), (6, [.nil, .int 0, .int 0]), (7, [.sl true 1 (ints u.1), .int u.2.2, .int 0])], [], []⟩) j.g.kind.length ?_ ?_
      · refine ⟨0, s, by omega, by omega, hs, rfl, ?_⟩
        simp only [push_cast, reduceIte, Nat.reduceEqDiff, Nat.reduceAdd, Nat.reduceSub, Nat.reduceMul, Nat.reduceBEq, Nat.reduceLT, Nat.reduceLeDiff, reduceCtorEq, Int.reduceToNat, Int.reduceNeg]
      · rintro m st ⟨t, u, ht, rfl, hu, hue, rfl⟩
        simp only [push_cast, reduceIte, Nat.reduceEqDiff, Nat.reduceAdd, Nat.reduceSub, Nat.reduceMul, Nat.reduceBEq, Nat.reduceLT, Nat.reduceLeDiff, reduceCtorEq, Int.reduceToNat, Int.reduceNeg]
        have hul := hu.len
        have hub := costF_bd hj hu.pl
        have hulow := hu.low
        have hutot := hu.tot
        have hucost := hu.cost
        refine ⟨by omega, ?_⟩
        refine cond_dec (fun h1 => ?_) fun h1 => ?_
        · have ht' : t < j.g.kind.length := by omega
          have hue' : (List.range (t + 1)).foldl (tileStep j fx k) s = tileStep j fx k u t := by rw [foldl_range_succ, ← hue]
          have hu' := tileStep_ok (fx := fx) hu hk' t
          have hte := tile_eq (fx := fx) hu.pl (show k < u.1.length by omega) t
          refine cal_sub (allowed_ok j hj u.1 fx k t (by omega) hfx ⟨by omega, by omega⟩) ⟨.refl _, .slp _ _ _ _ (fun h => by cases h), .refl _, .refl _, trivial⟩ ?_
          simp only [push_cast, reduceIte, Nat.reduceEqDiff, Nat.reduceAdd, Nat.reduceSub, Nat.reduceMul, Nat.reduceBEq, Nat.reduceLT, Nat.reduceLeDiff, reduceCtorEq, Int.reduceToNat, Int.reduceNeg]
          refine cond_of (fun h2 => ?_) fun h2 => ?_
          · have hal : ¬ allowedF j u.1 fx k t = true := by simpa using h2
            rw [if_neg hal] at hte
            refine ⟨by omega, _, ?_, t + 1, u, by omega, rfl, hu, by rw [hue', hte], ?_⟩
            · omega
            · simp
          · have hal : allowedF j u.1 fx k t = true := by simpa using h2
            rw [if_pos hal] at hte
            have hex := exch_isPl hu.pl (show k < u.1.length by omega) (exch_allowed hu.pl (show k < u.1.length by omega) hal)
            refine cal_sub (exchanged_ok u.1 k t (by omega) ⟨by omega, by omega⟩) ⟨.slp _ _ _ _ (fun h => by cases h), .refl _, .refl _, trivial⟩ ?_
            generalize exchangedF u.1 k t = e at hex hte ⊢
            simp only [push_cast, reduceIte, Nat.reduceEqDiff, Nat.reduceAdd, Nat.reduceSub, Nat.reduceMul, Nat.reduceBEq, Nat.reduceLT, Nat.reduceLeDiff, reduceCtorEq, Int.reduceToNat, Int.reduceNeg]
            refine dcal_sub (cost_r j hj e hex) ⟨.refl _, .slp _ _ _ _ (fun h => by cases h), trivial⟩ rfl ?_
            simp only [push_cast, reduceIte, Nat.reduceEqDiff, Nat.reduceAdd, Nat.reduceSub, Nat.reduceMul, Nat.reduceBEq, Nat.reduceLT, Nat.reduceLeDiff, reduceCtorEq, Int.reduceToNat, Int.reduceNeg]
            refine cal_sub (cost_r j hj u.1 hu.pl) ⟨.refl _, .slp _ _ _ _ (fun h => by cases h), trivial⟩ ?_
            rw [costR_eq hj hex, costR_eq hj hu.pl, ← hucost]
            simp only [push_cast, reduceIte, Nat.reduceEqDiff, Nat.reduceAdd, Nat.reduceSub, Nat.reduceMul, Nat.reduceBEq, Nat.reduceLT, Nat.reduceLeDiff, reduceCtorEq, Int.reduceToNat, Int.reduceNeg]
            refine cond_dec (fun h3 => ?_) fun h3 => ?_
            · rw [if_pos h3] at hte
              refine ⟨by omega, by omega, _, ?_, t + 1, tileStep j fx k u t, by omega, rfl, hu', hue'.symm, ?_⟩
              · omega
              · rw [hte]; simp
            · rw [if_neg h3] at hte
              refine ⟨by omega, _, ?_, t + 1, u, by omega, rfl, hu, by rw [hue', hte], ?_⟩
              · omega
              · simp
        · have htt : t = j.g.kind.length := by omega
          subst htt
          refine ⟨by omega, _, ?_, k + 1, u, by omega, rfl, hu, ?_, ?_⟩
          · omega
          · rw [foldl_range_succ, ← hse, hue]; rfl
          · simp
    · have hkk : k = a.length := by omega
      have e : passStep j fx a.length (a, costF j a, 0) = s := by rw [hse, hkk]; rfl
      rw [e]
      exact ⟨fun _ _ => trivial, .refl _, rfl⟩
end Go.Proofs.Ytbdamnfkgdbidaa
namespace Go.Proofs.Ytbdamnfkgdbidaa
open Go Go.Vc Txt
def shI (m : Int) (s : Im) : Im := (s.1, s.2.1, s.2.2 + m)
theorem tile_sh (j : Job) (fx : List Int) (k : Nat) (m : Int) (s : Im) (t : Nat) : tileStep j fx k (shI m s) t = shI m (tileStep j fx k s t) := by
  unfold tileStep shI
  simp only
  split
  · rfl
  · split
    · refine Prod.ext rfl (Prod.ext rfl ?_)
      show s.2.2 + m + 1 = s.2.2 + 1 + m
      omega
    · rfl
theorem tiles_sh (j : Job) (fx : List Int) (k : Nat) (m : Int) : ∀ (l : List Nat) (s : Im), l.foldl (tileStep j fx k) (shI m s) = shI m (l.foldl (tileStep j fx k) s)
  | [], _ => rfl
  | t :: l, s => by
    show l.foldl (tileStep j fx k) (tileStep j fx k (shI m s) t) = _
    rw [tile_sh, tiles_sh j fx k m l]
    rfl
theorem blocks_sh (j : Job) (fx : List Int) (m : Int) : ∀ (l : List Nat) (s : Im), l.foldl (blockStep j fx) (shI m s) = shI m (l.foldl (blockStep j fx) s)
  | [], _ => rfl
  | t :: l, s => by
    show l.foldl (blockStep j fx) (blockStep j fx (shI m s) t) = _
    rw [show blockStep j fx (shI m s) t = shI m (blockStep j fx s t) from tiles_sh j fx t m _ s, blocks_sh j fx m l]
    rfl
theorem pass_sh (j : Job) (fx : List Int) (n : Nat) (s : Im) : passStep j fx n s = shI s.2.2 (passStep j fx n (s.1, s.2.1, 0)) := by
  have e : s = shI s.2.2 (s.1, s.2.1, 0) := by
    obtain ⟨a, b, c⟩ := s
    unfold shI
    simp
  have := blocks_sh j fx s.2.2 (List.range n) (s.1, s.2.1, 0)
  rw [← e] at this
  exact this
def startT (z : Start) : List PV := [.sl true 1 (ints z.at_), .sl false 1 (ints z.fixed), .int z.passes]
@[push_cast] theorem startT_eq (z : Start) : startT z = [.sl true 1 (ints z.at_), .sl false 1 (ints z.fixed), .int z.passes] := rfl
set_option maxHeartbeats 1000000 in
theorem improveIn_r (j : Job) (hj : j.Ok) (z : Start) (hl : (z.at_.length : Int) ≤ 1000000) (hfx : (z.fixed.length : Int) ≤ 1000000) :
    FnEq Try.prog 21 [.agg (jobC false j), .agg (startT z)] (.agg (placedC true (improvedF j z.at_ z.fixed z.passes))) := by
  refine FnEq.of_awp Try.func21 ok21 (by show 2 ≤ _; decide) (by simp only [push_cast, reduceIte, Nat.reduceEqDiff, Nat.reduceAdd, Nat.reduceSub, Nat.reduceMul, Nat.reduceBEq, Nat.reduceLT, Nat.reduceLeDiff, reduceCtorEq, Int.reduceToNat, Int.reduceNeg] <;> first | exact fun _ _ => trivial | simp) ?_
  simp only [ac21, rv21, push_cast, reduceIte, Nat.reduceEqDiff, Nat.reduceAdd, Nat.reduceSub, Nat.reduceMul, Nat.reduceBEq, Nat.reduceLT, Nat.reduceLeDiff, reduceCtorEq, Int.reduceToNat, Int.reduceNeg]
  obtain ⟨a, fx, passes⟩ := z
  simp only at hl hfx
  refine cut_of ⟨[(2, .ptr 2 0), (3, .ptr 3 0), (4, .ptr 4 0), (15, .bool (decide (passes < 0 ∨ 1000 < passes)))], [(2, jobC false j), (3, startT ⟨a, fx, passes⟩), (4, [.nil, .int 0, .int 0])], [], []⟩ ?_ ?_
  · (repeat' (first | (refine grd_dec rfl (fun _ => ?_) fun _ => ?_ <;> simp only [push_cast, reduceIte, Nat.reduceEqDiff, Nat.reduceAdd, Nat.reduceSub, Nat.reduceMul, Nat.reduceBEq, Nat.reduceLT, Nat.reduceLeDiff, reduceCtorEq, Int.reduceToNat, Int.reduceNeg]) | (refine grd_decf rfl (fun _ => ?_) fun _ => ?_ <;> simp only [push_cast, reduceIte, Nat.reduceEqDiff, Nat.reduceAdd, Nat.reduceSub, Nat.reduceMul, Nat.reduceBEq, Nat.reduceLT, Nat.reduceLeDiff, reduceCtorEq, Int.reduceToNat, Int.reduceNeg])))
    all_goals simp [*]
  simp only [push_cast, reduceIte, Nat.reduceEqDiff, Nat.reduceAdd, Nat.reduceSub, Nat.reduceMul, Nat.reduceBEq, Nat.reduceLT, Nat.reduceLeDiff, reduceCtorEq, Int.reduceToNat, Int.reduceNeg]
  refine cond_dec (fun h => ?_) fun h => ?_
  · rw [improvedF, if_pos h]
    simp only [push_cast, reduceIte, Nat.reduceEqDiff, Nat.reduceAdd, Nat.reduceSub, Nat.reduceMul, Nat.reduceBEq, Nat.reduceLT, Nat.reduceLeDiff, reduceCtorEq, Int.reduceToNat, Int.reduceNeg]
    done
  refine cal_sub (rcheck_ok j hj a hl) ⟨.refl _, .slp _ _ _ _ (fun h => by cases h), trivial⟩ ?_
  simp only [push_cast, reduceIte, Nat.reduceEqDiff, Nat.reduceAdd, Nat.reduceSub, Nat.reduceMul, Nat.reduceBEq, Nat.reduceLT, Nat.reduceLeDiff, reduceCtorEq, Int.reduceToNat, Int.reduceNeg]
  refine cond_dec (fun h1 => ?_) fun h1 => ?_
  · rw [improvedF, if_neg h, if_pos h1, checkF_not h1]
    simp only [push_cast, reduceIte, Nat.reduceEqDiff, Nat.reduceAdd, Nat.reduceSub, Nat.reduceMul, Nat.reduceBEq, Nat.reduceLT, Nat.reduceLeDiff, reduceCtorEq, Int.reduceToNat, Int.reduceNeg]
    done
  have h1 := Classical.not_not.1 h1
  have hp := checkF_zero h1
  obtain ⟨pn, rfl⟩ : ∃ pn : Nat, passes = pn := ⟨passes.toNat, by omega⟩
  have hres : improvedF j a fx pn = ((improveF j fx a pn).1, (improveF j fx a pn).2.2, 0) := by rw [improvedF, if_neg h, if_neg (fun hh => hh h1), Int.toNat_natCast]
  rw [hres]
  clear hres
  have hb0 := costF_bd hj hp
  refine loop_of (fun m st => ∃ (i : Nat) (s : Im), i ≤ pn ∧ m = pn - i ∧ ImOk j a s ∧ passesF j fx a.length (pn - i) s = improveF j fx a pn ∧
    st = ⟨[(2, .ptr 2 0), (3, .ptr 3 0), (4, .ptr 4 0), (5, .ptr 5 0), (6, .int i)], [(2, jobC false j), (3, startT ⟨a, fx, pn⟩), (4, [.nil, .int 0, .int 0]), (5, [.sl true 1 (ints s.1), .int s.2.2, .int 0])], [], []⟩) pn ?_ ?_
  · refine ⟨0, (a, costF j a, 0), by omega, by omega, ⟨hp, rfl, rfl, by show (0 : Int) ≤ 0; omega, by show 0 + costF j a ≤ _; omega⟩, rfl, ?_⟩
    simp only [push_cast, reduceIte, Nat.reduceEqDiff, Nat.reduceAdd, Nat.reduceSub, Nat.reduceMul, Nat.reduceBEq, Nat.reduceLT, Nat.reduceLeDiff, reduceCtorEq, Int.reduceToNat, Int.reduceNeg]
  · rintro m st ⟨i, s, hi, rfl, hs, hF, rfl⟩
    simp only [push_cast, reduceIte, Nat.reduceEqDiff, Nat.reduceAdd, Nat.reduceSub, Nat.reduceMul, Nat.reduceBEq, Nat.reduceLT, Nat.reduceLeDiff, reduceCtorEq, Int.reduceToNat, Int.reduceNeg]
    have hsl := hs.len
    have hscost := hs.cost
    have hslow := hs.low
    have hstot := hs.tot
    have hsb := costF_bd hj hs.pl
    refine cond_dec (fun h2 => ?_) fun h2 => ?_
    · refine cal_sub (pass_r j hj s.1 fx hs.pl hfx) (by simp only [push_cast, reduceIte, Nat.reduceEqDiff, Nat.reduceAdd, Nat.reduceSub, Nat.reduceMul, Nat.reduceBEq, Nat.reduceLT, Nat.reduceLeDiff, reduceCtorEq, Int.reduceToNat, Int.reduceNeg]) ?_
      have hsh := pass_sh j fx a.length s
      have htot := pass_tot j fx a.length s
      have hs' : ImOk j a (passStep j fx a.length s) := blocks_ok (List.range a.length) (fun k hk => List.mem_range.1 hk) hs
      have hF' : passesF j fx a.length (pn - i) s = if (passStep j fx a.length s).2.2 = s.2.2 then passStep j fx a.length s else passesF j fx a.length (pn - (i + 1)) (passStep j fx a.length s) := by
        rw [show pn - i = (pn - (i + 1)) + 1 by omega]; rfl
      rw [hsl, show (s.1, costF j s.1, (0 : Int)) = (s.1, s.2.1, 0) from by rw [hscost]]
      generalize passStep j fx a.length (s.1, s.2.1, 0) = r at hsh ⊢
      have e1 : (passStep j fx a.length s).1 = r.1 := by rw [hsh]; rfl
      have e2 : (passStep j fx a.length s).2.2 = r.2.2 + s.2.2 := by rw [hsh]; rfl
      simp only [push_cast, reduceIte, Nat.reduceEqDiff, Nat.reduceAdd, Nat.reduceSub, Nat.reduceMul, Nat.reduceBEq, Nat.reduceLT, Nat.reduceLeDiff, reduceCtorEq, Int.reduceToNat, Int.reduceNeg]
      have hb1 := hs'.low
      have hb2 := hs'.tot
      have hb3 := hs'.cost
      have hb4 := costF_bd hj hs'.pl
      refine cond_dec (fun h3 => ?_) fun h3 => ?_
      · rw [hF', if_pos (by omega), (htot.2 (by omega)).1] at hF
        rw [← hF]
        exact ⟨fun _ _ => trivial, .refl _, rfl⟩
      · rw [hF', if_neg (by omega)] at hF
        refine ⟨by omega, by omega, _, ?_, i + 1, passStep j fx a.length s, by omega, rfl, hs', hF, ?_⟩
        · omega
        · rw [e1, e2, Int.add_comm r.2.2]; simp
    · have hii : i = pn := by omega
      rw [hii, Nat.sub_self] at hF
      have hF : s = improveF j fx a pn := hF
      rw [← hF]
      exact ⟨fun _ _ => trivial, .refl _, rfl⟩
end Go.Proofs.Ytbdamnfkgdbidaa
namespace Go.Proofs.Ytbdamnfkgdbidaa.Txt
open Go Go.Vc
set_option maxRecDepth 100000
def ac24e_r15 : AC :=
 (.seq (.seq (.reg [0, 154, 2, 3, 4, 5, 6, 7, 8] [
 ⟨some 100, none, .mv (.t 8)⟩])
 (.cond (.t 100)
 (.seq (.reg [0, 154, 4] [
 ⟨some 101, none, .bld [.nil, .sc (.int .i64 0), .sc (.int .i64 0)] [(2, 1, (.c (.sc (.int .i64 290))))]⟩, ⟨none, none, .sto 3 (.t 4) (.t 101)⟩])
 .ret)
 .skip))
 (.seq (.seq (.reg [0, 154, 2, 3, 4, 5, 6, 7] [
 ⟨some 10, none, .mv (.c (.sc (.int .i64 0)))⟩])
 (.block 2
 (.loop [0, 154, 2, 3, 4, 5, 6, 7, 10]
 (.seq (.seq (.reg [0, 154, 2, 3, 4, 5, 6, 7, 10] [
 ⟨some 102, none, .mv (.t 10)⟩, ⟨some 103, none, .cmp .lss .i64 (.t 102) (.c (.sc (.int .i64 2)))⟩])
 (.cond (.t 103)
 .skip
 (.exit 2)))
 (.seq (.block 3
 (.seq (.reg [0, 154, 2, 3, 4, 5, 6, 7, 10] [
 ⟨some 11, none, .mv (.c (.sc (.int .i64 0)))⟩])
 (.block 4
 (.loop [0, 154, 2, 3, 4, 5, 6, 7, 10, 11]
 (.seq (.seq (.reg [0, 154, 2, 3, 4, 5, 6, 7, 10, 11] [
 ⟨some 106, none, .mv (.t 11)⟩, ⟨some 107, none, .mv (.t 5)⟩, ⟨some 108, none, .cmp .lss .i64 (.t 106) (.t 107)⟩])
 (.cond (.t 108)
 .skip
 (.exit 4)))
 (.seq (.block 5
 (.seq (.seq (.reg [0, 154, 2, 3, 4, 5, 6, 7, 10, 11] [
 ⟨some 111, none, .mv (.t 6)⟩, ⟨some 112, none, .mv (.t 11)⟩, ⟨some 113, none, .ixs 1 (.t 111) (.t 112)⟩, ⟨some 114, none, .ld false 1 (.t 113)⟩, ⟨some 115, none, .cmp .geq .i64 (.t 114) (.c (.sc (.int .i64 0)))⟩, ⟨some 116, none, .mv (.t 115)⟩, ⟨some 117, some (116, false), .fa 0 (.t 2)⟩, ⟨some 118, some (116, false), .fa 1 (.t 117)⟩, ⟨some 119, some (116, false), .ld false 1 (.t 118)⟩, ⟨some 120, some (116, false), .mv (.t 11)⟩, ⟨some 121, some (116, false), .ixs 5 (.t 119) (.t 120)⟩, ⟨some 122, some (116, false), .fa 2 (.t 121)⟩, ⟨some 123, some (116, false), .ld false 1 (.t 122)⟩, ⟨some 124, some (116, false), .cmp .neq .i64 (.t 123) (.c (.sc (.int .i64 (-1))))⟩, ⟨some 125, some (116, false), .mv (.t 10)⟩, ⟨some 126, some (116, false), .cmp .eql .i64 (.t 125) (.c (.sc (.int .i64 0)))⟩, ⟨some 127, some (116, false), .eqb true (.t 124) (.t 126)⟩, ⟨some 128, none, .pick (.t 116) (.c (.sc (.bool true))) (.t 127)⟩])
 (.cut [0, 154, 2, 3, 4, 5, 6, 7, 10, 11, 128] (.cond (.t 128)
 (.exit 5)
 .skip)))
 (.seq (.reg [0, 154, 2, 3, 4, 5, 6, 7, 10, 11] [
 ⟨some 129, none, .mv (.t 6)⟩, ⟨some 130, none, .mv (.t 11)⟩, ⟨some 131, none, .ld true 11 (.t 2)⟩, ⟨some 132, none, .mv (.t 6)⟩, ⟨some 133, none, .mv (.t 11)⟩, ⟨some 134, none, .cal 47 [(.t 131), (.t 132), (.t 133)]⟩, ⟨some 135, none, .ixs 1 (.t 129) (.t 130)⟩, ⟨none, none, .sto 1 (.t 135) (.t 134)⟩])
 (.seq (.reg [0, 154, 2, 3, 4, 5, 6, 7, 10, 11] [
 ⟨some 136, none, .mv (.t 6)⟩, ⟨some 137, none, .mv (.t 11)⟩, ⟨some 138, none, .ixs 1 (.t 136) (.t 137)⟩, ⟨some 139, none, .ld false 1 (.t 138)⟩, ⟨some 140, none, .cmp .lss .i64 (.t 139) (.c (.sc (.int .i64 0)))⟩])
 (.cond (.t 140)
 (.seq (.reg [0, 154, 4] [
 ⟨some 141, none, .bld [.nil, .sc (.int .i64 0), .sc (.int .i64 0)] [(2, 1, (.c (.sc (.int .i64 4))))]⟩, ⟨none, none, .sto 3 (.t 4) (.t 141)⟩])
 .ret)
 .skip)))))
 (.reg [0, 154, 2, 3, 4, 5, 6, 7, 10, 11] [
 ⟨some 109, none, .mv (.t 11)⟩, ⟨some 110, none, .ari .add true .i64 (.t 109) (.c (.sc (.int .i64 1)))⟩, ⟨some 11, none, .mv (.t 110)⟩])))))))
 (.reg [0, 154, 2, 3, 4, 5, 6, 7, 10] [
 ⟨some 104, none, .mv (.t 10)⟩, ⟨some 105, none, .ari .add true .i64 (.t 104) (.c (.sc (.int .i64 1)))⟩, ⟨some 10, none, .mv (.t 105)⟩]))))))
 (.seq (.frz [6, 7] (.wk (.reg [0, 154, 2, 3, 4, 6, 7] [
 ⟨some 142, none, .ld true 11 (.t 2)⟩, ⟨some 143, none, .mv (.t 6)⟩, ⟨some 144, none, .mv (.t 7)⟩, ⟨some 145, none, .fa 2 (.t 3)⟩, ⟨some 146, none, .ld false 1 (.t 145)⟩, ⟨some 147, none, .bld [.nil, .nil, .sc (.int .i64 0)] [(0, 1, (.t 143)), (1, 1, (.t 144)), (2, 1, (.t 146))]⟩, ⟨some 148, none, .cal 21 [(.t 142), (.t 147)]⟩, ⟨some 12, none, .alc [.nil, .sc (.int .i64 0), .sc (.int .i64 0)]⟩, ⟨none, none, .sto 3 (.t 12) (.t 148)⟩])))
 (.seq (.reg [0, 154, 4, 12] [
 ⟨some 149, none, .fa 0 (.t 12)⟩, ⟨some 150, none, .ld false 1 (.t 149)⟩, ⟨some 151, none, .fa 2 (.t 12)⟩, ⟨some 152, none, .ld false 1 (.t 151)⟩, ⟨some 153, none, .bld [.nil, .sc (.int .i64 0), .sc (.int .i64 0)] [(0, 1, (.t 150)), (2, 1, (.t 152))]⟩, ⟨none, none, .sto 3 (.t 4) (.t 153)⟩])
 .ret))))
def ac24e : AC :=
 (.seq (.reg [0, 154, 0, 1] [
 ⟨some 2, none, .box (.t 0)⟩, ⟨some 3, none, .box (.t 1)⟩, ⟨some 4, none, .alc [.nil, .sc (.int .i64 0), .sc (.int .i64 0)]⟩])
 (.seq (.reg [0, 154, 2, 3, 4] [
 ⟨some 13, none, .fa 0 (.t 2)⟩, ⟨some 14, none, .fa 1 (.t 13)⟩, ⟨some 15, none, .ld false 1 (.t 14)⟩, ⟨some 16, none, .len (.t 15)⟩, ⟨some 5, none, .mv (.t 16)⟩])
 (.seq (.seq (.reg [0, 154, 2, 3, 4, 5] [
 ⟨some 17, none, .fa 2 (.t 3)⟩, ⟨some 18, none, .ld false 1 (.t 17)⟩, ⟨some 19, none, .cmp .lss .i64 (.t 18) (.c (.sc (.int .i64 0)))⟩, ⟨some 20, none, .mv (.t 19)⟩, ⟨some 21, some (20, false), .fa 2 (.t 3)⟩, ⟨some 22, some (20, false), .ld false 1 (.t 21)⟩, ⟨some 23, some (20, false), .cmp .gtr .i64 (.t 22) (.c (.sc (.int .i64 1000)))⟩, ⟨some 24, none, .pick (.t 20) (.c (.sc (.bool true))) (.t 23)⟩, ⟨some 25, none, .mv (.t 24)⟩, ⟨some 26, some (25, false), .fa 1 (.t 3)⟩, ⟨some 27, some (25, false), .ld false 1 (.t 26)⟩, ⟨some 28, some (25, false), .len (.t 27)⟩, ⟨some 29, some (25, false), .cmp .neq .i64 (.t 28) (.c (.sc (.int .i64 0)))⟩, ⟨some 30, some (25, false), .mv (.t 29)⟩, ⟨some 31, some (30, true), .fa 1 (.t 3)⟩, ⟨some 32, some (30, true), .ld false 1 (.t 31)⟩, ⟨some 33, some (30, true), .len (.t 32)⟩, ⟨some 34, some (30, true), .mv (.t 5)⟩, ⟨some 35, some (30, true), .cmp .neq .i64 (.t 33) (.t 34)⟩, ⟨some 36, some (25, false), .pick (.t 30) (.t 35) (.c (.sc (.bool false)))⟩, ⟨some 37, none, .pick (.t 25) (.c (.sc (.bool true))) (.t 36)⟩])
 (.cut [0, 154, 2, 3, 4, 5, 37] (.cond (.t 37)
 (.seq (.reg [0, 154, 4] [
 ⟨some 38, none, .bld [.nil, .sc (.int .i64 0), .sc (.int .i64 0)] [(2, 1, (.c (.sc (.int .i64 1))))]⟩, ⟨none, none, .sto 3 (.t 4) (.t 38)⟩])
 .ret)
 .skip)))
 (.seq (.reg [0, 154, 2, 3, 4, 5] [
 ⟨some 39, none, .mv (.t 5)⟩, ⟨some 40, none, .mks 1 3 8 [.sc (.int .i64 0)] (.t 39) (.t 39)⟩, ⟨some 6, none, .mv (.t 40)⟩])
 (.seq (.reg [0, 154, 2, 3, 4, 5, 6] [
 ⟨some 41, none, .bsl 1 3 [.sc (.int .i64 0)] 0 []⟩, ⟨some 7, none, .mv (.t 41)⟩])
 (.seq (.reg [0, 154, 2, 3, 4, 5, 6, 7] [
 ⟨some 42, none, .ld true 11 (.t 2)⟩, ⟨some 43, none, .cal 39 [(.t 42)]⟩, ⟨some 44, none, .not (.t 43)⟩, ⟨some 8, none, .mv (.t 44)⟩])
 (.seq (.seq (.reg [0, 154, 2, 3, 4, 5, 6, 7, 8] [
 ⟨some 9, none, .mv (.c (.sc (.int .i64 0)))⟩])
 (.block 0
 (.loop [0, 154, 2, 3, 4, 5, 6, 7, 8, 9]
 (.seq (.seq (.reg [0, 154, 2, 3, 4, 5, 6, 7, 8, 9] [
 ⟨some 45, none, .mv (.t 9)⟩, ⟨some 46, none, .mv (.t 5)⟩, ⟨some 47, none, .cmp .lss .i64 (.t 45) (.t 46)⟩])
 (.cond (.t 47)
 .skip
 (.exit 0)))
 (.seq (.block 1
 (.seq (.reg [0, 154, 2, 3, 4, 5, 6, 7, 8, 9] [
 ⟨some 50, none, .mv (.t 6)⟩, ⟨some 51, none, .mv (.t 9)⟩, ⟨some 52, none, .ixs 1 (.t 50) (.t 51)⟩, ⟨none, none, .sto 1 (.t 52) (.c (.sc (.int .i64 (-1))))⟩])
 (.seq (.seq (.reg [0, 154, 2, 3, 4, 5, 6, 7, 8, 9] [
 ⟨some 53, none, .fa 1 (.t 3)⟩, ⟨some 54, none, .ld false 1 (.t 53)⟩, ⟨some 55, none, .len (.t 54)⟩, ⟨some 56, none, .cmp .eql .i64 (.t 55) (.c (.sc (.int .i64 0)))⟩, ⟨some 57, none, .mv (.t 56)⟩, ⟨some 58, some (57, false), .fa 1 (.t 3)⟩, ⟨some 59, some (57, false), .ld false 1 (.t 58)⟩, ⟨some 60, some (57, false), .mv (.t 9)⟩, ⟨some 61, some (57, false), .ixs 1 (.t 59) (.t 60)⟩, ⟨some 62, some (57, false), .ld false 1 (.t 61)⟩, ⟨some 63, some (57, false), .cmp .eql .i64 (.t 62) (.c (.sc (.int .i64 (-1))))⟩, ⟨some 64, none, .pick (.t 57) (.c (.sc (.bool true))) (.t 63)⟩])
 (.cut [0, 154, 2, 3, 4, 5, 6, 7, 8, 9, 64] (.cond (.t 64)
 (.exit 1)
 .skip)))
 (.seq (.drw [0, 154, 2, 3, 4, 5, 6, 7, 8, 9] [
 ⟨⟨some 65, none, .mv (.t 8)⟩, [], [], false⟩, ⟨⟨some 66, none, .mv (.t 65)⟩, [], [], false⟩, ⟨⟨some 67, some (66, false), .ld true 11 (.t 2)⟩, [], [], true⟩, ⟨⟨some 68, some (66, false), .mv (.t 9)⟩, [], [], true⟩, ⟨⟨some 69, some (66, false), .fa 1 (.t 3)⟩, [], [], true⟩, ⟨⟨some 70, some (66, false), .ld false 1 (.t 69)⟩, [], [], true⟩, ⟨⟨some 71, some (66, false), .mv (.t 9)⟩, [], [], true⟩, ⟨⟨some 72, some (66, false), .ixs 1 (.t 70) (.t 71)⟩, [], [], true⟩, ⟨⟨some 73, some (66, false), .ld false 1 (.t 72)⟩, [], [], true⟩, ⟨⟨some 74, some (66, false), .cal 13 [(.t 67), (.t 68), (.t 73)]⟩, [], [], false⟩, ⟨⟨some 75, some (66, false), .not (.t 74)⟩, [], [], false⟩, ⟨⟨some 76, none, .pick (.t 66) (.c (.sc (.bool true))) (.t 75)⟩, [], [], false⟩, ⟨⟨some 77, none, .mv (.t 76)⟩, [], [], false⟩, ⟨⟨some 78, some (77, false), .mv (.t 6)⟩, [], [], true⟩, ⟨⟨some 79, some (77, false), .mv (.t 9)⟩, [], [], true⟩, ⟨⟨some 80, some (77, false), .slc 1 (.t 78) none (some (.t 79))⟩, [], [], true⟩, ⟨⟨some 81, some (77, false), .fa 1 (.t 3)⟩, [], [], true⟩, ⟨⟨some 82, some (77, false), .ld false 1 (.t 81)⟩, [], [], true⟩, ⟨⟨some 83, some (77, false), .mv (.t 9)⟩, [], [], true⟩, ⟨⟨some 84, some (77, false), .ixs 1 (.t 82) (.t 83)⟩, [], [], true⟩, ⟨⟨some 85, some (77, false), .ld false 1 (.t 84)⟩, [], [], true⟩, ⟨⟨some 86, some (77, false), .cal 26 [(.t 80), (.t 85)]⟩, [], [], false⟩, ⟨⟨some 87, none, .pick (.t 77) (.c (.sc (.bool true))) (.t 86)⟩, [], [], false⟩, ⟨⟨some 8, none, .mv (.t 87)⟩, [], [], false⟩])
 (.cut [0, 154, 2, 3, 4, 5, 6, 7, 8, 9] (.seq (.reg [0, 154, 2, 3, 4, 5, 6, 7, 8, 9] [
 ⟨some 88, none, .mv (.t 6)⟩, ⟨some 89, none, .mv (.t 9)⟩, ⟨some 90, none, .fa 1 (.t 3)⟩, ⟨some 91, none, .ld false 1 (.t 90)⟩, ⟨some 92, none, .mv (.t 9)⟩, ⟨some 93, none, .ixs 1 (.t 91) (.t 92)⟩, ⟨some 94, none, .ld false 1 (.t 93)⟩, ⟨some 95, none, .ixs 1 (.t 88) (.t 89)⟩, ⟨none, none, .sto 1 (.t 95) (.t 94)⟩])
 (.reg [0, 154, 2, 3, 4, 5, 6, 7, 8, 9] [
 ⟨some 96, none, .mv (.t 7)⟩, ⟨some 97, none, .mv (.t 9)⟩, ⟨some 98, none, .bsl 1 3 [.sc (.int .i64 0)] 1 [(0, (.t 97))]⟩, ⟨some 99, none, .app 1 3 8 (.t 96) (.t 98)⟩, ⟨some 7, none, .mv (.t 99)⟩])))))))
 (.reg [0, 154, 2, 3, 4, 5, 6, 7, 8, 9] [
 ⟨some 48, none, .mv (.t 9)⟩, ⟨some 49, none, .ari .add true .i64 (.t 48) (.c (.sc (.int .i64 1)))⟩, ⟨some 9, none, .mv (.t 49)⟩]))))))
 ac24e_r15)))))))
def rv24e : List RV := [.cell 4 true 3]
theorem ok24e : fnOk Try.prog ac24e rv24e Try.f24 = true := by kernel_rfl
end Go.Proofs.Ytbdamnfkgdbidaa.Txt
namespace Go.Proofs.Ytbdamnfkgdbidaa
open Go Go.Vc
abbrev PB := List Int × List Int × Bool
def stepB (j : Job) (fx : List Int) (s : PB) (i : Nat) : PB :=
  if fx.length = 0 ∨ fx.getD i default = -1 then (s.1.set i (-1), s.2.1, s.2.2)
  else ((s.1.set i (-1)).set i (fx.getD i default), s.2.1 ++ [(i : Int)], (s.2.2 || !suitsR j i (fx.getD i default)) || decide (fx.getD i default ∈ (s.1.set i (-1)).take i))
def goB (j : Job) (fx : List Int) (i : Nat) : PB := (List.range i).foldl (stepB j fx) (List.replicate j.p.blocks.length 0, [], !decide (Fits j))
theorem goB_succ (j : Job) (fx : List Int) (i : Nat) : goB j fx (i + 1) = stepB j fx (goB j fx i) i := foldl_range_succ _ _ _
theorem stepB_len (j : Job) (fx : List Int) (s : PB) (i : Nat) : (stepB j fx s i).1.length = s.1.length ∧ (stepB j fx s i).2.1.length ≤ s.2.1.length + 1 ∧ (s.2.2 = true → (stepB j fx s i).2.2 = true) := by
  unfold stepB
  split
  · exact ⟨by simp, by simp, id⟩
  · exact ⟨by simp, by simp, fun h => by simp [h]⟩
theorem goB_len (j : Job) (fx : List Int) : ∀ i, (goB j fx i).1.length = j.p.blocks.length ∧ (goB j fx i).2.1.length ≤ i
  | 0 => by simp [goB]
  | i + 1 => by
    have h1 := goB_len j fx i
    have h2 := stepB_len j fx (goB j fx i) i
    rw [goB_succ]
    exact ⟨h2.1.trans h1.1, by omega⟩
def padB (n i : Nat) (a : List Int) : List Int := a.take i ++ List.replicate (n - i) (-1)
theorem padB_set {n i : Nat} {a : List Int} (hl : a.length = n) (hi : i < n) (x : Int) : padB n (i + 1) (a.set i x) = (padB n i a).set i x := by
  unfold padB
  refine List.ext_getElem (by simp; omega) fun m h1 h2 => ?_
  simp only [List.length_append, List.length_take, List.length_set, List.length_replicate] at h1
  rw [List.getElem_set]
  by_cases e : i = m
  · subst e
    rw [if_pos rfl, List.getElem_append_left (by simp; omega)]
    simp
  · rw [if_neg e]
    by_cases h3 : m < i
    · rw [List.getElem_append_left (by simp; omega), List.getElem_append_left (by simp; omega)]
      simp [List.getElem_set, e]
    · rw [List.getElem_append_right (by simp; omega), List.getElem_append_right (by simp; omega)]
      simp
theorem padB_neg {n i : Nat} {a : List Int} (hl : a.length = n) (hi : i < n) : padB n (i + 1) (a.set i (-1)) = padB n i a := by
  rw [padB_set hl hi]
  refine List.ext_getElem (by simp) fun m h1 h2 => ?_
  rw [List.getElem_set]
  split
  · rename_i e
    subst e
    have : (padB n i a)[i] = (List.take i a ++ List.replicate (n - i) (-1))[i]'(by simp; omega) := rfl
    rw [this, List.getElem_append_right (by simp; omega)]
    simp
  · rfl
theorem padB_mem {n i : Nat} {a : List Int} {t : Int} (ht : t ≠ -1) : t ∈ padB n i a ↔ t ∈ a.take i := by
  unfold padB
  rw [List.mem_append]
  exact ⟨fun h => h.resolve_right fun h => ht (List.eq_of_mem_replicate h), .inl⟩
theorem goB_keep {j : Job} {fx : List Int} (hl : fx.length = j.p.blocks.length) : ∀ i, i ≤ j.p.blocks.length →
    ((goB j fx i).2.2 = true → ¬ Fits j ∨ keepF j fx 0 (List.replicate j.p.blocks.length (-1), []) = none) ∧
    ((goB j fx i).2.2 = false → Fits j ∧ keepF j (fx.drop i) i (padB j.p.blocks.length i (goB j fx i).1, (goB j fx i).2.1) = keepF j fx 0 (List.replicate j.p.blocks.length (-1), []))
  | 0, _ => by
    refine ⟨fun h => .inl ?_, fun h => ⟨?_, rfl⟩⟩
    · have h : (!decide (Fits j)) = true := h
      simpa using h
    · have h : (!decide (Fits j)) = false := h
      simpa using h
  | i + 1, hi => by
    obtain ⟨h1, h2⟩ := goB_keep hl i (by omega)
    have hlen := (goB_len j fx i).1
    rw [goB_succ]
    generalize goB j fx i = s at h1 h2 hlen ⊢
    have hdr : fx.drop i = fx.getD i default :: fx.drop (i + 1) := by
      rw [List.drop_eq_getElem_cons (by omega)]
      simp [show i < fx.length by omega]
    unfold stepB
    by_cases ht : fx.length = 0 ∨ fx.getD i default = -1
    · have ht' : fx.getD i default = -1 := ht.resolve_left (by omega)
      rw [if_pos ht]
      refine ⟨h1, fun h => ⟨(h2 h).1, ?_⟩⟩
      have h3 := (h2 h).2
      rw [hdr, keepF, if_pos ht'] at h3
      simp only
      rw [padB_neg hlen (by omega)]
      exact h3
    · rw [if_neg ht]
      have ht' : fx.getD i default ≠ -1 := fun e => ht (.inr e)
      cases hb : s.2.2 with
      | true =>
        refine ⟨fun _ => h1 hb, fun h => ?_⟩
        simp at h
      | false =>
        obtain ⟨h3, h4⟩ := h2 hb
        rw [hdr, keepF, if_neg ht'] at h4
        have hmem := padB_mem (n := j.p.blocks.length) (i := i) (a := s.1) ht'
        have htk : (s.1.set i (-1)).take i = s.1.take i := by
          refine List.ext_getElem (by simp) fun m h5 h6 => ?_
          simp only [List.length_take] at h6
          simp only [List.getElem_take, List.getElem_set]
          rw [if_neg (by omega)]
        simp only
        rw [htk]
        have hpd : padB j.p.blocks.length (i + 1) ((s.1.set i (-1)).set i (fx.getD i default)) = (padB j.p.blocks.length i s.1).set i (fx.getD i default) := by
          rw [padB_set (by simpa using hlen) (by omega), ]
          refine congrArg (fun l : List Int => l.set i (fx.getD i default)) ?_
          unfold padB
          rw [htk]
        rw [hpd]
        split at h4
        · rename_i h5
          refine ⟨fun _ => .inr h4.symm, fun h => ?_⟩
          simp only [Bool.false_or, Bool.or_eq_false_iff, Bool.not_eq_false', decide_eq_false_iff_not] at h
          rcases h5 with h5 | h5
          · rw [h.1] at h5; cases h5
          · exact absurd (hmem.1 h5) h.2
        · rename_i h5
          refine ⟨fun h => ?_, fun _ => ⟨h3, h4⟩⟩
          have hsu : suitsR j i (fx.getD i default) = true := by cases hc : suitsR j i (fx.getD i default) <;> simp_all
          rw [hsu] at h
          simp at h
          exact absurd (.inr (hmem.2 h)) h5
theorem goB_end {j : Job} {fx : List Int} (hl : fx.length = j.p.blocks.length ∨ fx.length = 0) :
    ((goB j fx j.p.blocks.length).2.2 = true → ¬ Fits j ∨ keepF j fx 0 (List.replicate j.p.blocks.length (-1), []) = none) ∧
    ((goB j fx j.p.blocks.length).2.2 = false → Fits j ∧ keepF j fx 0 (List.replicate j.p.blocks.length (-1), []) = some ((goB j fx j.p.blocks.length).1, (goB j fx j.p.blocks.length).2.1)) := by
  have hlen := (goB_len j fx j.p.blocks.length).1
  by_cases h0 : fx.length = 0
  · have hfx : fx = [] := List.eq_nil_of_length_eq_zero h0
    subst hfx
    have key : ∀ i, i ≤ j.p.blocks.length → (goB j [] i).2.1 = [] ∧ (goB j [] i).2.2 = !decide (Fits j) ∧ padB j.p.blocks.length i (goB j [] i).1 = List.replicate j.p.blocks.length (-1) := by
      intro i
      induction i with
      | zero => intro _; exact ⟨rfl, rfl, rfl⟩
      | succ i ih =>
        intro hi
        obtain ⟨h1, h2, h3⟩ := ih (by omega)
        have hlen := (goB_len j [] i).1
        rw [goB_succ]
        unfold stepB
        rw [if_pos (.inl rfl)]
        exact ⟨h1, h2, by simp only; rw [padB_neg hlen (by omega)]; exact h3⟩
    obtain ⟨h1, h2, h3⟩ := key _ (Nat.le_refl _)
    have h4 : (goB j [] j.p.blocks.length).1 = List.replicate j.p.blocks.length (-1) := by
      rw [← h3, padB, Nat.sub_self, List.take_of_length_le (by omega)]
      simp
    rw [h2, h4, h1]
    refine ⟨fun h => .inl (by simpa using h), fun h => ⟨by simpa using h, rfl⟩⟩
  · have hl := hl.resolve_right h0
    obtain ⟨h1, h2⟩ := goB_keep hl _ (Nat.le_refl _)
    refine ⟨h1, fun h => ?_⟩
    obtain ⟨h3, h4⟩ := h2 h
    refine ⟨h3, ?_⟩
    rw [← h4, List.drop_of_length_le (by omega), keepF, padB, Nat.sub_self, List.take_of_length_le (by omega)]
    simp
theorem free_find {j : Job} (hj : j.Ok) (a : List Int) (b : Nat) : freeF j a b = match findT j a b with | none => -1 | some t => (t : Int) := by
  have hkd := hj.kind
  have hlk : (j.g.w * j.g.h).toNat = j.g.kind.length := by omega
  unfold freeF
  rw [hlk]
  have hL : ∀ k : Nat, k < j.g.kind.length → ∃ h : k < ((List.range j.g.kind.length).map Int.ofNat).length, ((List.range j.g.kind.length).map Int.ofNat)[k] = (k : Int) := fun k hk => ⟨by simpa using hk, by simp⟩
  cases hf : findT j a b with
  | none =>
    unfold findT at hf
    rw [List.find?_eq_none] at hf
    refine fidx_none fun x hx => ?_
    obtain ⟨t, ht, rfl⟩ := List.mem_map.1 hx
    have := hf t ht
    rw [decide_not]
    simpa using this
  | some t =>
    obtain ⟨h1, h2, h3⟩ := findT_spec hf
    obtain ⟨hk, e⟩ := hL t h3
    have hmin : ∀ u : Nat, u < t → (suitsR j b u && !decide ((u : Int) ∈ a)) = false := fun u hu => by
      unfold findT at hf
      rw [List.find?_range_eq_some] at hf
      have := hf.2.2 u hu
      cases hc : (suitsR j b u && !decide ((u : Int) ∈ a))
      · rfl
      · rw [hc] at this; cases this
    refine fidx_some hk (fun x hx => ?_) (by rw [e, h1]; simp [h2])
    obtain ⟨u, hu, rfl⟩ := List.mem_take_iff_getElem.1 hx
    obtain ⟨hk2, e2⟩ := hL u (by omega)
    rw [e2, decide_not]
    exact hmin u (by omega)
end Go.Proofs.Ytbdamnfkgdbidaa
namespace Go.Proofs.Ytbdamnfkgdbidaa
open Go Go.Vc Txt
def roundsF (j : Job) (a kept : List Int) (bad : Bool) (passes : Int) : List Int × Int × Int :=
  if bad = true then ([], 0, 290) else match fillAll j [true, false] a with
    | none => ([], 0, 4)
    | some a' => ((improvedF j a' kept passes).1, 0, (improvedF j a' kept passes).2.2)
theorem fillStep_len {j : Job} {rd : Bool} {a a' : List Int} {b : Nat} (h : fillStep j rd a b = some a') : a'.length = a.length := by
  unfold fillStep at h
  split at h
  · cases h; rfl
  · split at h
    · cases h
    · cases h; simp
theorem bne_dec (b c : Bool) : decide (b ≠ c) = (b != c) := by cases b <;> cases c <;> rfl
set_option maxHeartbeats 2000000 in
theorem placeIn_tail (j : Job) (hj : j.Ok) (z : Start) (a kept : List Int) (ha : a.length = j.p.blocks.length) (hk : (kept.length : Int) ≤ 1000000) (bad : Bool) (st : St)
    (hst : st.keepS [0, 154, 2, 3, 4, 5, 6, 7, 8] = ⟨[(2, .ptr 2 0), (3, .ptr 3 0), (4, .ptr 4 0), (5, .int j.p.blocks.length), (6, .view 40 0 j.p.blocks.length), (7, .view 41 0 kept.length), (8, .bool bad)],
      [(2, jobC false j), (3, startC false z), (4, [.nil, .int 0, .int 0])], [(40, ⟨1, 3, ints a⟩), (41, ⟨1, 3, ints kept⟩)], []⟩) :
    awp (Env.of Try.prog) ac24e_r15 (retK [RV.cell 4 true 3] fun v => Sub v (.agg (placedC true (roundsF j a kept bad z.passes)))) st := by
  simp only [ac24e_r15, push_cast, reduceIte, Nat.reduceEqDiff, Nat.reduceAdd, Nat.reduceSub, Nat.reduceMul, Nat.reduceBEq, Nat.reduceLT, Nat.reduceLeDiff, reduceCtorEq, Int.reduceToNat, Int.reduceNeg, hst]
  have hnb := hj.nb
  unfold roundsF
  refine cond_of (fun h => ?_) fun h => ?_
  · rw [if_pos h]
    simp only [push_cast, reduceIte, Nat.reduceEqDiff, Nat.reduceAdd, Nat.reduceSub, Nat.reduceMul, Nat.reduceBEq, Nat.reduceLT, Nat.reduceLeDiff, reduceCtorEq, Int.reduceToNat, Int.reduceNeg]
    done
  rw [if_neg (by rw [h]; simp)]
  refine loop_of (fun m st => ∃ (r : Nat) (a' : List Int), r ≤ 2 ∧ m = 2 - r ∧ a'.length = j.p.blocks.length ∧ fillAll j ([true, false].drop r) a' = fillAll j [true, false] a ∧
    st = ⟨[(2, .ptr 2 0), (3, .ptr 3 0), (4, .ptr 4 0), (5, .int j.p.blocks.length), (6, .view 40 0 j.p.blocks.length), (7, .view 41 0 kept.length), (10, .int r)], [(2, jobC false j), (3, startC false z), (4, [.nil, .int 0, .int 0])], [(40, ⟨1, 3, ints a'⟩), (41, ⟨1, 3, ints kept⟩)], []⟩) 2 ?_ ?_
  · refine ⟨0, a, by omega, rfl, ha, rfl, ?_⟩
    simp only [push_cast, reduceIte, Nat.reduceEqDiff, Nat.reduceAdd, Nat.reduceSub, Nat.reduceMul, Nat.reduceBEq, Nat.reduceLT, Nat.reduceLeDiff, reduceCtorEq, Int.reduceToNat, Int.reduceNeg]
    done
  · rintro m st ⟨r, a', hr, rfl, ha', hF, rfl⟩
    simp only [push_cast, reduceIte, Nat.reduceEqDiff, Nat.reduceAdd, Nat.reduceSub, Nat.reduceMul, Nat.reduceBEq, Nat.reduceLT, Nat.reduceLeDiff, reduceCtorEq, Int.reduceToNat, Int.reduceNeg]
    refine cond_dec (fun h1 => ?_) fun h1 => ?_
    · have hr2 : r < 2 := by omega
      have hdr : [true, false].drop r = decide ((r : Int) = 0) :: [true, false].drop (r + 1) := by
        have : r = 0 ∨ r = 1 := by omega
        rcases this with rfl | rfl <;> rfl
      rw [hdr] at hF
      obtain ⟨rd, hrd⟩ : ∃ rd, decide ((r : Int) = 0) = rd := ⟨_, rfl⟩
      rw [hrd] at hF
      have hF : (match fillF j rd j.p.blocks.length 0 a' with | none => none | some a'' => fillAll j ([true, false].drop (r + 1)) a'') = fillAll j [true, false] a := hF
      refine loop_of (fun m st => ∃ (k : Nat) (a1 : List Int), k ≤ j.p.blocks.length ∧ m = j.p.blocks.length - k ∧ a1.length = j.p.blocks.length ∧ fillF j rd (j.p.blocks.length - k) k a1 = fillF j rd j.p.blocks.length 0 a' ∧
        st = ⟨[(2, .ptr 2 0), (3, .ptr 3 0), (4, .ptr 4 0), (5, .int j.p.blocks.length), (6, .view 40 0 j.p.blocks.length), (7, .view 41 0 kept.length), (10, .int r), (11, .int k)], [(2, jobC false j), (3, startC false z), (4, [.nil, .int 0, .int 0])], [(40, ⟨1, 3, ints a1⟩), (41, ⟨1, 3, ints kept⟩)], []⟩) j.p.blocks.length ?_ ?_
      · refine ⟨0, a', by omega, rfl, ha', rfl, ?_⟩
        simp only [push_cast, reduceIte, Nat.reduceEqDiff, Nat.reduceAdd, Nat.reduceSub, Nat.reduceMul, Nat.reduceBEq, Nat.reduceLT, Nat.reduceLeDiff, reduceCtorEq, Int.reduceToNat, Int.reduceNeg]
        done
      · rintro m st ⟨k, a1, hk1, rfl, ha1, hF1, rfl⟩
        simp only [push_cast, reduceIte, Nat.reduceEqDiff, Nat.reduceAdd, Nat.reduceSub, Nat.reduceMul, Nat.reduceBEq, Nat.reduceLT, Nat.reduceLeDiff, reduceCtorEq, Int.reduceToNat, Int.reduceNeg]
        refine cond_dec (fun h2 => ?_) fun h2 => ?_
        · have hk' : k < j.p.blocks.length := by omega
          have hstep : fillF j rd (j.p.blocks.length - k) k a1 = match fillStep j rd a1 k with | none => none | some a'' => fillF j rd (j.p.blocks.length - (k + 1)) (k + 1) a'' := by
            rw [show j.p.blocks.length - k = (j.p.blocks.length - (k + 1)) + 1 by omega]; rfl
          refine ⟨by omega, by omega, ?_⟩
          refine cut_of ⟨[(2, .ptr 2 0), (3, .ptr 3 0), (4, .ptr 4 0), (5, .int j.p.blocks.length), (6, .view 40 0 j.p.blocks.length), (7, .view 41 0 kept.length), (10, .int r), (11, .int k), (128, .bool (decide (0 ≤ a1.getD k default ∨ decide ((j.p.blocks.getD k default).ram ≠ -1) ≠ rd)))], [(2, jobC false j), (3, startC false z), (4, [.nil, .int 0, .int 0])], [(40, ⟨1, 3, ints a1⟩), (41, ⟨1, 3, ints kept⟩)], []⟩ ?_ ?_
          · refine grd_decf rfl (fun h3 => ?_) fun h3 => ?_ <;> simp only [push_cast, reduceIte, Nat.reduceEqDiff, Nat.reduceAdd, Nat.reduceSub, Nat.reduceMul, Nat.reduceBEq, Nat.reduceLT, Nat.reduceLeDiff, reduceCtorEq, Int.reduceToNat, Int.reduceNeg]
            · rw [decide_eq_true (show 0 ≤ a1.getD k default ∨ decide ((j.p.blocks.getD k default).ram ≠ -1) ≠ rd from .inl h3)]
            · refine ⟨by omega, hk', ?_⟩
              rw [hrd, show decide (0 ≤ a1.getD k default ∨ decide ((j.p.blocks.getD k default).ram ≠ -1) ≠ rd) = (decide ((j.p.blocks.getD k default).ram ≠ -1) != rd) from by
                rw [decide_eq_decide.2 (or_iff_right h3)]
                exact bne_dec _ _]
          · simp only [push_cast, reduceIte, Nat.reduceEqDiff, Nat.reduceAdd, Nat.reduceSub, Nat.reduceMul, Nat.reduceBEq, Nat.reduceLT, Nat.reduceLeDiff, reduceCtorEq, Int.reduceToNat, Int.reduceNeg]
            refine cond_dec (fun h3 => ?_) fun h3 => ?_
            · have hfs : fillStep j rd a1 k = some a1 := by rw [fillStep, if_pos h3]
              rw [hfs] at hstep
              refine ⟨by omega, _, ?_, k + 1, a1, by omega, rfl, ha1, by rw [← hF1, hstep], ?_⟩
              · omega
              · simp
            · have hfs : fillStep j rd a1 k = match findT j a1 k with | none => none | some t => some (a1.set k t) := by
                rw [fillStep, if_neg h3]
                cases findT j a1 k <;> rfl
              have hfree := free_find hj a1 k
              refine cal_sub (free_ok j hj a1 k (by omega)) ⟨.refl _, ?_, .refl _, trivial⟩ ?_
              · rw [List.take_of_length_le (by omega)]
                exact .refl _
              rw [hfree]
              cases hft : findT j a1 k with
              | none =>
                rw [hft] at hfs
                rw [hfs] at hstep
                rw [← hF1, hstep] at hF
                have hF : none = fillAll j [true, false] a := hF
                rw [← hF]
                simp only [push_cast, reduceIte, Nat.reduceEqDiff, Nat.reduceAdd, Nat.reduceSub, Nat.reduceMul, Nat.reduceBEq, Nat.reduceLT, Nat.reduceLeDiff, reduceCtorEq, Int.reduceToNat, Int.reduceNeg]
                refine ⟨by omega, by omega, by omega, by simp; omega, ?_⟩
                refine cond_dec (fun _ => ?_) fun h4 => absurd (by rw [getD_set_eq (by omega)]; decide) h4
                trivial
              | some t =>
                rw [hft] at hfs
                rw [hfs] at hstep
                simp only [push_cast, reduceIte, Nat.reduceEqDiff, Nat.reduceAdd, Nat.reduceSub, Nat.reduceMul, Nat.reduceBEq, Nat.reduceLT, Nat.reduceLeDiff, reduceCtorEq, Int.reduceToNat, Int.reduceNeg]
                refine ⟨by omega, by omega, by omega, by simp; omega, ?_⟩
                refine cond_dec (fun h4 => absurd h4 (by rw [getD_set_eq (by omega)]; omega)) fun _ => ?_
                refine ⟨by omega, _, ?_, k + 1, a1.set k t, by omega, rfl, by simp; omega, by rw [← hF1, hstep], ?_⟩
                · omega
                · simp
        · have hkk : k = j.p.blocks.length := by omega
          subst hkk
          rw [Nat.sub_self] at hF1
          have hF1 : some a1 = fillF j rd j.p.blocks.length 0 a' := hF1
          rw [← hF1] at hF
          refine ⟨by omega, _, ?_, r + 1, a1, by omega, rfl, ha1, hF, ?_⟩
          · omega
          · simp
    · have hr2 : r = 2 := by omega
      subst hr2
      have hF : some a' = fillAll j [true, false] a := hF
      rw [← hF]
      refine wk_of ⟨[(2, .ptr 2 0), (3, .ptr 3 0), (4, .ptr 4 0), (5, .int j.p.blocks.length), (6, .sl true 1 (ints a')), (7, .sl true 1 (ints kept)), (10, .int 2), (102, .int 2), (103, .bool false)], [(2, jobC false j), (3, startC false z), (4, [.nil, .int 0, .int 0])], [], []⟩ ?_ ?_
      · simp only [push_cast, reduceIte, Nat.reduceEqDiff, Nat.reduceAdd, Nat.reduceSub, Nat.reduceMul, Nat.reduceBEq, Nat.reduceLT, Nat.reduceLeDiff, reduceCtorEq, Int.reduceToNat, Int.reduceNeg]
        exact ⟨by rw [List.take_of_length_le (by omega)]; exact .refl _, by first | rfl | exact ⟨rfl, rfl, rfl⟩⟩
      · simp only [push_cast, reduceIte, Nat.reduceEqDiff, Nat.reduceAdd, Nat.reduceSub, Nat.reduceMul, Nat.reduceBEq, Nat.reduceLT, Nat.reduceLeDiff, reduceCtorEq, Int.reduceToNat, Int.reduceNeg]
        refine cal_sub (improveIn_r j hj ⟨a', kept, z.passes⟩ (by show (a'.length : Int) ≤ _; omega) hk) ⟨.refl _, Sub.aggL ⟨.refl _, .slp _ _ _ _ (fun h => by cases h), .refl _, trivial⟩, trivial⟩ ?_
        simp only [push_cast, reduceIte, Nat.reduceEqDiff, Nat.reduceAdd, Nat.reduceSub, Nat.reduceMul, Nat.reduceBEq, Nat.reduceLT, Nat.reduceLeDiff, reduceCtorEq, Int.reduceToNat, Int.reduceNeg]
        exact fun _ _ => trivial
end Go.Proofs.Ytbdamnfkgdbidaa
namespace Go.Proofs.Ytbdamnfkgdbidaa
open Go Go.Vc Txt
theorem placed_check {j : Job} {fx : List Int} (hl : fx.length = j.p.blocks.length ∨ fx.length = 0) (hF : Fits j) {s : List Int × List Int} (hk : keepF j fx 0 (List.replicate j.p.blocks.length (-1), []) = some s) {a : List Int} (hf : fillAll j [true, false] s.1 = some a) : checkF j a = 0 := by
  have hinit : SuitedP j (List.replicate j.p.blocks.length (-1)) := fun i hi hl => by
    rw [List.length_replicate] at hl
    simp [List.getD_eq_getElem?_getD, hl] at hi
  obtain ⟨k1, k2, k3, _, _⟩ := keepF_spec fx 0 _ s hk (by simp; omega) hinit
  have hpart := (keepF_part fx 0 _ s hk (part_init j)).1
  obtain ⟨hpl, hst⟩ := fillAll_pl hf hpart
  have hsu := fillAll_suit _ _ _ hf k1
  refine checkF_zero_iff.2 ⟨hF, hpl, fun i hi => hsu i ?_ hi⟩
  have := hpl.2.1 (a.getD i default) (by simp [List.getD_eq_getElem?_getD, hi])
  exact this.1
theorem rounds_place {j : Job} {fx : List Int} {p : Int} (h0 : ¬ (p < 0 ∨ 1000 < p ∨ ((fx.length : Int) ≠ 0 ∧ (fx.length : Int) ≠ j.p.blocks.length))) :
    roundsF j (goB j fx j.p.blocks.length).1 (goB j fx j.p.blocks.length).2.1 (goB j fx j.p.blocks.length).2.2 p = ((placeF j fx p).1, 0, (placeF j fx p).2) := by
  have hl : fx.length = j.p.blocks.length ∨ fx.length = 0 := by omega
  obtain ⟨h1, h2⟩ := goB_end hl
  have hpl : placeF j fx p = if ¬ Fits j then ([], 290) else match keepF j fx 0 (List.replicate j.p.blocks.length (-1), []) with | none => ([], 290) | some s => tailF j s.2 s.1 p := by
    rw [placeF, if_neg h0]
    cases keepF j fx 0 (List.replicate j.p.blocks.length (-1), []) <;> rfl
  rw [hpl]
  generalize goB j fx j.p.blocks.length = s at h1 h2 ⊢
  unfold roundsF
  cases hb : s.2.2 with
  | true =>
    rw [if_pos rfl]
    by_cases hF : Fits j
    · rw [if_neg (fun h => h hF), (h1 hb).resolve_left (fun h => h hF)]
    · rw [if_pos hF]
  | false =>
    obtain ⟨hF, hk⟩ := h2 hb
    rw [if_neg (by simp), if_neg (fun h => h hF), hk]
    simp only [tailF]
    cases hf : fillAll j [true, false] s.1 with
    | none => rfl
    | some a =>
      have hc := placed_check hl hF hk hf
      simp only
      rw [improvedF, if_neg (by omega), if_neg (fun h => h hc)]
set_option maxHeartbeats 2000000 in
theorem placeIn_r (j : Job) (hj : j.Ok) (z : Start) (hfx : (z.fixed.length : Int) ≤ 1000000) :
    FnEq Try.prog 24 [.agg (jobC false j), .agg (startC false z)] (.agg (placedC true ((placeF j z.fixed z.passes).1, 0, (placeF j z.fixed z.passes).2))) := by
  refine FnEq.of_awp Try.func24 ok24e (by show 2 ≤ _; decide) (by simp only [push_cast, reduceIte, Nat.reduceEqDiff, Nat.reduceAdd, Nat.reduceSub, Nat.reduceMul, Nat.reduceBEq, Nat.reduceLT, Nat.reduceLeDiff, reduceCtorEq, Int.reduceToNat, Int.reduceNeg] <;> first | exact fun _ _ => trivial | simp) ?_
  simp only [ac24e, rv24e, push_cast, reduceIte, Nat.reduceEqDiff, Nat.reduceAdd, Nat.reduceSub, Nat.reduceMul, Nat.reduceBEq, Nat.reduceLT, Nat.reduceLeDiff, reduceCtorEq, Int.reduceToNat, Int.reduceNeg]
  have hnb := hj.nb
  refine cut_of ⟨[(2, .ptr 2 0), (3, .ptr 3 0), (4, .ptr 4 0), (5, .int j.p.blocks.length), (37, .bool (decide (z.passes < 0 ∨ 1000 < z.passes ∨ ((z.fixed.length : Int) ≠ 0 ∧ (z.fixed.length : Int) ≠ j.p.blocks.length))))], [(2, jobC false j), (3, startC false z), (4, [.nil, .int 0, .int 0])], [], []⟩ ?_ ?_
  · refine grd_decf rfl (fun h3 => ?_) fun h3 => ?_ <;> simp only [push_cast, reduceIte, Nat.reduceEqDiff, Nat.reduceAdd, Nat.reduceSub, Nat.reduceMul, Nat.reduceBEq, Nat.reduceLT, Nat.reduceLeDiff, reduceCtorEq, Int.reduceToNat, Int.reduceNeg]
    · rw [decide_eq_true (.inl h3)]
      done
    · refine grd_decf rfl (fun h4 => ?_) fun h4 => ?_ <;> simp only [push_cast, reduceIte, Nat.reduceEqDiff, Nat.reduceAdd, Nat.reduceSub, Nat.reduceMul, Nat.reduceBEq, Nat.reduceLT, Nat.reduceLeDiff, reduceCtorEq, Int.reduceToNat, Int.reduceNeg]
      · rw [decide_eq_true (.inr (.inl h4))]
        done
      · refine grd_dec rfl (fun h5 => ?_) fun h5 => ?_ <;> simp only [push_cast, reduceIte, Nat.reduceEqDiff, Nat.reduceAdd, Nat.reduceSub, Nat.reduceMul, Nat.reduceBEq, Nat.reduceLT, Nat.reduceLeDiff, reduceCtorEq, Int.reduceToNat, Int.reduceNeg]
        · rw [decide_eq_decide.2 (show (z.passes < 0 ∨ 1000 < z.passes ∨ ((z.fixed.length : Int) ≠ 0 ∧ (z.fixed.length : Int) ≠ j.p.blocks.length)) ↔ (z.fixed.length : Int) ≠ j.p.blocks.length from by
            rw [or_iff_right h3, or_iff_right h4, and_iff_right h5])]
        · rw [decide_eq_false (show ¬ (z.passes < 0 ∨ 1000 < z.passes ∨ ((z.fixed.length : Int) ≠ 0 ∧ (z.fixed.length : Int) ≠ j.p.blocks.length)) from by
            rintro (h6 | h6 | h6)
            · exact h3 h6
            · exact h4 h6
            · exact h5 h6.1)]
  simp only [push_cast, reduceIte, Nat.reduceEqDiff, Nat.reduceAdd, Nat.reduceSub, Nat.reduceMul, Nat.reduceBEq, Nat.reduceLT, Nat.reduceLeDiff, reduceCtorEq, Int.reduceToNat, Int.reduceNeg]
  refine cond_dec (fun h => ?_) fun h => ?_
  · rw [placeF, if_pos h]
    simp only [push_cast, reduceIte, Nat.reduceEqDiff, Nat.reduceAdd, Nat.reduceSub, Nat.reduceMul, Nat.reduceBEq, Nat.reduceLT, Nat.reduceLeDiff, reduceCtorEq, Int.reduceToNat, Int.reduceNeg]
    done
  have hq : [PV.sl true 1 (ints (placeF j z.fixed z.passes).1), .int 0, .int (placeF j z.fixed z.passes).2] = placedC true (roundsF j (goB j z.fixed j.p.blocks.length).1 (goB j z.fixed j.p.blocks.length).2.1 (goB j z.fixed j.p.blocks.length).2.2 z.passes) := by
    rw [rounds_place h]; rfl
  rw [hq]
  have h1 := hj.ins
  have h2 := hj.outs
  have e0 : List.replicate 0 (0 : Int) = [] := rfl
  refine ⟨by omega, ?_⟩
  refine cal_sub (fits_ok j (by omega) (by omega)) ⟨.refl _, trivial⟩ ?_
  simp only [e0, List.length_replicate, push_cast, reduceIte, Nat.reduceEqDiff, Nat.reduceAdd, Nat.reduceSub, Nat.reduceMul, Nat.reduceBEq, Nat.reduceLT, Nat.reduceLeDiff, reduceCtorEq, Int.reduceToNat, Int.reduceNeg]
  refine loop_of (fun m st => ∃ i : Nat, i ≤ j.p.blocks.length ∧ m = j.p.blocks.length - i ∧
    st = ⟨[(2, .ptr 2 0), (3, .ptr 3 0), (4, .ptr 4 0), (5, .int j.p.blocks.length), (6, .view 40 0 j.p.blocks.length), (7, .view 41 0 (goB j z.fixed i).2.1.length), (8, .bool (goB j z.fixed i).2.2), (9, .int i)],
      [(2, jobC false j), (3, startC false z), (4, [.nil, .int 0, .int 0])], [(40, ⟨1, 3, ints (goB j z.fixed i).1⟩), (41, ⟨1, 3, ints (goB j z.fixed i).2.1⟩)], []⟩) j.p.blocks.length ?_ ?_
  · refine ⟨0, by omega, by omega, ?_⟩
    simp only [push_cast, reduceIte, Nat.reduceEqDiff, Nat.reduceAdd, Nat.reduceSub, Nat.reduceMul, Nat.reduceBEq, Nat.reduceLT, Nat.reduceLeDiff, reduceCtorEq, Int.reduceToNat, Int.reduceNeg]
    rfl
  · rintro m st ⟨i, hi, rfl, rfl⟩
    obtain ⟨hl1, hl2⟩ := goB_len j z.fixed i
    have hsucc := goB_succ j z.fixed i
    obtain ⟨s, hse⟩ : ∃ s, goB j z.fixed i = s := ⟨_, rfl⟩
    rw [hse] at hl1 hl2 hsucc ⊢
    simp only [push_cast, reduceIte, Nat.reduceEqDiff, Nat.reduceAdd, Nat.reduceSub, Nat.reduceMul, Nat.reduceBEq, Nat.reduceLT, Nat.reduceLeDiff, reduceCtorEq, Int.reduceToNat, Int.reduceNeg]
    refine cond_dec (fun h3 => ?_) fun h3 => ?_
    · have hi' : i < j.p.blocks.length := by omega
      refine ⟨by omega, by omega, ?_⟩
      refine cut_of ⟨[(2, .ptr 2 0), (3, .ptr 3 0), (4, .ptr 4 0), (5, .int j.p.blocks.length), (6, .view 40 0 j.p.blocks.length), (7, .view 41 0 s.2.1.length), (8, .bool s.2.2), (9, .int i), (64, .bool (decide (z.fixed.length = 0 ∨ z.fixed.getD i default = -1)))],
        [(2, jobC false j), (3, startC false z), (4, [.nil, .int 0, .int 0])], [(40, ⟨1, 3, ints (s.1.set i (-1))⟩), (41, ⟨1, 3, ints s.2.1⟩)], []⟩ ?_ ?_
      · refine grd_decf rfl (fun h4 => ?_) fun h4 => ?_ <;> simp only [push_cast, reduceIte, Nat.reduceEqDiff, Nat.reduceAdd, Nat.reduceSub, Nat.reduceMul, Nat.reduceBEq, Nat.reduceLT, Nat.reduceLeDiff, reduceCtorEq, Int.reduceToNat, Int.reduceNeg]
        · rw [decide_eq_true (show z.fixed.length = 0 ∨ z.fixed.getD i default = -1 from .inl (by omega))]
        · refine ⟨by omega, by omega, ?_⟩
          rw [decide_eq_decide.2 (show (z.fixed.length = 0 ∨ z.fixed.getD i default = -1) ↔ z.fixed.getD i default = -1 from or_iff_right (by omega))]
      · simp only [push_cast, reduceIte, Nat.reduceEqDiff, Nat.reduceAdd, Nat.reduceSub, Nat.reduceMul, Nat.reduceBEq, Nat.reduceLT, Nat.reduceLeDiff, reduceCtorEq, Int.reduceToNat, Int.reduceNeg]
        refine cond_dec (fun h4 => ?_) fun h4 => ?_
        · rw [stepB, if_pos h4] at hsucc
          refine ⟨by omega, _, ?_, i + 1, by omega, rfl, ?_⟩
          · omega
          · rw [hsucc]; simp
        · rw [stepB, if_neg h4] at hsucc
          have hfl : i < z.fixed.length := by omega
          obtain ⟨x, hx⟩ : ∃ x, z.fixed.getD i default = x := ⟨_, rfl⟩
          rw [hx] at h4 hsucc
          refine dcut_of ⟨[(2, .ptr 2 0), (3, .ptr 3 0), (4, .ptr 4 0), (5, .int j.p.blocks.length), (6, .view 40 0 j.p.blocks.length), (7, .view 41 0 s.2.1.length), (8, .bool ((s.2.2 || !suitsR j i x) || decide (x ∈ (s.1.set i (-1)).take i))), (9, .int i)],
            [(2, jobC false j), (3, startC false z), (4, [.nil, .int 0, .int 0])], [(40, ⟨1, 3, ints (s.1.set i (-1))⟩), (41, ⟨1, 3, ints s.2.1⟩)], []⟩ ?_ ?_
          · cases hb : s.2.2
            · simp only [push_cast, reduceIte, Nat.reduceEqDiff, Nat.reduceAdd, Nat.reduceSub, Nat.reduceMul, Nat.reduceBEq, Nat.reduceLT, Nat.reduceLeDiff, reduceCtorEq, Int.reduceToNat, Int.reduceNeg, hx]
              refine ⟨by omega, hfl, ?_⟩
              refine cal_sub (suits_ok j hj i x) ⟨.refl _, .refl _, .refl _, trivial⟩ ?_
              cases hsu : suitsR j i x
              · simp only [push_cast, reduceIte, Nat.reduceEqDiff, Nat.reduceAdd, Nat.reduceSub, Nat.reduceMul, Nat.reduceBEq, Nat.reduceLT, Nat.reduceLeDiff, reduceCtorEq, Int.reduceToNat, Int.reduceNeg]
                done
              · simp only [push_cast, reduceIte, Nat.reduceEqDiff, Nat.reduceAdd, Nat.reduceSub, Nat.reduceMul, Nat.reduceBEq, Nat.reduceLT, Nat.reduceLeDiff, reduceCtorEq, Int.reduceToNat, Int.reduceNeg, hx]
                refine ⟨by omega, by omega, hfl, ?_⟩
                refine cal_sub (in_ok ((s.1.set i (-1)).take i) x (by simp; omega)) ⟨?_, .refl _, trivial⟩ ?_
                · exact .refl _
                · simp only [push_cast, reduceIte, Nat.reduceEqDiff, Nat.reduceAdd, Nat.reduceSub, Nat.reduceMul, Nat.reduceBEq, Nat.reduceLT, Nat.reduceLeDiff, reduceCtorEq, Int.reduceToNat, Int.reduceNeg]
            · simp only [push_cast, reduceIte, Nat.reduceEqDiff, Nat.reduceAdd, Nat.reduceSub, Nat.reduceMul, Nat.reduceBEq, Nat.reduceLT, Nat.reduceLeDiff, reduceCtorEq, Int.reduceToNat, Int.reduceNeg]
          · simp only [push_cast, reduceIte, Nat.reduceEqDiff, Nat.reduceAdd, Nat.reduceSub, Nat.reduceMul, Nat.reduceBEq, Nat.reduceLT, Nat.reduceLeDiff, reduceCtorEq, Int.reduceToNat, Int.reduceNeg, hx]
            refine ⟨by omega, hfl, by omega, by simp; omega, by simp, by omega, by omega, _, ?_, i + 1, by omega, rfl, ?_⟩
            · omega
            · rw [hsucc]; simp
    · have hii : i = j.p.blocks.length := by omega
      subst hii
      rw [hse]
      refine placeIn_tail j hj z s.1 s.2.1 hl1 (by omega) s.2.2 _ ?_
      simp only [push_cast, reduceIte, Nat.reduceEqDiff, Nat.reduceAdd, Nat.reduceSub, Nat.reduceMul, Nat.reduceBEq, Nat.reduceLT, Nat.reduceLeDiff, reduceCtorEq, Int.reduceToNat, Int.reduceNeg]
end Go.Proofs.Ytbdamnfkgdbidaa
namespace Go.Proofs.Ytbdamnfkgdbidaa.Txt
open Go Go.Vc
set_option maxRecDepth 100000
def ac3f_r22 : AC :=
 (.seq (.drw [0, 220, 5, 7, 8, 11, 12, 13, 14, 15] [
 ⟨⟨some 110, none, .mv (.t 11)⟩, [], [], true⟩, ⟨⟨some 111, none, .mv (.t 12)⟩, [], [], true⟩, ⟨⟨some 112, none, .ixs 11 (.t 110) (.t 111)⟩, [], [], true⟩, ⟨⟨some 113, none, .ld true 11 (.t 112)⟩, [], [], true⟩, ⟨⟨some 114, none, .mv (.t 13)⟩, [], [], true⟩, ⟨⟨some 115, none, .mv (.t 14)⟩, [], [], true⟩, ⟨⟨some 116, none, .ixs 1 (.t 114) (.t 115)⟩, [], [], true⟩, ⟨⟨some 117, none, .ld false 1 (.t 116)⟩, [], [], true⟩, ⟨⟨some 118, none, .cal 15 [(.t 113), (.t 117)]⟩, [], [], true⟩, ⟨⟨some 119, none, .mv (.t 11)⟩, [], [], true⟩, ⟨⟨some 120, none, .mv (.t 12)⟩, [], [], true⟩, ⟨⟨some 121, none, .ixs 11 (.t 119) (.t 120)⟩, [], [], true⟩, ⟨⟨some 122, none, .ld true 11 (.t 121)⟩, [], [], true⟩, ⟨⟨some 123, none, .mv (.t 13)⟩, [], [], true⟩, ⟨⟨some 124, none, .mv (.t 14)⟩, [], [], true⟩, ⟨⟨some 125, none, .ixs 1 (.t 123) (.t 124)⟩, [], [], true⟩, ⟨⟨some 126, none, .ld false 1 (.t 125)⟩, [], [], true⟩, ⟨⟨some 127, none, .cal 16 [(.t 122), (.t 126)]⟩, [], [], false⟩, ⟨⟨some 128, none, .cmp .neq .i64 (.t 118) (.t 127)⟩, [], [], false⟩, ⟨⟨some 129, none, .mv (.t 128)⟩, [], [], false⟩, ⟨⟨some 130, some (129, false), .mv (.t 11)⟩, [], [], true⟩, ⟨⟨some 131, some (129, false), .mv (.t 12)⟩, [], [], true⟩, ⟨⟨some 132, some (129, false), .ixs 11 (.t 130) (.t 131)⟩, [], [], true⟩, ⟨⟨some 133, some (129, false), .ld true 11 (.t 132)⟩, [], [], true⟩, ⟨⟨some 134, some (129, false), .mv (.t 13)⟩, [], [], true⟩, ⟨⟨some 135, some (129, false), .mv (.t 14)⟩, [], [], true⟩, ⟨⟨some 136, some (129, false), .ixs 1 (.t 134) (.t 135)⟩, [], [], true⟩, ⟨⟨some 137, some (129, false), .ld false 1 (.t 136)⟩, [], [], true⟩, ⟨⟨some 138, some (129, false), .cal 17 [(.t 133), (.t 137)]⟩, [], [], true⟩, ⟨⟨some 139, some (129, false), .mv (.t 11)⟩, [], [], true⟩, ⟨⟨some 140, some (129, false), .mv (.t 12)⟩, [], [], true⟩, ⟨⟨some 141, some (129, false), .ixs 11 (.t 139) (.t 140)⟩, [], [], true⟩, ⟨⟨some 142, some (129, false), .ld true 11 (.t 141)⟩, [], [], true⟩, ⟨⟨some 143, some (129, false), .mv (.t 13)⟩, [], [], true⟩, ⟨⟨some 144, some (129, false), .mv (.t 14)⟩, [], [], true⟩, ⟨⟨some 145, some (129, false), .ixs 1 (.t 143) (.t 144)⟩, [], [], true⟩, ⟨⟨some 146, some (129, false), .ld false 1 (.t 145)⟩, [], [], true⟩, ⟨⟨some 147, some (129, false), .cal 18 [(.t 142), (.t 146)]⟩, [], [], false⟩, ⟨⟨some 148, some (129, false), .eqa true 2 (.t 138) (.t 147)⟩, [], [], false⟩, ⟨⟨some 149, none, .pick (.t 129) (.c (.sc (.bool true))) (.t 148)⟩, [], [], false⟩, ⟨⟨some 150, none, .mv (.t 149)⟩, [], [], false⟩, ⟨⟨some 151, some (150, false), .mv (.t 11)⟩, [], [], true⟩, ⟨⟨some 152, some (150, false), .mv (.t 12)⟩, [], [], true⟩, ⟨⟨some 153, some (150, false), .ixs 11 (.t 151) (.t 152)⟩, [], [], true⟩, ⟨⟨some 154, some (150, false), .ld true 11 (.t 153)⟩, [], [], true⟩, ⟨⟨some 155, some (150, false), .ld true 3 (.t 15)⟩, [], [], true⟩, ⟨⟨some 156, some (150, false), .cal 20 [(.t 154), (.t 155)]⟩, [], [], true⟩, ⟨⟨some 157, some (150, false), .mv (.t 11)⟩, [], [], true⟩, ⟨⟨some 158, some (150, false), .mv (.t 12)⟩, [], [], true⟩, ⟨⟨some 159, some (150, false), .ixs 11 (.t 157) (.t 158)⟩, [], [], true⟩, ⟨⟨some 160, some (150, false), .ld true 11 (.t 159)⟩, [], [], true⟩, ⟨⟨some 161, some (150, false), .ld true 3 (.t 15)⟩, [], [], true⟩, ⟨⟨some 162, some (150, false), .cal 21 [(.t 160), (.t 161)]⟩, [], [], false⟩, ⟨⟨some 163, some (150, false), .cal 19 [(.t 156), (.t 162)]⟩, [], [], false⟩, ⟨⟨some 164, some (150, false), .not (.t 163)⟩, [], [], false⟩, ⟨⟨some 165, none, .pick (.t 150) (.c (.sc (.bool true))) (.t 164)⟩, [], [], false⟩])
 (.cut [0, 220, 5, 7, 8, 11, 12, 13, 14, 165] (.cond (.t 165)
 (.seq (.reg [0, 220] [
 ⟨some 6, none, .mv (.c (.sc (.bool false)))⟩])
 .ret)
 .skip)))
def ac3f_r24 : AC :=
 (.seq (.drw [0, 220, 5, 7, 8, 11, 12] [
 ⟨⟨some 166, none, .mv (.t 11)⟩, [], [], true⟩, ⟨⟨some 167, none, .mv (.t 12)⟩, [], [], true⟩, ⟨⟨some 168, none, .ixs 11 (.t 166) (.t 167)⟩, [], [], true⟩, ⟨⟨some 169, none, .ld true 11 (.t 168)⟩, [], [], true⟩, ⟨⟨some 170, none, .fa 2 (.t 5)⟩, [], [], true⟩, ⟨⟨some 171, none, .ld false 1 (.t 170)⟩, [], [], true⟩, ⟨⟨some 172, none, .cal 22 [(.t 169), (.t 171)]⟩, [], [], true⟩, ⟨⟨some 173, none, .fa 3 (.t 5)⟩, [], [], true⟩, ⟨⟨some 174, none, .ld false 1 (.t 173)⟩, [], [], true⟩, ⟨⟨some 175, none, .bsl 1 28 [.nil] 3 [(0, (.c (.nil))), (1, (.t 172)), (2, (.t 174))]⟩, [], [], false⟩, ⟨⟨some 16, none, .mv (.t 175)⟩, [], [], false⟩])
 (.seq (.frz [] (.wk (.reg [0, 220, 5, 7, 8, 11, 12, 16] [
 ⟨some 17, none, .mv (.c (.sc (.int .i64 0)))⟩])))
 (.block 4
 (.loop [0, 220, 5, 7, 8, 11, 12, 16, 17]
 (.seq (.seq (.reg [0, 220, 5, 7, 8, 11, 12, 16, 17] [
 ⟨some 176, none, .mv (.t 17)⟩, ⟨some 177, none, .mv (.t 16)⟩, ⟨some 178, none, .len (.t 177)⟩, ⟨some 179, none, .cmp .lss .i64 (.t 176) (.t 178)⟩])
 (.cond (.t 179)
 .skip
 (.exit 4)))
 (.seq (.block 5
 (.seq (.drw [0, 220, 5, 7, 8, 11, 12, 16, 17] [
 ⟨⟨some 182, none, .mv (.t 16)⟩, [], [18], true⟩, ⟨⟨some 183, none, .mv (.t 17)⟩, [], [18], true⟩, ⟨⟨some 184, none, .ixs 1 (.t 182) (.t 183)⟩, [], [18], true⟩, ⟨⟨some 185, none, .ld false 1 (.t 184)⟩, [], [18], true⟩, ⟨⟨some 186, none, .fa 7 (.t 5)⟩, [], [18], true⟩, ⟨⟨some 187, none, .ld false 1 (.t 186)⟩, [], [18], true⟩, ⟨⟨some 188, none, .mn false (.t 187) (.c (.sc (.int .i64 3)))⟩, [], [18], true⟩, ⟨⟨some 189, none, .bld [.nil, .nil, .sc (.int .i64 0)] [(1, 1, (.t 185)), (2, 1, (.t 188))]⟩, [], [18], true⟩, ⟨⟨some 18, none, .alc [.nil, .nil, .sc (.int .i64 0)]⟩, [18], [], true⟩, ⟨⟨none, none, .sto 3 (.t 18) (.t 189)⟩, [], [], false⟩])
 (.seq (.drw [0, 220, 5, 7, 8, 11, 12, 16, 17, 18] [
 ⟨⟨some 190, none, .mv (.t 11)⟩, [], [], true⟩, ⟨⟨some 191, none, .mv (.t 12)⟩, [], [], true⟩, ⟨⟨some 192, none, .ixs 11 (.t 190) (.t 191)⟩, [], [], true⟩, ⟨⟨some 193, none, .ld true 11 (.t 192)⟩, [], [], true⟩, ⟨⟨some 194, none, .ld true 3 (.t 18)⟩, [], [], true⟩, ⟨⟨some 195, none, .cal 23 [(.t 193), (.t 194)]⟩, [], [], true⟩, ⟨⟨some 196, none, .mv (.t 11)⟩, [], [], true⟩, ⟨⟨some 197, none, .mv (.t 12)⟩, [], [], true⟩, ⟨⟨some 198, none, .ixs 11 (.t 196) (.t 197)⟩, [], [], true⟩, ⟨⟨some 199, none, .ld true 11 (.t 198)⟩, [], [], true⟩, ⟨⟨some 200, none, .ld true 3 (.t 18)⟩, [], [], true⟩, ⟨⟨some 201, none, .cal 24 [(.t 199), (.t 200)]⟩, [], [], false⟩, ⟨⟨some 202, none, .cal 19 [(.t 195), (.t 201)]⟩, [], [], false⟩, ⟨⟨some 203, none, .not (.t 202)⟩, [], [], false⟩])
 (.cond (.t 203)
 (.seq (.reg [0, 220] [
 ⟨some 6, none, .mv (.c (.sc (.bool false)))⟩])
 .ret)
 .skip))))
 (.reg [0, 220, 5, 7, 8, 11, 12, 16, 17] [
 ⟨some 180, none, .mv (.t 17)⟩, ⟨some 181, none, .ari .add true .i64 (.t 180) (.c (.sc (.int .i64 1)))⟩, ⟨some 17, none, .mv (.t 181)⟩])))))))
def ac3f_r12 : AC :=
 (.seq (.seq (.reg [0, 220, 5, 7, 8, 11] [
 ⟨some 12, none, .mv (.c (.sc (.int .i64 0)))⟩])
 (.block 0
 (.loop [0, 220, 5, 7, 8, 11, 12]
 (.seq (.seq (.reg [0, 220, 5, 7, 8, 11, 12] [
 ⟨some 71, none, .mv (.t 12)⟩, ⟨some 72, none, .mv (.t 11)⟩, ⟨some 73, none, .len (.t 72)⟩, ⟨some 74, none, .cmp .lss .i64 (.t 71) (.t 73)⟩])
 (.cond (.t 74)
 .skip
 (.exit 0)))
 (.seq (.block 1
 (.seq (.drw [0, 220, 5, 7, 8, 11, 12] [
 ⟨⟨some 77, none, .mv (.t 11)⟩, [], [], true⟩, ⟨⟨some 78, none, .mv (.t 12)⟩, [], [], true⟩, ⟨⟨some 79, none, .ixs 11 (.t 77) (.t 78)⟩, [], [], true⟩, ⟨⟨some 80, none, .ld true 11 (.t 79)⟩, [], [], true⟩, ⟨⟨some 81, none, .fa 1 (.t 5)⟩, [], [], true⟩, ⟨⟨some 82, none, .ld false 1 (.t 81)⟩, [], [], true⟩, ⟨⟨some 83, none, .cal 14 [(.t 80), (.t 82)]⟩, [], [], true⟩, ⟨⟨some 84, none, .fa 3 (.t 5)⟩, [], [], true⟩, ⟨⟨some 85, none, .ld false 1 (.t 84)⟩, [], [], true⟩, ⟨⟨some 86, none, .fa 4 (.t 5)⟩, [], [], true⟩, ⟨⟨some 87, none, .ld false 1 (.t 86)⟩, [], [], true⟩, ⟨⟨some 88, none, .bsl 1 28 [.nil] 3 [(0, (.t 83)), (1, (.t 85)), (2, (.t 87))]⟩, [], [], false⟩, ⟨⟨some 13, none, .mv (.t 88)⟩, [], [], false⟩])
 (.seq (.seq (.reg [0, 220, 5, 7, 8, 11, 12, 13] [
 ⟨some 14, none, .mv (.c (.sc (.int .i64 0)))⟩])
 (.block 2
 (.loop [0, 220, 5, 7, 8, 11, 12, 13, 14]
 (.seq (.seq (.reg [0, 220, 5, 7, 8, 11, 12, 13, 14] [
 ⟨some 89, none, .mv (.t 14)⟩, ⟨some 90, none, .mv (.t 13)⟩, ⟨some 91, none, .len (.t 90)⟩, ⟨some 92, none, .cmp .lss .i64 (.t 89) (.t 91)⟩])
 (.cond (.t 92)
 .skip
 (.exit 2)))
 (.seq (.block 3
 (.seq (.drw [0, 220, 5, 7, 8, 11, 12, 13, 14] [
 ⟨⟨some 95, none, .mv (.t 13)⟩, [], [15], true⟩, ⟨⟨some 96, none, .mv (.t 14)⟩, [], [15], true⟩, ⟨⟨some 97, none, .ixs 1 (.t 95) (.t 96)⟩, [], [15], true⟩, ⟨⟨some 98, none, .ld false 1 (.t 97)⟩, [], [15], true⟩, ⟨⟨some 99, none, .fa 4 (.t 5)⟩, [], [15], true⟩, ⟨⟨some 100, none, .ld false 1 (.t 99)⟩, [], [15], true⟩, ⟨⟨some 101, none, .fa 7 (.t 5)⟩, [], [15], true⟩, ⟨⟨some 102, none, .ld false 1 (.t 101)⟩, [], [15], true⟩, ⟨⟨some 103, none, .mn false (.t 102) (.c (.sc (.int .i64 3)))⟩, [], [15], true⟩, ⟨⟨some 104, none, .bld [.nil, .nil, .sc (.int .i64 0)] [(0, 1, (.t 98)), (1, 1, (.t 100)), (2, 1, (.t 103))]⟩, [], [15], true⟩, ⟨⟨some 15, none, .alc [.nil, .nil, .sc (.int .i64 0)]⟩, [15], [], true⟩, ⟨⟨none, none, .sto 3 (.t 15) (.t 104)⟩, [], [], false⟩])
 (.seq (.seq (.reg [0, 220, 5, 7, 8, 11, 12, 13, 14, 15] [
 ⟨some 105, none, .mv (.t 14)⟩, ⟨some 106, none, .cmp .gtr .i64 (.t 105) (.c (.sc (.int .i64 0)))⟩])
 (.cond (.t 106)
 (.reg [0, 220, 5, 7, 8, 11, 12, 13, 14, 15] [
 ⟨some 107, none, .fa 7 (.t 5)⟩, ⟨some 108, none, .ld false 1 (.t 107)⟩, ⟨some 109, none, .fa 2 (.t 15)⟩, ⟨none, none, .sto 1 (.t 109) (.t 108)⟩])
 .skip))
 ac3f_r22)))
 (.reg [0, 220, 5, 7, 8, 11, 12, 13, 14] [
 ⟨some 93, none, .mv (.t 14)⟩, ⟨some 94, none, .ari .add true .i64 (.t 93) (.c (.sc (.int .i64 1)))⟩, ⟨some 14, none, .mv (.t 94)⟩]))))))
 ac3f_r24)))
 (.reg [0, 220, 5, 7, 8, 11, 12] [
 ⟨some 75, none, .mv (.t 12)⟩, ⟨some 76, none, .ari .add true .i64 (.t 75) (.c (.sc (.int .i64 1)))⟩, ⟨some 12, none, .mv (.t 76)⟩]))))))
 (.seq (.reg [0, 220, 7, 8] [
 ⟨some 204, none, .bld [.nil, .nil, .sc (.int .i64 0)] [(2, 1, (.c (.sc (.int .i64 1001))))]⟩, ⟨some 19, none, .alc [.nil, .nil, .sc (.int .i64 0)]⟩, ⟨none, none, .sto 3 (.t 19) (.t 204)⟩])
 (.seq (.reg [0, 220, 7, 8, 19] [
 ⟨some 205, none, .ld true 11 (.t 8)⟩, ⟨some 206, none, .ld true 3 (.t 19)⟩, ⟨some 207, none, .cal 23 [(.t 205), (.t 206)]⟩, ⟨some 208, none, .fl false 2 1 (.t 207)⟩, ⟨some 209, none, .cmp .eql .i64 (.t 208) (.c (.sc (.int .i64 1)))⟩, ⟨some 210, none, .mv (.t 209)⟩, ⟨some 211, some (210, true), .ld true 11 (.t 8)⟩, ⟨some 212, some (210, true), .ld true 3 (.t 19)⟩, ⟨some 213, some (210, true), .cal 20 [(.t 211), (.t 212)]⟩, ⟨some 214, some (210, true), .fl false 2 1 (.t 213)⟩, ⟨some 215, some (210, true), .cmp .eql .i64 (.t 214) (.c (.sc (.int .i64 1)))⟩, ⟨some 216, none, .pick (.t 210) (.t 215) (.c (.sc (.bool false)))⟩, ⟨some 217, none, .mv (.t 216)⟩, ⟨some 218, some (217, true), .mv (.t 7)⟩, ⟨some 219, none, .pick (.t 217) (.t 218) (.c (.sc (.bool false)))⟩, ⟨some 6, none, .mv (.t 219)⟩])
 .ret)))
def ac3f : AC :=
 (.seq (.reg [0, 220, 0, 1, 2] [
 ⟨some 3, none, .box (.t 0)⟩, ⟨some 4, none, .box (.t 1)⟩, ⟨some 5, none, .box (.t 2)⟩, ⟨some 6, none, .mv (.c (.sc (.bool false)))⟩])
 (.seq (.reg [0, 220, 3, 4, 5] [
 ⟨some 20, none, .cal 9 []⟩, ⟨some 7, none, .mv (.t 20)⟩])
 (.seq (.seq (.reg [0, 220, 3, 4, 5, 7] [
 ⟨some 21, none, .mv (.t 7)⟩, ⟨some 22, none, .not (.t 21)⟩, ⟨some 23, none, .mv (.t 22)⟩, ⟨some 24, some (23, false), .ld true 3 (.t 3)⟩, ⟨some 25, some (23, false), .ld true 5 (.t 4)⟩, ⟨some 26, some (23, false), .ld true 8 (.t 5)⟩, ⟨some 27, some (23, false), .cal 10 [(.t 24), (.t 25), (.t 26)]⟩, ⟨some 28, some (23, false), .not (.t 27)⟩, ⟨some 29, none, .pick (.t 23) (.c (.sc (.bool true))) (.t 28)⟩])
 (.cut [0, 220, 3, 4, 5, 7, 29] (.cond (.t 29)
 (.seq (.reg [0, 220, 7] [
 ⟨some 30, none, .mv (.t 7)⟩, ⟨some 6, none, .mv (.t 30)⟩])
 .ret)
 .skip)))
 (.seq (.reg [0, 220, 3, 4, 5, 7] [
 ⟨some 31, none, .ld true 3 (.t 3)⟩, ⟨some 32, none, .ld true 5 (.t 4)⟩, ⟨some 33, none, .ld true 8 (.t 5)⟩, ⟨some 34, none, .cal 11 [(.t 31), (.t 32), (.t 33)]⟩, ⟨some 8, none, .alc [.nil, .nil, .nil, .nil, .sc (.int .i64 0), .sc (.int .i64 0), .sc (.int .i64 0), .sc (.int .i64 0), .nil, .nil, .nil]⟩, ⟨none, none, .sto 11 (.t 8) (.t 34)⟩])
 (.seq (.seq (.drw [0, 220, 5, 7, 8] [
 ⟨⟨some 35, none, .fa 0 (.t 8)⟩, [], [], true⟩, ⟨⟨some 36, none, .ld true 4 (.t 35)⟩, [], [], true⟩, ⟨⟨some 37, none, .fa 4 (.t 8)⟩, [], [], true⟩, ⟨⟨some 38, none, .ld true 5 (.t 37)⟩, [], [], true⟩, ⟨⟨some 39, none, .fa 9 (.t 8)⟩, [], [], true⟩, ⟨⟨some 40, none, .ld true 2 (.t 39)⟩, [], [], true⟩, ⟨⟨some 41, none, .fa 5 (.t 5)⟩, [], [], true⟩, ⟨⟨some 42, none, .ld false 1 (.t 41)⟩, [], [], true⟩, ⟨⟨some 43, none, .fa 6 (.t 5)⟩, [], [], true⟩, ⟨⟨some 44, none, .ld false 1 (.t 43)⟩, [], [], true⟩, ⟨⟨some 45, none, .cal 12 [(.t 36), (.t 38), (.t 40), (.t 42), (.t 44)]⟩, [], [], true⟩, ⟨⟨some 46, none, .ld true 11 (.t 8)⟩, [], [], true⟩, ⟨⟨some 47, none, .fa 5 (.t 5)⟩, [], [], true⟩, ⟨⟨some 48, none, .ld false 1 (.t 47)⟩, [], [], true⟩, ⟨⟨some 49, none, .fa 6 (.t 5)⟩, [], [], true⟩, ⟨⟨some 50, none, .ld false 1 (.t 49)⟩, [], [], true⟩, ⟨⟨some 51, none, .cal 13 [(.t 46), (.t 48), (.t 50)]⟩, [], [], false⟩, ⟨⟨some 52, none, .eqb true (.t 45) (.t 51)⟩, [], [], false⟩])
 (.cond (.t 52)
 (.seq (.reg [0, 220] [
 ⟨some 6, none, .mv (.c (.sc (.bool false)))⟩])
 .ret)
 .skip))
 (.seq (.reg [0, 220, 5, 7, 8] [
 ⟨some 53, none, .ld true 11 (.t 8)⟩, ⟨some 9, none, .alc [.nil, .nil, .nil, .nil, .sc (.int .i64 0), .sc (.int .i64 0), .sc (.int .i64 0), .sc (.int .i64 0), .nil, .nil, .nil]⟩, ⟨none, none, .sto 11 (.t 9) (.t 53)⟩])
 (.seq (.reg [0, 220, 5, 7, 8, 9] [
 ⟨some 54, none, .fa 1 (.t 5)⟩, ⟨some 55, none, .ld false 1 (.t 54)⟩, ⟨some 56, none, .len (.t 55)⟩, ⟨some 57, none, .dvd .rem true .i64 (.t 56) (.c (.sc (.int .i64 5)))⟩, ⟨some 58, none, .fa 4 (.t 9)⟩, ⟨some 59, none, .fa 3 (.t 58)⟩, ⟨none, none, .sto 1 (.t 59) (.t 57)⟩])
 (.seq (.reg [0, 220, 5, 7, 8, 9] [
 ⟨some 60, none, .ld true 11 (.t 8)⟩, ⟨some 10, none, .alc [.nil, .nil, .nil, .nil, .sc (.int .i64 0), .sc (.int .i64 0), .sc (.int .i64 0), .sc (.int .i64 0), .nil, .nil, .nil]⟩, ⟨none, none, .sto 11 (.t 10) (.t 60)⟩])
 (.seq (.reg [0, 220, 5, 7, 8, 9, 10] [
 ⟨some 61, none, .fa 4 (.t 5)⟩, ⟨some 62, none, .ld false 1 (.t 61)⟩, ⟨some 63, none, .fa 3 (.t 5)⟩, ⟨some 64, none, .ld false 1 (.t 63)⟩, ⟨some 65, none, .bld [.nil, .nil] [(0, 1, (.t 62)), (1, 1, (.t 64))]⟩, ⟨some 66, none, .fa 9 (.t 10)⟩, ⟨none, none, .sto 2 (.t 66) (.t 65)⟩])
 (.seq (.reg [0, 220, 5, 7, 8, 9, 10] [
 ⟨some 67, none, .ld true 11 (.t 8)⟩, ⟨some 68, none, .ld true 11 (.t 9)⟩, ⟨some 69, none, .ld true 11 (.t 10)⟩, ⟨some 70, none, .bsl 11 42 [.nil, .nil, .nil, .nil, .sc (.int .i64 0), .sc (.int .i64 0), .sc (.int .i64 0), .sc (.int .i64 0), .nil, .nil, .nil] 3 [(0, (.t 67)), (1, (.t 68)), (2, (.t 69))]⟩, ⟨some 11, none, .mv (.t 70)⟩])
 ac3f_r12))))))))))
def rv3f : List RV := [.tmp 6]
theorem ok3f : fnOk Try.prog ac3f rv3f Try.f3 = true := by kernel_rfl
end Go.Proofs.Ytbdamnfkgdbidaa.Txt
