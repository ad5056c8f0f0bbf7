/- Y X AA BB CC DD K EE TxtD FF II KK LL MM: lemmas for PRenumbers -/
import Derived.Test.YtbdamnfkgdbidaaPart10
import Derived.Test.YtbdamnfkgdbidaaPart11
import Derived.Test.YtbdamnfkgdbidaaPart07
import Derived.Test.YtbdamnfkgdbidaaPart05
import Derived.Test.YtbdamnfkgdbidaaChecked
set_option linter.unusedSimpArgs false
set_option linter.unusedVariables false
namespace Go.Proofs.Ytbdamnfkgdbidaa
open Go Go.Vc Txt
@[push_cast] theorem bytesC_cons (a : Int) (l : List Int) : bytesC (a :: l) = .sc (.int .u8 a) :: bytesC l := _root_.id rfl
@[push_cast] theorem bytesC_nil : bytesC [] = [] := _root_.id rfl
theorem shl_ok {kk : Nat} (h : kk ≤ 4) : 0 ≤ shfF .shl .u64 1 kk ∧ 0 < shfF .shl .i64 1 (shfF .shl .u64 1 kk) := by
  have : kk = 0 ∨ kk = 1 ∨ kk = 2 ∨ kk = 3 ∨ kk = 4 := by omega
  rcases this with rfl | rfl | rfl | rfl | rfl <;> decide
theorem pick_ok {al : List Int} (h1 : 1 ≤ al.length) (v : Int) : ∃ r, v % (al.length : Int) = r ∧ 0 ≤ r ∧ r < al.length :=
  ⟨_, rfl, Int.emod_nonneg v (by omega), Int.emod_lt_of_pos v (by omega)⟩
theorem getD_mem {al : List Int} {i : Nat} (h : i < al.length) : al.getD i default ∈ al := by simp [List.getD_eq_getElem?_getD, h]
theorem packed_blkA (x : RawP) (Q : Exit → St → Prop) (st : St) (k c i kk : Nat) (hkk : kk ≤ 4) (a b d e f g rm rg : Int) (hc : k ≤ 4 ∧ c ≤ 9 ∧ i < c) (hi0 : i = 0)
    (hb : (0 ≤ b ∧ b ≤ 255) ∧ (0 ≤ d ∧ d ≤ 255) ∧ (0 ≤ e ∧ e ≤ 255) ∧ (0 ≤ f ∧ f ≤ 255) ∧ (0 ≤ g ∧ g ≤ 255))
    (ws : List Wire) (al : List Int) (ha1 : 1 ≤ al.length) (ha2 : al.length ≤ k + c + i) (S : Int → Prop) (hab : ∀ y ∈ al, S y)
    (hst : st.keepS [0, 219, 1, 2, 3, 5, 6, 9, 11, 12, 13, 14] = ⟨[(1, .ptr 1 0), (2, .ptr 2 0), (3, .ptr 3 0), (5, .int k), (6, .int c), (9, .view 64 0 al.length), (11, .int i), (12, .ptr 12 0), (13, .ptr 13 0), (14, .int kk)],
       [(1, rawPC false x), (2, [.nil, .nil, .nil, .nil]), (3, [.view 33 0 k, .nil, .nil, .nil]), (12, bytesC [a, b, d, e, f, g]), (13, [.nil, .int 0, .int rm, .int rg, .sc (.int .u64 0)])], [(33, ⟨3, 93, rows wireC ws⟩), (64, ⟨1, 3, ints al⟩)], []⟩)
    (hQ : ∀ (row : List PV) (ys : List Int) (tb : Int), ys.length = kk → (∀ y ∈ ys, S y) → ((rm = -1 ∧ 0 ≤ tb ∧ tb < shfF .shl .i64 1 (shfF .shl .u64 1 kk)) ∨ (rm ≠ -1 ∧ tb = 0)) → SubL row (blockC true ⟨ys, tb, rm, rg, 0⟩) →
      Q .normal ⟨[(1, .ptr 1 0), (2, .ptr 2 0), (3, .ptr 3 0), (5, .int k), (6, .int c), (9, .view 64 0 (al.length + 1)), (11, .int i), (158, .bot), (159, .int k), (160, .int i), (161, .int (2 * i)), (162, .int (k + 2 * i)), (163, .view 163 0 1), (164, .view 64 0 (al.length + 1))],
        [(1, rawPC false x), (2, [.nil, .nil, .nil, .nil]), (3, [.view 33 0 k, .view 156 0 1, .nil, .nil]), (12, bytesC [a, b, d, e, f, g]), (13, row)],
        [(33, ⟨3, 93, rows wireC ws⟩), (64, ⟨1, 3, ints (al ++ [(k : Int) + 2 * i])⟩), (155, ⟨5, 71, [row]⟩), (156, ⟨5, 71, [row]⟩), (163, ⟨1, 3, ints [(k : Int) + 2 * i]⟩)], []⟩) :
    awp (Env.of Try.prog) ac29b_r31 Q st := by
  simp only [ac29b_r31, push_cast, reduceIte, Nat.reduceEqDiff, Nat.reduceAdd, Nat.reduceSub, Nat.reduceMul, Nat.reduceBEq, Nat.reduceLT, Nat.reduceLeDiff, reduceCtorEq, Int.reduceToNat, Int.reduceNeg, hst]
  refine loop_of (fun m st => ∃ (t : Nat) (ys : List Int), t ≤ kk ∧ m = kk - t ∧ ys.length = t ∧ (∀ y ∈ ys, S y) ∧
    ((t = 0 ∧ st = ⟨[(1, .ptr 1 0), (2, .ptr 2 0), (3, .ptr 3 0), (5, .int k), (6, .int c), (9, .view 64 0 al.length), (11, .int i), (12, .ptr 12 0), (13, .ptr 13 0), (14, .int kk), (15, .int t)], [(1, rawPC false x), (2, [.nil, .nil, .nil, .nil]), (3, [.view 33 0 k, .nil, .nil, .nil]), (12, bytesC [a, b, d, e, f, g]), (13, [.nil, .int 0, .int rm, .int rg, .sc (.int .u64 0)])], [(33, ⟨3, 93, rows wireC ws⟩), (64, ⟨1, 3, ints al⟩)], []⟩) ∨
     (t ≠ 0 ∧ st = ⟨[(1, .ptr 1 0), (2, .ptr 2 0), (3, .ptr 3 0), (5, .int k), (6, .int c), (9, .view 64 0 al.length), (11, .int i), (12, .ptr 12 0), (13, .ptr 13 0), (14, .int kk), (15, .int t)], [(1, rawPC false x), (2, [.nil, .nil, .nil, .nil]), (3, [.view 33 0 k, .nil, .nil, .nil]), (12, bytesC [a, b, d, e, f, g]), (13, [.view 133 0 t, .int 0, .int rm, .int rg, .sc (.int .u64 0)])], [(33, ⟨3, 93, rows wireC ws⟩), (64, ⟨1, 3, ints al⟩), (133, ⟨1, 3, ints ys⟩)], []⟩))) kk ?_ ?_
  · refine ⟨0, [], by omega, by omega, rfl, by simp, .inl ⟨rfl, ?_⟩⟩
    simp only [push_cast, reduceIte, Nat.reduceEqDiff, Nat.reduceAdd, Nat.reduceSub, Nat.reduceMul, Nat.reduceBEq, Nat.reduceLT, Nat.reduceLeDiff, reduceCtorEq, Int.reduceToNat, Int.reduceNeg]
  · have hsh := shl_ok hkk
    rintro m st ⟨t, ys, ht, rfl, hys, hyb, ⟨rfl, rfl⟩ | ⟨ht0, rfl⟩⟩
    · simp only [push_cast, reduceIte, Nat.reduceEqDiff, Nat.reduceAdd, Nat.reduceSub, Nat.reduceMul, Nat.reduceBEq, Nat.reduceLT, Nat.reduceLeDiff, reduceCtorEq, Int.reduceToNat, Int.reduceNeg]
      refine cond_dec (fun h => ?_) fun h => ?_
      · simp only [push_cast, reduceIte, Nat.reduceEqDiff, Nat.reduceAdd, Nat.reduceSub, Nat.reduceMul, Nat.reduceBEq, Nat.reduceLT, Nat.reduceLeDiff, reduceCtorEq, Int.reduceToNat, Int.reduceNeg, Int.reduceAdd]
        · obtain ⟨r, hr, hr0, hr1⟩ := pick_ok ha1 d
          rw [hr]
          have hz := hab _ (getD_mem (show ((al.length : Int) - 1 - r).toNat < al.length by omega))
          generalize al.getD ((al.length : Int) - 1 - r).toNat default = z at hz ⊢
          refine ⟨by omega, by omega, by omega, by omega, by omega, by omega, by omega, by omega, by simp, by omega, _, ?_, 1, [z], by omega, rfl, rfl, fun y hy => by rw [List.mem_singleton.1 hy]; exact hz, .inr ⟨by omega, rfl⟩⟩
          omega
      · have hys0 : ys = [] := List.eq_nil_of_length_eq_zero hys
        refine cond_dec (fun h2 => ?_) fun h2 => ?_
        · refine ⟨by omega, by omega, by omega, by omega, by omega, by omega, by omega, by omega, hsh.1, ⟨by omega, by omega, hsh.2⟩, by omega, by omega, by simp, by omega, ?_⟩
          exact hQ [.nil, .int _, .int rm, .int rg, .sc (.int .u64 0)] [] _ (by simp; omega) (by simp) (.inl ⟨h2, Int.emod_nonneg _ (by omega), Int.emod_lt_of_pos _ hsh.2⟩) ⟨.nil true 1, .refl _, .refl _, .refl _, .refl _, trivial⟩
        · refine ⟨by omega, by omega, by simp, by omega, ?_⟩
          exact hQ [.nil, .int 0, .int rm, .int rg, .sc (.int .u64 0)] [] _ (by simp; omega) (by simp) (.inr ⟨h2, rfl⟩) ⟨.nil true 1, .refl _, .refl _, .refl _, .refl _, trivial⟩
    · simp only [push_cast, reduceIte, Nat.reduceEqDiff, Nat.reduceAdd, Nat.reduceSub, Nat.reduceMul, Nat.reduceBEq, Nat.reduceLT, Nat.reduceLeDiff, reduceCtorEq, Int.reduceToNat, Int.reduceNeg]
      refine cond_dec (fun h => ?_) fun h => ?_
      · have hsnoc : ∀ z : Int, S z → ∀ y ∈ ys ++ [z], S y := fun z hz y hy => by
          rcases List.mem_append.1 hy with hy | hy
          · exact hyb y hy
          · rw [List.mem_singleton.1 hy]; exact hz
        have ht4 : t = 1 ∨ t = 2 ∨ t = 3 := by omega
        rcases ht4 with rfl | rfl | rfl <;> simp only [push_cast, reduceIte, Nat.reduceEqDiff, Nat.reduceAdd, Nat.reduceSub, Nat.reduceMul, Nat.reduceBEq, Nat.reduceLT, Nat.reduceLeDiff, reduceCtorEq, Int.reduceToNat, Int.reduceNeg, Int.reduceAdd]
        · obtain ⟨r, hr, hr0, hr1⟩ := pick_ok ha1 e
          rw [hr]
          have hz := hab _ (getD_mem (show ((al.length : Int) - 1 - r).toNat < al.length by omega))
          generalize al.getD ((al.length : Int) - 1 - r).toNat default = z at hz ⊢
          refine ⟨by omega, by omega, by omega, by omega, by omega, by omega, by omega, by omega, by simp, by omega, by omega, _, ?_, 2, ys ++ [z], by omega, rfl, by simp; omega, hsnoc z hz, .inr ⟨by omega, rfl⟩⟩
          omega
        · obtain ⟨r, hr, hr0, hr1⟩ := pick_ok ha1 f
          rw [hr]
          have hz := hab _ (getD_mem (show ((al.length : Int) - 1 - r).toNat < al.length by omega))
          generalize al.getD ((al.length : Int) - 1 - r).toNat default = z at hz ⊢
          refine ⟨by omega, by omega, by omega, by omega, by omega, by omega, by omega, by omega, by simp, by omega, by omega, _, ?_, 3, ys ++ [z], by omega, rfl, by simp; omega, hsnoc z hz, .inr ⟨by omega, rfl⟩⟩
          omega
        · obtain ⟨r, hr, hr0, hr1⟩ := pick_ok ha1 g
          rw [hr]
          have hz := hab _ (getD_mem (show ((al.length : Int) - 1 - r).toNat < al.length by omega))
          generalize al.getD ((al.length : Int) - 1 - r).toNat default = z at hz ⊢
          refine ⟨by omega, by omega, by omega, by omega, by omega, by omega, by omega, by omega, by simp, by omega, by omega, _, ?_, 4, ys ++ [z], by omega, rfl, by simp; omega, hsnoc z hz, .inr ⟨by omega, rfl⟩⟩
          omega
      · rw [List.take_of_length_le (by omega)]
        refine cond_dec (fun h2 => ?_) fun h2 => ?_
        · refine ⟨by omega, by omega, by omega, by omega, by omega, by omega, by omega, by omega, hsh.1, ⟨by omega, by omega, hsh.2⟩, by omega, by omega, by simp, by omega, ?_⟩
          exact hQ [.sl true 1 (ints ys), .int _, .int rm, .int rg, .sc (.int .u64 0)] ys _ (by omega) hyb (.inl ⟨h2, Int.emod_nonneg _ (by omega), Int.emod_lt_of_pos _ hsh.2⟩) ⟨.refl _, .refl _, .refl _, .refl _, .refl _, trivial⟩
        · refine ⟨by omega, by omega, by simp, by omega, ?_⟩
          exact hQ [.sl true 1 (ints ys), .int 0, .int rm, .int rg, .sc (.int .u64 0)] ys _ (by omega) hyb (.inr ⟨h2, rfl⟩) ⟨.refl _, .refl _, .refl _, .refl _, .refl _, trivial⟩
theorem packed_blkB (x : RawP) (Q : Exit → St → Prop) (st : St) (k c i kk : Nat) (hkk : kk ≤ 4) (a b d e f g rm rg : Int) (hc : k ≤ 4 ∧ c ≤ 9 ∧ i < c) (R : List (List PV)) (hR : R.length = i)
    (hb : (0 ≤ b ∧ b ≤ 255) ∧ (0 ≤ d ∧ d ≤ 255) ∧ (0 ≤ e ∧ e ≤ 255) ∧ (0 ≤ f ∧ f ≤ 255) ∧ (0 ≤ g ∧ g ≤ 255))
    (ws : List Wire) (al : List Int) (ha1 : 1 ≤ al.length) (ha2 : al.length ≤ k + c + i) (S : Int → Prop) (hab : ∀ y ∈ al, S y)
    (hst : st.keepS [0, 219, 1, 2, 3, 5, 6, 9, 11, 12, 13, 14] = ⟨[(1, .ptr 1 0), (2, .ptr 2 0), (3, .ptr 3 0), (5, .int k), (6, .int c), (9, .view 64 0 al.length), (11, .int i), (12, .ptr 12 0), (13, .ptr 13 0), (14, .int kk)],
       [(1, rawPC false x), (2, [.nil, .nil, .nil, .nil]), (3, [.view 33 0 k, .view 156 0 i, .nil, .nil]), (12, bytesC [a, b, d, e, f, g]), (13, [.nil, .int 0, .int rm, .int rg, .sc (.int .u64 0)])], [(33, ⟨3, 93, rows wireC ws⟩), (64, ⟨1, 3, ints al⟩), (156, ⟨5, 71, R⟩)], []⟩)
    (hQ : ∀ (row : List PV) (ys : List Int) (tb : Int), ys.length = kk → (∀ y ∈ ys, S y) → ((rm = -1 ∧ 0 ≤ tb ∧ tb < shfF .shl .i64 1 (shfF .shl .u64 1 kk)) ∨ (rm ≠ -1 ∧ tb = 0)) → SubL row (blockC true ⟨ys, tb, rm, rg, 0⟩) →
      Q .normal ⟨[(1, .ptr 1 0), (2, .ptr 2 0), (3, .ptr 3 0), (5, .int k), (6, .int c), (9, .view 64 0 (al.length + 1)), (11, .int i), (158, .bot), (159, .int k), (160, .int i), (161, .int (2 * i)), (162, .int (k + 2 * i)), (163, .view 163 0 1), (164, .view 64 0 (al.length + 1))],
        [(1, rawPC false x), (2, [.nil, .nil, .nil, .nil]), (3, [.view 33 0 k, .view 156 0 (i + 1), .nil, .nil]), (12, bytesC [a, b, d, e, f, g]), (13, row)],
        [(33, ⟨3, 93, rows wireC ws⟩), (64, ⟨1, 3, ints (al ++ [(k : Int) + 2 * i])⟩), (155, ⟨5, 71, [row]⟩), (156, ⟨5, 71, R ++ [row]⟩), (163, ⟨1, 3, ints [(k : Int) + 2 * i]⟩)], []⟩) :
    awp (Env.of Try.prog) ac29b_r31 Q st := by
  simp only [ac29b_r31, push_cast, reduceIte, Nat.reduceEqDiff, Nat.reduceAdd, Nat.reduceSub, Nat.reduceMul, Nat.reduceBEq, Nat.reduceLT, Nat.reduceLeDiff, reduceCtorEq, Int.reduceToNat, Int.reduceNeg, hst]
  refine loop_of (fun m st => ∃ (t : Nat) (ys : List Int), t ≤ kk ∧ m = kk - t ∧ ys.length = t ∧ (∀ y ∈ ys, S y) ∧
    ((t = 0 ∧ st = ⟨[(1, .ptr 1 0), (2, .ptr 2 0), (3, .ptr 3 0), (5, .int k), (6, .int c), (9, .view 64 0 al.length), (11, .int i), (12, .ptr 12 0), (13, .ptr 13 0), (14, .int kk), (15, .int t)], [(1, rawPC false x), (2, [.nil, .nil, .nil, .nil]), (3, [.view 33 0 k, .view 156 0 i, .nil, .nil]), (12, bytesC [a, b, d, e, f, g]), (13, [.nil, .int 0, .int rm, .int rg, .sc (.int .u64 0)])], [(33, ⟨3, 93, rows wireC ws⟩), (64, ⟨1, 3, ints al⟩), (156, ⟨5, 71, R⟩)], []⟩) ∨
     (t ≠ 0 ∧ st = ⟨[(1, .ptr 1 0), (2, .ptr 2 0), (3, .ptr 3 0), (5, .int k), (6, .int c), (9, .view 64 0 al.length), (11, .int i), (12, .ptr 12 0), (13, .ptr 13 0), (14, .int kk), (15, .int t)], [(1, rawPC false x), (2, [.nil, .nil, .nil, .nil]), (3, [.view 33 0 k, .view 156 0 i, .nil, .nil]), (12, bytesC [a, b, d, e, f, g]), (13, [.view 133 0 t, .int 0, .int rm, .int rg, .sc (.int .u64 0)])], [(33, ⟨3, 93, rows wireC ws⟩), (64, ⟨1, 3, ints al⟩), (133, ⟨1, 3, ints ys⟩), (156, ⟨5, 71, R⟩)], []⟩))) kk ?_ ?_
  · refine ⟨0, [], by omega, by omega, rfl, by simp, .inl ⟨rfl, ?_⟩⟩
    simp only [push_cast, reduceIte, Nat.reduceEqDiff, Nat.reduceAdd, Nat.reduceSub, Nat.reduceMul, Nat.reduceBEq, Nat.reduceLT, Nat.reduceLeDiff, reduceCtorEq, Int.reduceToNat, Int.reduceNeg]
  · have hsh := shl_ok hkk
    rintro m st ⟨t, ys, ht, rfl, hys, hyb, ⟨rfl, rfl⟩ | ⟨ht0, rfl⟩⟩
    · simp only [push_cast, reduceIte, Nat.reduceEqDiff, Nat.reduceAdd, Nat.reduceSub, Nat.reduceMul, Nat.reduceBEq, Nat.reduceLT, Nat.reduceLeDiff, reduceCtorEq, Int.reduceToNat, Int.reduceNeg]
      refine cond_dec (fun h => ?_) fun h => ?_
      · simp only [push_cast, reduceIte, Nat.reduceEqDiff, Nat.reduceAdd, Nat.reduceSub, Nat.reduceMul, Nat.reduceBEq, Nat.reduceLT, Nat.reduceLeDiff, reduceCtorEq, Int.reduceToNat, Int.reduceNeg, Int.reduceAdd]
        · obtain ⟨r, hr, hr0, hr1⟩ := pick_ok ha1 d
          rw [hr]
          have hz := hab _ (getD_mem (show ((al.length : Int) - 1 - r).toNat < al.length by omega))
          generalize al.getD ((al.length : Int) - 1 - r).toNat default = z at hz ⊢
          refine ⟨by omega, by omega, by omega, by omega, by omega, by omega, by omega, by omega, by simp, by omega, _, ?_, 1, [z], by omega, rfl, rfl, fun y hy => by rw [List.mem_singleton.1 hy]; exact hz, .inr ⟨by omega, rfl⟩⟩
          omega
      · have hys0 : ys = [] := List.eq_nil_of_length_eq_zero hys
        refine cond_dec (fun h2 => ?_) fun h2 => ?_
        · refine ⟨by omega, by omega, by omega, by omega, by omega, by omega, by omega, by omega, hsh.1, ⟨by omega, by omega, hsh.2⟩, ⟨hR.symm, by omega, by omega⟩, by omega, by omega, by simp, by omega, ?_⟩
          exact hQ [.nil, .int _, .int rm, .int rg, .sc (.int .u64 0)] [] _ (by simp; omega) (by simp) (.inl ⟨h2, Int.emod_nonneg _ (by omega), Int.emod_lt_of_pos _ hsh.2⟩) ⟨.nil true 1, .refl _, .refl _, .refl _, .refl _, trivial⟩
        · refine ⟨⟨hR.symm, by omega, by omega⟩, by omega, by omega, by simp, by omega, ?_⟩
          exact hQ [.nil, .int 0, .int rm, .int rg, .sc (.int .u64 0)] [] _ (by simp; omega) (by simp) (.inr ⟨h2, rfl⟩) ⟨.nil true 1, .refl _, .refl _, .refl _, .refl _, trivial⟩
    · simp only [push_cast, reduceIte, Nat.reduceEqDiff, Nat.reduceAdd, Nat.reduceSub, Nat.reduceMul, Nat.reduceBEq, Nat.reduceLT, Nat.reduceLeDiff, reduceCtorEq, Int.reduceToNat, Int.reduceNeg]
      refine cond_dec (fun h => ?_) fun h => ?_
      · have hsnoc : ∀ z : Int, S z → ∀ y ∈ ys ++ [z], S y := fun z hz y hy => by
          rcases List.mem_append.1 hy with hy | hy
          · exact hyb y hy
          · rw [List.mem_singleton.1 hy]; exact hz
        have ht4 : t = 1 ∨ t = 2 ∨ t = 3 := by omega
        rcases ht4 with rfl | rfl | rfl <;> simp only [push_cast, reduceIte, Nat.reduceEqDiff, Nat.reduceAdd, Nat.reduceSub, Nat.reduceMul, Nat.reduceBEq, Nat.reduceLT, Nat.reduceLeDiff, reduceCtorEq, Int.reduceToNat, Int.reduceNeg, Int.reduceAdd]
        · obtain ⟨r, hr, hr0, hr1⟩ := pick_ok ha1 e
          rw [hr]
          have hz := hab _ (getD_mem (show ((al.length : Int) - 1 - r).toNat < al.length by omega))
          generalize al.getD ((al.length : Int) - 1 - r).toNat default = z at hz ⊢
          refine ⟨by omega, by omega, by omega, by omega, by omega, by omega, by omega, by omega, by simp, by omega, by omega, _, ?_, 2, ys ++ [z], by omega, rfl, by simp; omega, hsnoc z hz, .inr ⟨by omega, rfl⟩⟩
          omega
        · obtain ⟨r, hr, hr0, hr1⟩ := pick_ok ha1 f
          rw [hr]
          have hz := hab _ (getD_mem (show ((al.length : Int) - 1 - r).toNat < al.length by omega))
          generalize al.getD ((al.length : Int) - 1 - r).toNat default = z at hz ⊢
          refine ⟨by omega, by omega, by omega, by omega, by omega, by omega, by omega, by omega, by simp, by omega, by omega, _, ?_, 3, ys ++ [z], by omega, rfl, by simp; omega, hsnoc z hz, .inr ⟨by omega, rfl⟩⟩
          omega
        · obtain ⟨r, hr, hr0, hr1⟩ := pick_ok ha1 g
          rw [hr]
          have hz := hab _ (getD_mem (show ((al.length : Int) - 1 - r).toNat < al.length by omega))
          generalize al.getD ((al.length : Int) - 1 - r).toNat default = z at hz ⊢
          refine ⟨by omega, by omega, by omega, by omega, by omega, by omega, by omega, by omega, by simp, by omega, by omega, _, ?_, 4, ys ++ [z], by omega, rfl, by simp; omega, hsnoc z hz, .inr ⟨by omega, rfl⟩⟩
          omega
      · rw [List.take_of_length_le (by omega)]
        refine cond_dec (fun h2 => ?_) fun h2 => ?_
        · refine ⟨by omega, by omega, by omega, by omega, by omega, by omega, by omega, by omega, hsh.1, ⟨by omega, by omega, hsh.2⟩, ⟨hR.symm, by omega, by omega⟩, by omega, by omega, by simp, by omega, ?_⟩
          exact hQ [.sl true 1 (ints ys), .int _, .int rm, .int rg, .sc (.int .u64 0)] ys _ (by omega) hyb (.inl ⟨h2, Int.emod_nonneg _ (by omega), Int.emod_lt_of_pos _ hsh.2⟩) ⟨.refl _, .refl _, .refl _, .refl _, .refl _, trivial⟩
        · refine ⟨⟨hR.symm, by omega, by omega⟩, by omega, by omega, by simp, by omega, ?_⟩
          exact hQ [.sl true 1 (ints ys), .int 0, .int rm, .int rg, .sc (.int .u64 0)] ys _ (by omega) hyb (.inr ⟨h2, rfl⟩) ⟨.refl _, .refl _, .refl _, .refl _, .refl _, trivial⟩
end Go.Proofs.Ytbdamnfkgdbidaa
namespace Go.Proofs.Ytbdamnfkgdbidaa
open Go Go.Vc Txt
structure RawP.Ok (x : RawP) : Prop where
  ins : 0 ≤ x.ins ∧ x.ins ≤ 255
  out : 0 ≤ x.out ∧ x.out ≤ 255
  len : (x.blocks.length : Int) ≤ 1000000
  six : ∀ b ∈ x.blocks, b.length = 6
  byte : ∀ b ∈ x.blocks, ∀ v ∈ b, 0 ≤ v ∧ v ≤ 255
theorem six_of {l : List Int} (h : l.length = 6) (hb : ∀ v ∈ l, 0 ≤ v ∧ v ≤ 255) : ∃ a b c d e f : Int, l = [a, b, c, d, e, f] ∧ (0 ≤ a ∧ a ≤ 255) ∧ (0 ≤ b ∧ b ≤ 255) ∧ (0 ≤ c ∧ c ≤ 255) ∧ (0 ≤ d ∧ d ≤ 255) ∧ (0 ≤ e ∧ e ≤ 255) ∧ (0 ≤ f ∧ f ≤ 255) := by
  match l, h, hb with
  | [a, b, c, d, e, f], _, hb => exact ⟨a, b, c, d, e, f, rfl, hb a (by simp), hb b (by simp), hb c (by simp), hb d (by simp), hb e (by simp), hb f (by simp)⟩
theorem RawP.Ok.at {x : RawP} (hx : x.Ok) {i : Nat} (hi : i < x.blocks.length) : ∃ a b c d e f : Int, x.blocks.getD i default = [a, b, c, d, e, f] ∧ (0 ≤ a ∧ a ≤ 255) ∧ (0 ≤ b ∧ b ≤ 255) ∧ (0 ≤ c ∧ c ≤ 255) ∧ (0 ≤ d ∧ d ≤ 255) ∧ (0 ≤ e ∧ e ≤ 255) ∧ (0 ≤ f ∧ f ≤ 255) := by
  have hm : x.blocks.getD i default ∈ x.blocks := by simp [List.getD_eq_getElem?_getD, hi]
  exact six_of (l := x.blocks.getD i default) (hx.six _ hm) (hx.byte _ hm)
def b0 (x : RawP) (i : Nat) : Int := (x.blocks.getD i default).getD 0 default
def GS (x : RawP) (k i : Nat) (y : Int) : Prop :=
  (0 ≤ y ∧ y < k) ∨ (∃ c : Nat, c < min x.blocks.length 9 ∧ b0 x c % 4 = 1 ∧ y = k + 2 * c + 1) ∨ (∃ c : Nat, c < i ∧ y = k + 2 * c)
theorem GS.mono {x : RawP} {k i i' : Nat} {y : Int} (h : i ≤ i') : GS x k i y → GS x k i' y
  | .inl h1 => .inl h1
  | .inr (.inl h1) => .inr (.inl h1)
  | .inr (.inr ⟨c, h1, h2⟩) => .inr (.inr ⟨c, by omega, h2⟩)
theorem GS.bd {x : RawP} {k i : Nat} {y : Int} (h : i ≤ min x.blocks.length 9) : GS x k i y → 0 ≤ y ∧ y < k + 2 * (min x.blocks.length 9 : Nat)
  | .inl h1 => by omega
  | .inr (.inl ⟨c, h1, _, h2⟩) => by omega
  | .inr (.inr ⟨c, h1, h2⟩) => by omega
theorem GS.snoc {x : RawP} {k i : Nat} {al : List Int} (h : ∀ y ∈ al, GS x k i y) : ∀ y ∈ al ++ [(k : Int) + 2 * i], GS x k (i + 1) y := fun y hy => by
  rcases List.mem_append.1 hy with hy | hy
  · exact (h y hy).mono (by omega)
  · rw [List.mem_singleton.1 hy]; exact .inr (.inr ⟨i, by omega, rfl⟩)
structure GB (x : RawP) (k i : Nat) (b : Block) : Prop where
  nin : b.ins.length ≤ 4
  sig : ∀ s ∈ b.ins, GS x k i s
  reg : b.reg = if b0 x i % 4 = 1 then (i : Int) else -1
  rt : (b.ram = -1 ∧ 0 ≤ b.table ∧ b.table < shfF .shl .i64 1 (shfF .shl .u64 1 b.ins.length)) ∨ (0 ≤ b.ram ∧ b.ram ≤ 15 ∧ b.ins.length ≤ 3 ∧ b.table = 0 ∧ b.reg = -1)
theorem GB.key {x : RawP} {k i : Nat} {b : Block} (h : GB x k i b) (v : Int) : GB x k i { b with key := v } := ⟨h.nin, h.sig, h.reg, h.rt⟩
def GBs (x : RawP) (k : Nat) (bs : List Block) : Prop := ∀ t : Nat, t < bs.length → GB x k t (bs.getD t default)
theorem GBs.snoc {x : RawP} {k : Nat} {bs : List Block} {q : Block} (h : GBs x k bs) (hq : GB x k bs.length q) : GBs x k (bs ++ [q]) := fun t ht => by
  rw [List.length_append, List.length_singleton] at ht
  by_cases e : t < bs.length
  · have := h t e
    rwa [List.getD_eq_getElem?_getD, List.getElem?_append_left e, ← List.getD_eq_getElem?_getD]
  · have : t = bs.length := by omega
    subst this
    simpa [List.getD_eq_getElem?_getD] using hq
theorem GBs.set {x : RawP} {k : Nat} {bs : List Block} {i : Nat} (h : GBs x k bs) (v : Int) (hi : i < bs.length) : GBs x k (bs.set i { bs.getD i default with key := v }) := fun t ht => by
  rw [List.length_set] at ht
  by_cases e : i = t
  · subst e
    rw [List.getD_eq_getElem?_getD, List.getElem?_set_self hi, Option.getD_some]
    exact (h i hi).key v
  · rw [List.getD_eq_getElem?_getD, List.getElem?_set_ne e, ← List.getD_eq_getElem?_getD]
    exact h t ht
theorem GBs.all {x : RawP} {k : Nat} {bs : List Block} (h : GBs x k bs) (hb : bs.length ≤ min x.blocks.length 9) : ∀ b ∈ bs, (b.ins.length : Int) ≤ 4 ∧ ∀ s ∈ b.ins, 0 ≤ s ∧ s < k + 2 * (min x.blocks.length 9 : Nat) := fun b hm => by
  obtain ⟨i, hi, rfl⟩ := List.mem_iff_getElem.1 hm
  have := h i hi
  rw [List.getD_eq_getElem?_getD, List.getElem?_eq_getElem hi, Option.getD_some] at this
  exact ⟨by have := this.nin; omega, fun s hs => (this.sig s hs).bd (by omega)⟩
structure Packed.Gen (x : RawP) (p : Packed) : Prop where
  ins : (p.ins.length : Int) = x.ins % 4 + 1
  nb : p.blocks.length = min x.blocks.length 9
  out : (p.out.length : Int) = x.out % 4 + 1
  drive : p.drive.length = p.out.length
  nin : ∀ b ∈ p.blocks, (b.ins.length : Int) ≤ 4
  sb : ∀ b ∈ p.blocks, ∀ s ∈ b.ins, 0 ≤ s ∧ s < p.ins.length + 2 * p.blocks.length
  sd : ∀ s ∈ p.drive, 0 ≤ s ∧ s < p.ins.length + 2 * p.blocks.length
  wi : ∀ w ∈ p.ins, w.kind = 3 ∧ 0 ≤ w.i ∧ w.bit = 0
  wo : ∀ w ∈ p.out, w.kind = 5 ∧ 0 ≤ w.i ∧ w.bit = 0
  gb : GBs x p.ins.length p.blocks
  gd : ∀ s ∈ p.drive, GS x p.ins.length p.blocks.length s
theorem Packed.Gen.of {x : RawP} {p : Packed} (h1 : (p.ins.length : Int) = x.ins % 4 + 1) (h2 : p.blocks.length = min x.blocks.length 9) (h3 : (p.out.length : Int) = x.out % 4 + 1) (h4 : p.drive.length = p.out.length)
    (wi : ∀ w ∈ p.ins, w.kind = 3 ∧ 0 ≤ w.i ∧ w.bit = 0) (wo : ∀ w ∈ p.out, w.kind = 5 ∧ 0 ≤ w.i ∧ w.bit = 0) (gb : GBs x p.ins.length p.blocks) (gd : ∀ s ∈ p.drive, GS x p.ins.length p.blocks.length s) : p.Gen x :=
  ⟨h1, h2, h3, h4, fun b hb => (gb.all (by omega) b hb).1, fun b hb s hs => by rw [h2]; exact (gb.all (by omega) b hb).2 s hs, fun s hs => by have := (gd s hs).bd (by omega); omega, wi, wo, gb, gd⟩
theorem snoc_all {α : Type} {P : α → Prop} {l : List α} {a : α} (h : ∀ y ∈ l, P y) (ha : P a) : ∀ y ∈ l ++ [a], P y := fun y hy => by
  rcases List.mem_append.1 hy with hy | hy
  · exact h y hy
  · rw [List.mem_singleton.1 hy]; exact ha
theorem getD_memB {bs : List Block} {i : Nat} (h : i < bs.length) : bs.getD i default ∈ bs := by simp [List.getD_eq_getElem?_getD, h]
theorem packed_tail0 (x : RawP) (hx : x.Ok) (k c : Nat) (hk : (k : Int) = x.ins % 4 + 1) (hc : c = min x.blocks.length 9) (ws : List Wire) (hws : ws.length = k) (hww : ∀ w ∈ ws, w.kind = 3 ∧ 0 ≤ w.i ∧ w.bit = 0) (al : List Int) (ha1 : 1 ≤ al.length) (ha2 : al.length ≤ k + c + c)
    (hab : ∀ y ∈ al, GS x k c y) (bs : List Block) (hbl : bs.length = c) (hbs : GBs x k bs) (hc0 : c = 0) :
    awp (Env.of Try.prog) ac29b_r39 (retK [RV.cell 2 true 4] fun v => ∃ p : Packed, p.Gen x ∧ Sub v (.agg (packedC true p)))
      ⟨[(1, .ptr 1 0), (2, .ptr 2 0), (3, .ptr 3 0), (5, .int k), (6, .int c), (9, .view 64 0 al.length), (11, .int c), (77, .int c), (78, .int c), (79, .bool false)],
       [(1, rawPC false x), (2, [.nil, .nil, .nil, .nil]), (3, [.view 33 0 k, .nil, .nil, .nil])], [(33, ⟨3, 93, rows wireC ws⟩), (64, ⟨1, 3, ints al⟩)], []⟩ := by
  have hi := hx.ins
  have ho := hx.out
  simp only [ac29b_r39, push_cast, reduceIte, Nat.reduceEqDiff, Nat.reduceAdd, Nat.reduceSub, Nat.reduceMul, Nat.reduceBEq, Nat.reduceLT, Nat.reduceLeDiff, reduceCtorEq, Int.reduceToNat, Int.reduceNeg]
  obtain ⟨n, hn⟩ : ∃ n : Nat, (n : Int) = x.out % 4 + 1 := ⟨(x.out % 4 + 1).toNat, by omega⟩
  refine loop_of (fun m st => ∃ (i : Nat) (os : List Wire) (ds : List Int), i ≤ n ∧ m = n - i ∧ os.length = i ∧ ds.length = i ∧ (∀ y ∈ ds, GS x k c y) ∧ (∀ w ∈ os, w.kind = 5 ∧ 0 ≤ w.i ∧ w.bit = 0) ∧
    ((i = 0 ∧ st = ⟨[(1, .ptr 1 0), (2, .ptr 2 0), (3, .ptr 3 0), (6, .int c), (9, .view 64 0 al.length), (16, .int i)],
       [(1, rawPC false x), (2, [.nil, .nil, .nil, .nil]), (3, [.view 33 0 k, .nil, .nil, .nil])], [(33, ⟨3, 93, rows wireC ws⟩), (64, ⟨1, 3, ints al⟩)], []⟩) ∨
     (i ≠ 0 ∧ st = ⟨[(1, .ptr 1 0), (2, .ptr 2 0), (3, .ptr 3 0), (6, .int c), (9, .view 64 0 al.length), (16, .int i)],
       [(1, rawPC false x), (2, [.nil, .nil, .nil, .nil]), (3, [.view 33 0 k, .nil, .view 178 0 i, .view 200 0 i])], [(33, ⟨3, 93, rows wireC ws⟩), (64, ⟨1, 3, ints al⟩), (178, ⟨3, 93, rows wireC os⟩), (200, ⟨1, 3, ints ds⟩)], []⟩))) n ?_ ?_
  · refine ⟨0, [], [], by omega, by omega, rfl, rfl, by simp, by simp, .inl ⟨rfl, ?_⟩⟩
    simp only [push_cast, reduceIte, Nat.reduceEqDiff, Nat.reduceAdd, Nat.reduceSub, Nat.reduceMul, Nat.reduceBEq, Nat.reduceLT, Nat.reduceLeDiff, reduceCtorEq, Int.reduceToNat, Int.reduceNeg]
  · rintro m st ⟨i, os, ds, hi1, rfl, hos, hds, hdb, how, ⟨rfl, rfl⟩ | ⟨hi0, rfl⟩⟩
    · simp only [push_cast, reduceIte, Nat.reduceEqDiff, Nat.reduceAdd, Nat.reduceSub, Nat.reduceMul, Nat.reduceBEq, Nat.reduceLT, Nat.reduceLeDiff, reduceCtorEq, Int.reduceToNat, Int.reduceNeg]
      refine ⟨by omega, by omega, ?_⟩
      refine cond_dec (fun h3 => ?_) fun h3 => absurd h3 (by omega)
      obtain ⟨r, hr, hr0, hr1⟩ := pick_ok ha1 (x.out / 4 + 3 * 0)
      rw [hr]
      have hz := hab _ (getD_mem (show ((al.length : Int) - 1 - r).toNat < al.length by omega))
      generalize al.getD ((al.length : Int) - 1 - r).toNat default = z at hz ⊢
      refine ⟨by omega, by omega, by omega, by omega, by omega, by omega, by omega, by omega, by omega, by simp, by omega, _, ?_, 1, [⟨5, 0, 0⟩], [z], by omega, rfl, rfl, rfl, fun y hy => by rw [List.mem_singleton.1 hy]; exact hz, by simp, .inr ⟨by omega, rfl⟩⟩
      omega
    · simp only [push_cast, reduceIte, Nat.reduceEqDiff, Nat.reduceAdd, Nat.reduceSub, Nat.reduceMul, Nat.reduceBEq, Nat.reduceLT, Nat.reduceLeDiff, reduceCtorEq, Int.reduceToNat, Int.reduceNeg]
      refine ⟨by omega, by omega, ?_⟩
      refine cond_dec (fun h3 => ?_) fun h3 => ?_
      · obtain ⟨r, hr, hr0, hr1⟩ := pick_ok ha1 (x.out / 4 + 3 * i)
        rw [hr]
        have hz := hab _ (getD_mem (show ((al.length : Int) - 1 - r).toNat < al.length by omega))
        generalize al.getD ((al.length : Int) - 1 - r).toNat default = z at hz ⊢
        refine ⟨⟨hos.symm, by omega, by omega⟩, by omega, by omega, by omega, by omega, by omega, by omega, by omega, by omega, by omega, by simp, ⟨hds.symm, by omega, by omega⟩, by omega, _, ?_, i + 1, os ++ [⟨5, i, 0⟩], ds ++ [z], by omega, rfl, by simp [hos], by simp [hds], snoc_all hdb hz, snoc_all how ⟨rfl, by show (0 : Int) ≤ (i : Nat); omega, rfl⟩, .inr ⟨by omega, ?_⟩⟩
        · omega
        · simp [rows, wireC]
      · have hin : i = n := by omega
        rw [List.take_of_length_le (show ws.length ≤ k by omega), List.take_of_length_le (show os.length ≤ i by omega), List.take_of_length_le (show ds.length ≤ i by omega)]
        have hbs0 : bs = [] := List.eq_nil_of_length_eq_zero (by omega)
        subst hbs0
        refine cal_subO (keys_ok ⟨ws, [], os, ds⟩ ⟨by show (ws.length : Int) ≤ 1000; omega, by simp, by simp, by simp⟩) ⟨Sub.aggL ⟨.refl _, .nil false 5, .refl _, .refl _, trivial⟩, trivial⟩ ?_
        rintro _ ⟨ks, rfl, hks⟩
        simp only [push_cast, reduceIte, Nat.reduceEqDiff, Nat.reduceAdd, Nat.reduceSub, Nat.reduceMul, Nat.reduceBEq, Nat.reduceLT, Nat.reduceLeDiff, reduceCtorEq, Int.reduceToNat, Int.reduceNeg]
        refine loop_of (fun m st => m = 0 ∧ st = ⟨[(2, .ptr 2 0), (3, .ptr 3 0), (6, .int c), (17, .sl true 1 (rows u64C ks)), (18, .int 0)],
          [(2, [.nil, .nil, .nil, .nil]), (3, [.view 33 0 k, .nil, .view 178 0 i, .view 200 0 i])], [(33, ⟨3, 93, rows wireC ws⟩), (178, ⟨3, 93, rows wireC os⟩), (200, ⟨1, 3, ints ds⟩)], []⟩) 0 ?_ ?_
        · refine ⟨rfl, ?_⟩
          simp only [push_cast, reduceIte, Nat.reduceEqDiff, Nat.reduceAdd, Nat.reduceSub, Nat.reduceMul, Nat.reduceBEq, Nat.reduceLT, Nat.reduceLeDiff, reduceCtorEq, Int.reduceToNat, Int.reduceNeg]
        · rintro m st ⟨rfl, rfl⟩
          simp only [push_cast, reduceIte, Nat.reduceEqDiff, Nat.reduceAdd, Nat.reduceSub, Nat.reduceMul, Nat.reduceBEq, Nat.reduceLT, Nat.reduceLeDiff, reduceCtorEq, Int.reduceToNat, Int.reduceNeg]
          refine cond_dec (fun h4 => absurd h4 (by omega)) fun h4 => ?_
          rw [List.take_of_length_le (show ws.length ≤ k by omega), List.take_of_length_le (show os.length ≤ i by omega), List.take_of_length_le (show ds.length ≤ i by omega)]
          refine ⟨⟨fun _ _ => trivial, fun _ _ => trivial, fun _ _ => trivial⟩, ⟨ws, [], os, ds⟩, .of (by show (ws.length : Int) = _; omega) (by show 0 = _; omega) (by show (os.length : Int) = _; omega) (by show ds.length = os.length; omega) hww how (fun t ht => absurd ht (Nat.not_lt_zero t)) (fun t ht => ?_), ⟨.refl _, rfl, .refl _, .refl _⟩⟩
          have := hdb t ht
          show GS x ws.length 0 t
          rwa [hws, ← hc0]
theorem packed_tail1 (x : RawP) (hx : x.Ok) (k c : Nat) (hk : (k : Int) = x.ins % 4 + 1) (hc : c = min x.blocks.length 9) (ws : List Wire) (hws : ws.length = k) (hww : ∀ w ∈ ws, w.kind = 3 ∧ 0 ≤ w.i ∧ w.bit = 0) (al : List Int) (ha1 : 1 ≤ al.length) (ha2 : al.length ≤ k + c + c)
    (hab : ∀ y ∈ al, GS x k c y) (bs : List Block) (hbl : bs.length = c) (hbs : GBs x k bs) (hc0 : c ≠ 0) :
    awp (Env.of Try.prog) ac29b_r39 (retK [RV.cell 2 true 4] fun v => ∃ p : Packed, p.Gen x ∧ Sub v (.agg (packedC true p)))
      ⟨[(1, .ptr 1 0), (2, .ptr 2 0), (3, .ptr 3 0), (5, .int k), (6, .int c), (9, .view 64 0 al.length), (11, .int c), (77, .int c), (78, .int c), (79, .bool false)],
       [(1, rawPC false x), (2, [.nil, .nil, .nil, .nil]), (3, [.view 33 0 k, .view 156 0 c, .nil, .nil])], [(33, ⟨3, 93, rows wireC ws⟩), (64, ⟨1, 3, ints al⟩), (156, ⟨5, 71, rows (blockC true) bs⟩)], []⟩ := by
  have hi := hx.ins
  have ho := hx.out
  simp only [ac29b_r39, push_cast, reduceIte, Nat.reduceEqDiff, Nat.reduceAdd, Nat.reduceSub, Nat.reduceMul, Nat.reduceBEq, Nat.reduceLT, Nat.reduceLeDiff, reduceCtorEq, Int.reduceToNat, Int.reduceNeg]
  obtain ⟨n, hn⟩ : ∃ n : Nat, (n : Int) = x.out % 4 + 1 := ⟨(x.out % 4 + 1).toNat, by omega⟩
  refine loop_of (fun m st => ∃ (i : Nat) (os : List Wire) (ds : List Int), i ≤ n ∧ m = n - i ∧ os.length = i ∧ ds.length = i ∧ (∀ y ∈ ds, GS x k c y) ∧ (∀ w ∈ os, w.kind = 5 ∧ 0 ≤ w.i ∧ w.bit = 0) ∧
    ((i = 0 ∧ st = ⟨[(1, .ptr 1 0), (2, .ptr 2 0), (3, .ptr 3 0), (6, .int c), (9, .view 64 0 al.length), (16, .int i)],
       [(1, rawPC false x), (2, [.nil, .nil, .nil, .nil]), (3, [.view 33 0 k, .view 156 0 c, .nil, .nil])], [(33, ⟨3, 93, rows wireC ws⟩), (64, ⟨1, 3, ints al⟩), (156, ⟨5, 71, rows (blockC true) bs⟩)], []⟩) ∨
     (i ≠ 0 ∧ st = ⟨[(1, .ptr 1 0), (2, .ptr 2 0), (3, .ptr 3 0), (6, .int c), (9, .view 64 0 al.length), (16, .int i)],
       [(1, rawPC false x), (2, [.nil, .nil, .nil, .nil]), (3, [.view 33 0 k, .view 156 0 c, .view 178 0 i, .view 200 0 i])], [(33, ⟨3, 93, rows wireC ws⟩), (64, ⟨1, 3, ints al⟩), (156, ⟨5, 71, rows (blockC true) bs⟩), (178, ⟨3, 93, rows wireC os⟩), (200, ⟨1, 3, ints ds⟩)], []⟩))) n ?_ ?_
  · refine ⟨0, [], [], by omega, by omega, rfl, rfl, by simp, by simp, .inl ⟨rfl, ?_⟩⟩
    simp only [push_cast, reduceIte, Nat.reduceEqDiff, Nat.reduceAdd, Nat.reduceSub, Nat.reduceMul, Nat.reduceBEq, Nat.reduceLT, Nat.reduceLeDiff, reduceCtorEq, Int.reduceToNat, Int.reduceNeg]
  · rintro m st ⟨i, os, ds, hi1, rfl, hos, hds, hdb, how, ⟨rfl, rfl⟩ | ⟨hi0, rfl⟩⟩
    · simp only [push_cast, reduceIte, Nat.reduceEqDiff, Nat.reduceAdd, Nat.reduceSub, Nat.reduceMul, Nat.reduceBEq, Nat.reduceLT, Nat.reduceLeDiff, reduceCtorEq, Int.reduceToNat, Int.reduceNeg]
      refine ⟨by omega, by omega, ?_⟩
      refine cond_dec (fun h3 => ?_) fun h3 => absurd h3 (by omega)
      obtain ⟨r, hr, hr0, hr1⟩ := pick_ok ha1 (x.out / 4 + 3 * 0)
      rw [hr]
      have hz := hab _ (getD_mem (show ((al.length : Int) - 1 - r).toNat < al.length by omega))
      generalize al.getD ((al.length : Int) - 1 - r).toNat default = z at hz ⊢
      refine ⟨by omega, by omega, by omega, by omega, by omega, by omega, by omega, by omega, by omega, by simp, by omega, _, ?_, 1, [⟨5, 0, 0⟩], [z], by omega, rfl, rfl, rfl, fun y hy => by rw [List.mem_singleton.1 hy]; exact hz, by simp, .inr ⟨by omega, rfl⟩⟩
      omega
    · simp only [push_cast, reduceIte, Nat.reduceEqDiff, Nat.reduceAdd, Nat.reduceSub, Nat.reduceMul, Nat.reduceBEq, Nat.reduceLT, Nat.reduceLeDiff, reduceCtorEq, Int.reduceToNat, Int.reduceNeg]
      refine ⟨by omega, by omega, ?_⟩
      refine cond_dec (fun h3 => ?_) fun h3 => ?_
      · obtain ⟨r, hr, hr0, hr1⟩ := pick_ok ha1 (x.out / 4 + 3 * i)
        rw [hr]
        have hz := hab _ (getD_mem (show ((al.length : Int) - 1 - r).toNat < al.length by omega))
        generalize al.getD ((al.length : Int) - 1 - r).toNat default = z at hz ⊢
        refine ⟨⟨hos.symm, by omega, by omega⟩, by omega, by omega, by omega, by omega, by omega, by omega, by omega, by omega, by omega, by simp, ⟨hds.symm, by omega, by omega⟩, by omega, _, ?_, i + 1, os ++ [⟨5, i, 0⟩], ds ++ [z], by omega, rfl, by simp [hos], by simp [hds], snoc_all hdb hz, snoc_all how ⟨rfl, by show (0 : Int) ≤ (i : Nat); omega, rfl⟩, .inr ⟨by omega, ?_⟩⟩
        · omega
        · simp [rows, wireC]
      · have hin : i = n := by omega
        rw [List.take_of_length_le (show ws.length ≤ k by omega), List.take_of_length_le (show os.length ≤ i by omega), List.take_of_length_le (show ds.length ≤ i by omega), List.take_of_length_le (show bs.length ≤ c by omega)]
        refine cal_subO (keys_ok ⟨ws, bs, os, ds⟩ ⟨by show (ws.length : Int) ≤ 1000; omega, by show (bs.length : Int) ≤ 1000; omega, fun b hb => by have := (hbs.all (by omega) b hb).1; omega, fun b hb t ht => by have := (hbs.all (by omega) b hb).2 t ht; show 0 ≤ t ∧ t < (ws.length : Int) + 2 * (bs.length : Int); omega⟩)
          ⟨Sub.aggL ⟨.refl _, Sub.slR 5 (fun h => h) (SubR.map _ _ _ fun b _ => blockC_sub b), .refl _, .refl _, trivial⟩, trivial⟩ ?_
        rintro _ ⟨ks, rfl, hks⟩
        have hks : ks.length = bs.length := hks
        simp only [push_cast, reduceIte, Nat.reduceEqDiff, Nat.reduceAdd, Nat.reduceSub, Nat.reduceMul, Nat.reduceBEq, Nat.reduceLT, Nat.reduceLeDiff, reduceCtorEq, Int.reduceToNat, Int.reduceNeg]
        refine loop_of (fun m st => ∃ (t : Nat) (bs : List Block), t ≤ c ∧ m = c - t ∧ bs.length = c ∧ GBs x k bs ∧ st = ⟨[(2, .ptr 2 0), (3, .ptr 3 0), (6, .int c), (17, .sl true 1 (rows u64C ks)), (18, .int t)],
          [(2, [.nil, .nil, .nil, .nil]), (3, [.view 33 0 k, .view 156 0 c, .view 178 0 i, .view 200 0 i])], [(33, ⟨3, 93, rows wireC ws⟩), (156, ⟨5, 71, rows (blockC true) bs⟩), (178, ⟨3, 93, rows wireC os⟩), (200, ⟨1, 3, ints ds⟩)], []⟩) c ?_ ?_
        · refine ⟨0, bs, by omega, by omega, hbl, hbs, ?_⟩
          simp only [push_cast, reduceIte, Nat.reduceEqDiff, Nat.reduceAdd, Nat.reduceSub, Nat.reduceMul, Nat.reduceBEq, Nat.reduceLT, Nat.reduceLeDiff, reduceCtorEq, Int.reduceToNat, Int.reduceNeg]
        · rw [hbl] at hks
          clear hbs hbl
          rintro m st ⟨t, bs, ht, rfl, hbl, hbs, rfl⟩
          simp only [push_cast, reduceIte, Nat.reduceEqDiff, Nat.reduceAdd, Nat.reduceSub, Nat.reduceMul, Nat.reduceBEq, Nat.reduceLT, Nat.reduceLeDiff, reduceCtorEq, Int.reduceToNat, Int.reduceNeg]
          refine cond_dec (fun h4 => ?_) fun h4 => ?_
          · have hmem := getD_memB (show t < bs.length by omega)
            refine ⟨by omega, by omega, by omega, by omega, by omega, _, ?_, t + 1, bs.set t { bs.getD t default with key := ks.getD t default }, by omega, rfl, by simpa using hbl, hbs.set _ (by omega), ?_⟩
            · omega
            · simp [rows, blockC, List.map_set]
          · rw [List.take_of_length_le (show ws.length ≤ k by omega), List.take_of_length_le (show os.length ≤ i by omega), List.take_of_length_le (show ds.length ≤ i by omega), List.take_of_length_le (show bs.length ≤ c by omega)]
            refine ⟨⟨fun _ _ => trivial, fun _ _ _ _ => trivial, fun _ _ => trivial, fun _ _ => trivial⟩, ⟨ws, bs, os, ds⟩, .of (by show (ws.length : Int) = _; omega) (by show bs.length = _; omega) (by show (os.length : Int) = _; omega) (by show ds.length = os.length; omega) hww how (by show GBs x ws.length bs; rwa [hws]) (by show ∀ s ∈ ds, GS x ws.length bs.length s; rwa [hws, hbl]), .refl _, .refl _, .refl _, .refl _⟩
theorem packed_main (x : RawP) (hx : x.Ok) (k c : Nat) (hk : (k : Int) = x.ins % 4 + 1) (hc : c = min x.blocks.length 9) (ws : List Wire) (hws : ws.length = k) (hww : ∀ w ∈ ws, w.kind = 3 ∧ 0 ≤ w.i ∧ w.bit = 0) (al fl : List Int) (ha1 : 1 ≤ al.length) (ha2 : al.length ≤ k + c)
    (hab : ∀ y ∈ al, GS x k 0 y) :
    awp (Env.of Try.prog) ac29b_r20 (retK [RV.cell 2 true 4] fun v => ∃ p : Packed, p.Gen x ∧ Sub v (.agg (packedC true p)))
      ⟨[(1, .ptr 1 0), (2, .ptr 2 0), (3, .ptr 3 0), (5, .int k), (6, .int c), (7, .view 42 0 fl.length), (9, .view 64 0 al.length), (74, .bot), (75, .view 42 0 fl.length), (76, .view 64 0 al.length)],
       [(1, rawPC false x), (2, [.nil, .nil, .nil, .nil]), (3, [.view 33 0 k, .nil, .nil, .nil])], [(33, ⟨3, 93, rows wireC ws⟩), (42, ⟨1, 3, ints fl⟩), (64, ⟨1, 3, ints al⟩)], []⟩ := by
  have hi := hx.ins
  simp only [ac29b_r20, push_cast, reduceIte, Nat.reduceEqDiff, Nat.reduceAdd, Nat.reduceSub, Nat.reduceMul, Nat.reduceBEq, Nat.reduceLT, Nat.reduceLeDiff, reduceCtorEq, Int.reduceToNat, Int.reduceNeg]
  refine loop_of (fun m st => ∃ (i : Nat) (al : List Int) (R : List (List PV)) (bs : List Block), i ≤ c ∧ m = c - i ∧ 1 ≤ al.length ∧ al.length ≤ k + c + i ∧ (∀ y ∈ al, GS x k i y) ∧ R.length = i ∧ SubR R (rows (blockC true) bs) ∧
    GBs x k bs ∧
    ((i = 0 ∧ st = ⟨[(1, .ptr 1 0), (2, .ptr 2 0), (3, .ptr 3 0), (5, .int k), (6, .int c), (9, .view 64 0 al.length), (11, .int i)],
       [(1, rawPC false x), (2, [.nil, .nil, .nil, .nil]), (3, [.view 33 0 k, .nil, .nil, .nil])], [(33, ⟨3, 93, rows wireC ws⟩), (64, ⟨1, 3, ints al⟩)], []⟩) ∨
     (i ≠ 0 ∧ st = ⟨[(1, .ptr 1 0), (2, .ptr 2 0), (3, .ptr 3 0), (5, .int k), (6, .int c), (9, .view 64 0 al.length), (11, .int i)],
       [(1, rawPC false x), (2, [.nil, .nil, .nil, .nil]), (3, [.view 33 0 k, .view 156 0 i, .nil, .nil])], [(33, ⟨3, 93, rows wireC ws⟩), (64, ⟨1, 3, ints al⟩), (156, ⟨5, 71, R⟩)], []⟩))) c ?_ ?_
  · refine ⟨0, al, [], [], by omega, by omega, ha1, by omega, hab, rfl, trivial, fun t ht => absurd ht (Nat.not_lt_zero t), .inl ⟨rfl, ?_⟩⟩
    simp only [push_cast, reduceIte, Nat.reduceEqDiff, Nat.reduceAdd, Nat.reduceSub, Nat.reduceMul, Nat.reduceBEq, Nat.reduceLT, Nat.reduceLeDiff, reduceCtorEq, Int.reduceToNat, Int.reduceNeg]
  · rintro m st ⟨i, al, R, bs, hi1, rfl, h1, h2, hab, hR, hsub, hbs, ⟨rfl, rfl⟩ | ⟨hi0, rfl⟩⟩
    · simp only [push_cast, reduceIte, Nat.reduceEqDiff, Nat.reduceAdd, Nat.reduceSub, Nat.reduceMul, Nat.reduceBEq, Nat.reduceLT, Nat.reduceLeDiff, reduceCtorEq, Int.reduceToNat, Int.reduceNeg]
      refine cond_dec (fun h3 => ?_) fun h3 => ?_
      · obtain ⟨a, b, d, e, f, g, hb, b1, b2, b3, b4, b5, b6⟩ := hx.at (show 0 < x.blocks.length by omega)
        have hb0 : b0 x 0 = a := by rw [b0, hb]; rfl
        rw [hb]
        simp only [push_cast, reduceIte, Nat.reduceEqDiff, Nat.reduceAdd, Nat.reduceSub, Nat.reduceMul, Nat.reduceBEq, Nat.reduceLT, Nat.reduceLeDiff, reduceCtorEq, Int.reduceToNat, Int.reduceNeg]
        obtain ⟨kk, hkk0⟩ : ∃ kk : Nat, b % 5 = kk := ⟨(b % 5).toNat, by omega⟩
        have hkk : kk ≤ 4 := by omega
        rw [hkk0]
        refine ⟨by omega, by omega, by omega, by omega, by omega, by omega, by omega, ?_⟩
        have hbs0 : bs = [] := by
          cases bs with
          | nil => rfl
          | cons q r => have := hsub.len; rw [hR] at this; simp [rows] at this
        refine cond_dec (fun h4 => ?_) fun h4 => ?_
        · refine ⟨by omega, by omega, cond_dec (fun h5 => absurd h5 (by omega)) fun h5 => ?_⟩
          refine packed_blkA x _ _ k c 0 kk hkk a b d e f g (-1) 0 (by omega) rfl ⟨b2, b3, b4, b5, b6⟩ ws al h1 (by omega) (GS x k 0) hab (by simp only [push_cast, reduceIte, Nat.reduceEqDiff, Nat.reduceAdd, Nat.reduceSub, Nat.reduceMul, Nat.reduceBEq, Nat.reduceLT, Nat.reduceLeDiff, reduceCtorEq, Int.reduceToNat, Int.reduceNeg]) ?_
          intro row ys tb hy1 hy2 hy3 hrow
          simp only [push_cast, reduceIte, Nat.reduceEqDiff, Nat.reduceAdd, Nat.reduceSub, Nat.reduceMul, Nat.reduceBEq, Nat.reduceLT, Nat.reduceLeDiff, reduceCtorEq, Int.reduceToNat, Int.reduceNeg]
          refine ⟨by omega, _, ?_, 1, al ++ [(k : Int) + 2 * (0 : Nat)], [row], bs ++ [⟨ys, tb, (-1), 0, 0⟩], by omega, rfl, ?_, ?_, ?_, ?_, ?_, ?_, .inr ⟨by omega, ?_⟩⟩
          · omega
          · simp
          · simp; omega
          · exact GS.snoc hab
          · rfl
          · rw [hbs0]; exact ⟨hrow, trivial⟩
          · have hbn : bs.length = 0 := by simp [hbs0]
            refine hbs.snoc ?_
            rw [hbn]
            refine ⟨by show ys.length ≤ 4; omega, hy2, by rw [hb0, if_pos h4]; rfl, ?_⟩
            rcases hy3 with hy3 | hy3
            · exact .inl ⟨rfl, hy3.2.1, by show tb < shfF .shl .i64 1 (shfF .shl .u64 1 (ys.length : Nat)); rw [hy1]; exact hy3.2.2⟩
            · exact absurd rfl hy3.1
          · simp
        · refine ⟨by omega, by omega, cond_dec (fun h5 => ?_) fun h5 => ?_⟩
          · refine ⟨by omega, by omega, by omega, by omega, ?_⟩
            clear hkk0 hkk
            obtain ⟨kk2, hkk2⟩ : ∃ kk2 : Nat, min (kk : Int) 3 = kk2 := ⟨min kk 3, by omega⟩
            rw [hkk2]
            have hkk : kk2 ≤ 4 := by omega
            refine packed_blkA x _ _ k c 0 kk2 hkk a b d e f g (a / 4 % 16) (-1) (by omega) rfl ⟨b2, b3, b4, b5, b6⟩ ws al h1 (by omega) (GS x k 0) hab (by simp only [push_cast, reduceIte, Nat.reduceEqDiff, Nat.reduceAdd, Nat.reduceSub, Nat.reduceMul, Nat.reduceBEq, Nat.reduceLT, Nat.reduceLeDiff, reduceCtorEq, Int.reduceToNat, Int.reduceNeg]) ?_
            intro row ys tb hy1 hy2 hy3 hrow
            simp only [push_cast, reduceIte, Nat.reduceEqDiff, Nat.reduceAdd, Nat.reduceSub, Nat.reduceMul, Nat.reduceBEq, Nat.reduceLT, Nat.reduceLeDiff, reduceCtorEq, Int.reduceToNat, Int.reduceNeg]
            refine ⟨by omega, _, ?_, 1, al ++ [(k : Int) + 2 * (0 : Nat)], [row], bs ++ [⟨ys, tb, (a / 4 % 16), (-1), 0⟩], by omega, rfl, ?_, ?_, ?_, ?_, ?_, ?_, .inr ⟨by omega, ?_⟩⟩
            · omega
            · simp
            · simp; omega
            · exact GS.snoc hab
            · rfl
            · rw [hbs0]; exact ⟨hrow, trivial⟩
            · have hbn : bs.length = 0 := by simp [hbs0]
              refine hbs.snoc ?_
              rw [hbn]
              refine ⟨by show ys.length ≤ 4; omega, hy2, by rw [hb0, if_neg h4], ?_⟩
              rcases hy3 with hy3 | hy3
              · exact absurd hy3.1 (by omega)
              · exact .inr ⟨by show 0 ≤ a / 4 % 16; omega, by show a / 4 % 16 ≤ 15; omega, by show ys.length ≤ 3; omega, hy3.2, rfl⟩
            · simp
          · skip
            refine packed_blkA x _ _ k c 0 kk hkk a b d e f g (-1) (-1) (by omega) rfl ⟨b2, b3, b4, b5, b6⟩ ws al h1 (by omega) (GS x k 0) hab (by simp only [push_cast, reduceIte, Nat.reduceEqDiff, Nat.reduceAdd, Nat.reduceSub, Nat.reduceMul, Nat.reduceBEq, Nat.reduceLT, Nat.reduceLeDiff, reduceCtorEq, Int.reduceToNat, Int.reduceNeg]) ?_
            intro row ys tb hy1 hy2 hy3 hrow
            simp only [push_cast, reduceIte, Nat.reduceEqDiff, Nat.reduceAdd, Nat.reduceSub, Nat.reduceMul, Nat.reduceBEq, Nat.reduceLT, Nat.reduceLeDiff, reduceCtorEq, Int.reduceToNat, Int.reduceNeg]
            refine ⟨by omega, _, ?_, 1, al ++ [(k : Int) + 2 * (0 : Nat)], [row], bs ++ [⟨ys, tb, (-1), (-1), 0⟩], by omega, rfl, ?_, ?_, ?_, ?_, ?_, ?_, .inr ⟨by omega, ?_⟩⟩
            · omega
            · simp
            · simp; omega
            · exact GS.snoc hab
            · rfl
            · rw [hbs0]; exact ⟨hrow, trivial⟩
            · have hbn : bs.length = 0 := by simp [hbs0]
              refine hbs.snoc ?_
              rw [hbn]
              refine ⟨by show ys.length ≤ 4; omega, hy2, by rw [hb0, if_neg h4], ?_⟩
              rcases hy3 with hy3 | hy3
              · exact .inl ⟨rfl, hy3.2.1, by show tb < shfF .shl .i64 1 (shfF .shl .u64 1 (ys.length : Nat)); rw [hy1]; exact hy3.2.2⟩
              · exact absurd rfl hy3.1
            · simp
      · have hic : 0 = c := by omega
        refine wk_of ⟨[(1, .ptr 1 0), (2, .ptr 2 0), (3, .ptr 3 0), (5, .int k), (6, .int c), (9, .view 64 0 al.length), (11, .int c), (77, .int c), (78, .int c), (79, .bool false)],
          [(1, rawPC false x), (2, [.nil, .nil, .nil, .nil]), (3, [.view 33 0 k, .nil, .nil, .nil])], [(33, ⟨3, 93, rows wireC ws⟩), (64, ⟨1, 3, ints al⟩)], []⟩ ?_
          (packed_tail0 x hx k c hk hc ws hws hww al h1 (by omega) (hic ▸ hab) [] (by simp; omega) (fun t ht => absurd ht (Nat.not_lt_zero t)) (by omega))
        simp only [push_cast, reduceIte, Nat.reduceEqDiff, Nat.reduceAdd, Nat.reduceSub, Nat.reduceMul, Nat.reduceBEq, Nat.reduceLT, Nat.reduceLeDiff, reduceCtorEq, Int.reduceToNat, Int.reduceNeg]
        simp [← hic]
    · simp only [push_cast, reduceIte, Nat.reduceEqDiff, Nat.reduceAdd, Nat.reduceSub, Nat.reduceMul, Nat.reduceBEq, Nat.reduceLT, Nat.reduceLeDiff, reduceCtorEq, Int.reduceToNat, Int.reduceNeg]
      refine cond_dec (fun h3 => ?_) fun h3 => ?_
      · obtain ⟨a, b, d, e, f, g, hb, b1, b2, b3, b4, b5, b6⟩ := hx.at (show i < x.blocks.length by omega)
        have hb0 : b0 x i = a := by rw [b0, hb]; rfl
        rw [hb]
        simp only [push_cast, reduceIte, Nat.reduceEqDiff, Nat.reduceAdd, Nat.reduceSub, Nat.reduceMul, Nat.reduceBEq, Nat.reduceLT, Nat.reduceLeDiff, reduceCtorEq, Int.reduceToNat, Int.reduceNeg]
        obtain ⟨kk, hkk0⟩ : ∃ kk : Nat, b % 5 = kk := ⟨(b % 5).toNat, by omega⟩
        have hkk : kk ≤ 4 := by omega
        rw [hkk0]
        refine ⟨by omega, by omega, by omega, by omega, by omega, by omega, by omega, ?_⟩
        refine cond_dec (fun h4 => ?_) fun h4 => ?_
        · refine ⟨by omega, by omega, cond_dec (fun h5 => absurd h5 (by omega)) fun h5 => ?_⟩
          refine packed_blkB x _ _ k c i kk hkk a b d e f g (-1) i (by omega) R hR ⟨b2, b3, b4, b5, b6⟩ ws al h1 (by omega) (GS x k i) hab (by simp only [push_cast, reduceIte, Nat.reduceEqDiff, Nat.reduceAdd, Nat.reduceSub, Nat.reduceMul, Nat.reduceBEq, Nat.reduceLT, Nat.reduceLeDiff, reduceCtorEq, Int.reduceToNat, Int.reduceNeg]) ?_
          intro row ys tb hy1 hy2 hy3 hrow
          simp only [push_cast, reduceIte, Nat.reduceEqDiff, Nat.reduceAdd, Nat.reduceSub, Nat.reduceMul, Nat.reduceBEq, Nat.reduceLT, Nat.reduceLeDiff, reduceCtorEq, Int.reduceToNat, Int.reduceNeg]
          refine ⟨by omega, _, ?_, i + 1, al ++ [(k : Int) + 2 * i], R ++ [row], bs ++ [⟨ys, tb, (-1), i, 0⟩], by omega, rfl, ?_, ?_, ?_, ?_, ?_, ?_, .inr ⟨by omega, ?_⟩⟩
          · omega
          · simp
          · simp; omega
          · exact GS.snoc hab
          · simp [hR]
          · have := SubR.app (us := [row]) (vs := [blockC true ⟨ys, tb, (-1), i, 0⟩]) hsub ⟨hrow, trivial⟩; simpa [rows] using this
          · have hbn : bs.length = i := by have := hsub.len; simp [rows] at this; omega
            refine hbs.snoc ?_
            rw [hbn]
            refine ⟨by show ys.length ≤ 4; omega, hy2, by rw [hb0, if_pos h4], ?_⟩
            rcases hy3 with hy3 | hy3
            · exact .inl ⟨rfl, hy3.2.1, by show tb < shfF .shl .i64 1 (shfF .shl .u64 1 (ys.length : Nat)); rw [hy1]; exact hy3.2.2⟩
            · exact absurd rfl hy3.1
          · simp
        · refine ⟨by omega, by omega, cond_dec (fun h5 => ?_) fun h5 => ?_⟩
          · refine ⟨by omega, by omega, by omega, by omega, ?_⟩
            clear hkk0 hkk
            obtain ⟨kk2, hkk2⟩ : ∃ kk2 : Nat, min (kk : Int) 3 = kk2 := ⟨min kk 3, by omega⟩
            rw [hkk2]
            have hkk : kk2 ≤ 4 := by omega
            refine packed_blkB x _ _ k c i kk2 hkk a b d e f g (a / 4 % 16) (-1) (by omega) R hR ⟨b2, b3, b4, b5, b6⟩ ws al h1 (by omega) (GS x k i) hab (by simp only [push_cast, reduceIte, Nat.reduceEqDiff, Nat.reduceAdd, Nat.reduceSub, Nat.reduceMul, Nat.reduceBEq, Nat.reduceLT, Nat.reduceLeDiff, reduceCtorEq, Int.reduceToNat, Int.reduceNeg]) ?_
            intro row ys tb hy1 hy2 hy3 hrow
            simp only [push_cast, reduceIte, Nat.reduceEqDiff, Nat.reduceAdd, Nat.reduceSub, Nat.reduceMul, Nat.reduceBEq, Nat.reduceLT, Nat.reduceLeDiff, reduceCtorEq, Int.reduceToNat, Int.reduceNeg]
            refine ⟨by omega, _, ?_, i + 1, al ++ [(k : Int) + 2 * i], R ++ [row], bs ++ [⟨ys, tb, (a / 4 % 16), (-1), 0⟩], by omega, rfl, ?_, ?_, ?_, ?_, ?_, ?_, .inr ⟨by omega, ?_⟩⟩
            · omega
            · simp
            · simp; omega
            · exact GS.snoc hab
            · simp [hR]
            · have := SubR.app (us := [row]) (vs := [blockC true ⟨ys, tb, (a / 4 % 16), (-1), 0⟩]) hsub ⟨hrow, trivial⟩; simpa [rows] using this
            · have hbn : bs.length = i := by have := hsub.len; simp [rows] at this; omega
              refine hbs.snoc ?_
              rw [hbn]
              refine ⟨by show ys.length ≤ 4; omega, hy2, by rw [hb0, if_neg h4], ?_⟩
              rcases hy3 with hy3 | hy3
              · exact absurd hy3.1 (by omega)
              · exact .inr ⟨by show 0 ≤ a / 4 % 16; omega, by show a / 4 % 16 ≤ 15; omega, by show ys.length ≤ 3; omega, hy3.2, rfl⟩
            · simp
          · skip
            refine packed_blkB x _ _ k c i kk hkk a b d e f g (-1) (-1) (by omega) R hR ⟨b2, b3, b4, b5, b6⟩ ws al h1 (by omega) (GS x k i) hab (by simp only [push_cast, reduceIte, Nat.reduceEqDiff, Nat.reduceAdd, Nat.reduceSub, Nat.reduceMul, Nat.reduceBEq, Nat.reduceLT, Nat.reduceLeDiff, reduceCtorEq, Int.reduceToNat, Int.reduceNeg]) ?_
            intro row ys tb hy1 hy2 hy3 hrow
            simp only [push_cast, reduceIte, Nat.reduceEqDiff, Nat.reduceAdd, Nat.reduceSub, Nat.reduceMul, Nat.reduceBEq, Nat.reduceLT, Nat.reduceLeDiff, reduceCtorEq, Int.reduceToNat, Int.reduceNeg]
            refine ⟨by omega, _, ?_, i + 1, al ++ [(k : Int) + 2 * i], R ++ [row], bs ++ [⟨ys, tb, (-1), (-1), 0⟩], by omega, rfl, ?_, ?_, ?_, ?_, ?_, ?_, .inr ⟨by omega, ?_⟩⟩
            · omega
            · simp
            · simp; omega
            · exact GS.snoc hab
            · simp [hR]
            · have := SubR.app (us := [row]) (vs := [blockC true ⟨ys, tb, (-1), (-1), 0⟩]) hsub ⟨hrow, trivial⟩; simpa [rows] using this
            · have hbn : bs.length = i := by have := hsub.len; simp [rows] at this; omega
              refine hbs.snoc ?_
              rw [hbn]
              refine ⟨by show ys.length ≤ 4; omega, hy2, by rw [hb0, if_neg h4], ?_⟩
              rcases hy3 with hy3 | hy3
              · exact .inl ⟨rfl, hy3.2.1, by show tb < shfF .shl .i64 1 (shfF .shl .u64 1 (ys.length : Nat)); rw [hy1]; exact hy3.2.2⟩
              · exact absurd rfl hy3.1
            · simp
      · have hic : i = c := by omega
        subst hic
        refine wk_of ⟨[(1, .ptr 1 0), (2, .ptr 2 0), (3, .ptr 3 0), (5, .int k), (6, .int i), (9, .view 64 0 al.length), (11, .int i), (77, .int i), (78, .int i), (79, .bool false)],
          [(1, rawPC false x), (2, [.nil, .nil, .nil, .nil]), (3, [.view 33 0 k, .view 156 0 i, .nil, .nil])], [(33, ⟨3, 93, rows wireC ws⟩), (64, ⟨1, 3, ints al⟩), (156, ⟨5, 71, rows (blockC true) bs⟩)], []⟩ ?_
          (packed_tail1 x hx k i hk hc ws hws hww al h1 (by omega) hab bs (by have := hsub.len; simp [rows] at this; omega) hbs (by omega))
        simp only [push_cast, reduceIte, Nat.reduceEqDiff, Nat.reduceAdd, Nat.reduceSub, Nat.reduceMul, Nat.reduceBEq, Nat.reduceLT, Nat.reduceLeDiff, reduceCtorEq, Int.reduceToNat, Int.reduceNeg]
        simpa using hsub
theorem packed_raw (x : RawP) (hx : x.Ok) : FnOK Try.prog 29 [.agg (rawPC false x)] (fun v => ∃ p : Packed, p.Gen x ∧ Sub v (.agg (packedC true p))) := by
  refine FnOK.of_awp Try.func29 ok29b (by show 1 ≤ _; decide) ?_
  simp only [ac29b, rv29b, push_cast, reduceIte, Nat.reduceEqDiff, Nat.reduceAdd, Nat.reduceSub, Nat.reduceMul, Nat.reduceBEq, Nat.reduceLT, Nat.reduceLeDiff, reduceCtorEq, Int.reduceToNat, Int.reduceNeg]
  have hi := hx.ins
  have hlen := hx.len
  obtain ⟨n, hn⟩ : ∃ n : Nat, (n : Int) = x.ins % 4 + 1 := ⟨(x.ins % 4 + 1).toNat, by omega⟩
  refine loop_of (fun m st => ∃ (k : Nat) (ws : List Wire), k ≤ n ∧ m = n - k ∧ ws.length = k ∧ (∀ w ∈ ws, w.kind = 3 ∧ 0 ≤ w.i ∧ w.bit = 0) ∧
    ((k = 0 ∧ st = ⟨[(1, .ptr 1 0), (2, .ptr 2 0), (3, .ptr 3 0), (4, .int k)], [(1, rawPC false x), (2, [.nil, .nil, .nil, .nil]), (3, [.nil, .nil, .nil, .nil])], [], []⟩) ∨
     (k ≠ 0 ∧ st = ⟨[(1, .ptr 1 0), (2, .ptr 2 0), (3, .ptr 3 0), (4, .int k)], [(1, rawPC false x), (2, [.nil, .nil, .nil, .nil]), (3, [.view 33 0 k, .nil, .nil, .nil])], [(33, ⟨3, 93, rows wireC ws⟩)], []⟩))) n ?_ ?_
  · refine ⟨0, [], by omega, by omega, rfl, by simp, .inl ⟨rfl, ?_⟩⟩
    simp only [push_cast, reduceIte, Nat.reduceEqDiff, Nat.reduceAdd, Nat.reduceSub, Nat.reduceMul, Nat.reduceBEq, Nat.reduceLT, Nat.reduceLeDiff, reduceCtorEq, Int.reduceToNat, Int.reduceNeg]
  · rintro m st ⟨k, ws, hk, rfl, hws, hww, ⟨rfl, rfl⟩ | ⟨hk0, rfl⟩⟩
    · simp only [push_cast, reduceIte, Nat.reduceEqDiff, Nat.reduceAdd, Nat.reduceSub, Nat.reduceMul, Nat.reduceBEq, Nat.reduceLT, Nat.reduceLeDiff, reduceCtorEq, Int.reduceToNat, Int.reduceNeg]
      refine ⟨⟨by omega, by omega, by omega⟩, ⟨by omega, by omega⟩, ?_⟩
      refine cond_dec (fun h => ?_) fun h => absurd h (by omega)
      refine ⟨⟨by omega, by omega⟩, _, ?_, 1, [⟨3, 0, 0⟩], by omega, rfl, rfl, by simp, .inr ⟨by omega, rfl⟩⟩
      omega
    · simp only [push_cast, reduceIte, Nat.reduceEqDiff, Nat.reduceAdd, Nat.reduceSub, Nat.reduceMul, Nat.reduceBEq, Nat.reduceLT, Nat.reduceLeDiff, reduceCtorEq, Int.reduceToNat, Int.reduceNeg]
      refine ⟨⟨by omega, by omega, by omega⟩, ⟨by omega, by omega⟩, ?_⟩
      refine cond_dec (fun h => ?_) fun h => ?_
      · refine ⟨⟨hws.symm, by omega, by omega⟩, ⟨by omega, by omega⟩, _, ?_, k + 1, ws ++ [⟨3, k, 0⟩], by omega, rfl, by simp [hws], snoc_all hww ⟨rfl, by show (0 : Int) ≤ (k : Nat); omega, rfl⟩, .inr ⟨by omega, ?_⟩⟩
        · omega
        · simp [rows, wireC]
      · have hkn : k = n := by omega
        subst hkn
        obtain ⟨c, hc⟩ : ∃ c : Nat, c = min x.blocks.length 9 := ⟨_, rfl⟩
        rw [show min (x.blocks.length : Int) 9 = (c : Int) by omega]
        refine loop_of (fun m st => ∃ (i : Nat) (fl : List Int), i ≤ c ∧ m = c - i ∧ fl.length ≤ i ∧ (∀ y ∈ fl, GS x k 0 y) ∧
          st = ⟨[(1, .ptr 1 0), (2, .ptr 2 0), (3, .ptr 3 0), (5, .int k), (6, .int c), (7, .view 42 0 fl.length), (8, .int i)], [(1, rawPC false x), (2, [.nil, .nil, .nil, .nil]), (3, [.view 33 0 k, .nil, .nil, .nil])], [(33, ⟨3, 93, rows wireC ws⟩), (42, ⟨1, 3, ints fl⟩)], []⟩) c ?_ ?_
        · refine ⟨0, [], by omega, by omega, by simp, by simp, ?_⟩
          simp only [push_cast, reduceIte, Nat.reduceEqDiff, Nat.reduceAdd, Nat.reduceSub, Nat.reduceMul, Nat.reduceBEq, Nat.reduceLT, Nat.reduceLeDiff, reduceCtorEq, Int.reduceToNat, Int.reduceNeg]
          rfl
        · rintro m st ⟨i, fl, hi2, rfl, hfl, hfb, rfl⟩
          simp only [push_cast, reduceIte, Nat.reduceEqDiff, Nat.reduceAdd, Nat.reduceSub, Nat.reduceMul, Nat.reduceBEq, Nat.reduceLT, Nat.reduceLeDiff, reduceCtorEq, Int.reduceToNat, Int.reduceNeg]
          refine cond_dec (fun h2 => ?_) fun h2 => ?_
          · obtain ⟨a, b, d, e, f, g, hb, ha, _⟩ := hx.at (show i < x.blocks.length by omega)
            have hb0 : b0 x i = a := by rw [b0, hb]; rfl
            rw [hb]
            simp only [push_cast, reduceIte, Nat.reduceEqDiff, Nat.reduceAdd, Nat.reduceSub, Nat.reduceMul, Nat.reduceBEq, Nat.reduceLT, Nat.reduceLeDiff, reduceCtorEq, Int.reduceToNat, Int.reduceNeg]
            refine ⟨⟨by omega, by omega⟩, ⟨by omega, by omega⟩, by omega, ⟨by omega, by omega, by omega⟩, ?_⟩
            refine cond_dec (fun h3 => ?_) fun h3 => ?_
            · refine ⟨⟨by omega, by omega⟩, ⟨by omega, by omega⟩, ⟨by omega, by omega⟩, by simp, ⟨by omega, by omega⟩, ⟨by omega, by omega⟩, _, ?_, i + 1, fl ++ [(k : Int) + 2 * i + 1], by omega, rfl, by simp; omega, snoc_all hfb (.inr (.inl ⟨i, by omega, by rw [hb0]; exact h3, rfl⟩)), ?_⟩
              · omega
              · simp
            · refine ⟨⟨by omega, by omega⟩, _, ?_, i + 1, fl, by omega, rfl, by omega, hfb, ?_⟩
              · omega
              · simp
          · refine loop_of (fun m st => ∃ (i : Nat) (al : List Int), i ≤ k ∧ m = k - i ∧ al.length = i ∧ (∀ y ∈ al, GS x k 0 y) ∧
              st = ⟨[(1, .ptr 1 0), (2, .ptr 2 0), (3, .ptr 3 0), (5, .int k), (6, .int c), (7, .view 42 0 fl.length), (9, .view 64 0 i), (10, .int i)], [(1, rawPC false x), (2, [.nil, .nil, .nil, .nil]), (3, [.view 33 0 k, .nil, .nil, .nil])], [(33, ⟨3, 93, rows wireC ws⟩), (42, ⟨1, 3, ints fl⟩), (64, ⟨1, 3, ints al⟩)], []⟩) k ?_ ?_
            · refine ⟨0, [], by omega, by omega, by simp, by simp, ?_⟩
              simp only [push_cast, reduceIte, Nat.reduceEqDiff, Nat.reduceAdd, Nat.reduceSub, Nat.reduceMul, Nat.reduceBEq, Nat.reduceLT, Nat.reduceLeDiff, reduceCtorEq, Int.reduceToNat, Int.reduceNeg]
              rfl
            · rintro m st ⟨i, al, hi3, rfl, hal, hab, rfl⟩
              simp only [push_cast, reduceIte, Nat.reduceEqDiff, Nat.reduceAdd, Nat.reduceSub, Nat.reduceMul, Nat.reduceBEq, Nat.reduceLT, Nat.reduceLeDiff, reduceCtorEq, Int.reduceToNat, Int.reduceNeg]
              refine cond_dec (fun h3 => ?_) fun h3 => ?_
              · refine ⟨by simp, ⟨hal.symm, by omega, by omega⟩, ⟨by omega, by omega⟩, _, ?_, i + 1, al ++ [(i : Int)], by omega, rfl, by simp [hal], snoc_all hab (.inl (by omega)), ?_⟩
                · omega
                · simp
              · refine ⟨⟨hal.symm, by omega, by omega⟩, ?_⟩
                rw [show i + fl.length = (al ++ fl).length by simp [hal]]
                exact packed_main x hx k c hn hc ws hws hww (al ++ fl) fl (by simp; omega) (by simp; omega) fun y hy => (List.mem_append.1 hy).elim (hab y) (hfb y)
theorem packed_ok (x : RawP) (hx : x.Ok) : FnOK Try.prog 29 [.agg (rawPC false x)] (fun v => ∃ p : Packed, p.Gen x ∧ v = .agg (packedC true p)) :=
  FnOK.res (FnOK.mono (packed_raw x hx) fun _ ⟨p, hp, hs⟩ => ⟨_, hs, by simp only [push_cast, reduceIte, Nat.reduceEqDiff, Nat.reduceAdd, Nat.reduceSub, Nat.reduceMul, Nat.reduceBEq, Nat.reduceLT, Nat.reduceLeDiff, reduceCtorEq, Int.reduceToNat, Int.reduceNeg] <;> simp, p, hp, rfl⟩)
end Go.Proofs.Ytbdamnfkgdbidaa
namespace Go.Proofs.Ytbdamnfkgdbidaa
open Go Go.Vc Txt
theorem kindsF_len (n : Nat) (l : List Int) : (kindsF n l).length = n := by simp [kindsF]
theorem gridF_ok {y : RawG} (hy : y.Ok) : (2 ≤ (gridF y).w ∧ (gridF y).w ≤ 5) ∧ (2 ≤ (gridF y).h ∧ (gridF y).h ≤ 5) ∧ (2 ≤ (gridF y).tracks ∧ (gridF y).tracks ≤ 4) ∧ (gridF y).pads = 24 ∧
    (4 ≤ (gridF y).w * (gridF y).h ∧ (gridF y).w * (gridF y).h ≤ 25) ∧ ((gridF y).kind.length : Int) = (gridF y).w * (gridF y).h := by
  obtain ⟨h1, h2, h3, h4, h5, h6⟩ := hy
  have hw : 2 ≤ 2 + y.w % 4 ∧ 2 + y.w % 4 ≤ 5 := by omega
  have hh : 2 ≤ 2 + y.h % 4 ∧ 2 + y.h % 4 ≤ 5 := by omega
  have hlo : 2 * 2 ≤ (2 + y.w % 4) * (2 + y.h % 4) := Int.mul_le_mul hw.1 hh.1 (by omega) (by omega)
  have hhi : (2 + y.w % 4) * (2 + y.h % 4) ≤ 5 * 5 := Int.mul_le_mul hw.2 hh.2 (by omega) (by omega)
  refine ⟨hw, hh, by show 2 ≤ 2 + y.tracks % 3 ∧ 2 + y.tracks % 3 ≤ 4; omega, rfl, ⟨hlo, hhi⟩, ?_⟩
  show ((kindsF _ _).length : Int) = _
  rw [kindsF_len]
  show (((2 + y.w % 4) * (2 + y.h % 4)).toNat : Int) = (2 + y.w % 4) * (2 + y.h % 4)
  omega
theorem withF_mem {l : List Int} {n x : Int} (h : x ∈ withF l n) : x ∈ l ∨ x = n := by
  unfold withF at h
  simp only at h
  split at h
  · exact .inl h
  · simp only [List.mem_append, List.mem_singleton] at h
    rcases h with (h | h) | h
    · exact .inl (List.mem_of_mem_take h)
    · exact .inr h
    · exact .inl (List.mem_of_mem_drop h)
theorem badF_ok {g : Grid} (hc : 0 < countF g) (l : List Int) : (badF g l).tiles.length ≤ 6 ∧ (badF g l).nodes.length ≤ 6 ∧ ∀ n ∈ (badF g l).nodes, 0 ≤ n ∧ n < countF g := by
  have key : ∀ q : Nat, ((List.range q).foldl (badStep g l) ⟨[], []⟩).tiles.length ≤ q ∧ ((List.range q).foldl (badStep g l) ⟨[], []⟩).nodes.length ≤ q ∧ ∀ n ∈ ((List.range q).foldl (badStep g l) ⟨[], []⟩).nodes, 0 ≤ n ∧ n < countF g := by
    intro q
    induction q with
    | zero => simp
    | succ q ih =>
      rw [foldl_range_succ]
      generalize (List.range q).foldl (badStep g l) ⟨[], []⟩ = s at ih ⊢
      unfold badStep
      simp only
      split
      · have := withF_len s.tiles ((256 * l.getD (2 * q) default + l.getD (2 * q + 1) default) % (g.w * g.h))
        exact ⟨by simp only; omega, by simp only; omega, ih.2.2⟩
      · have := withF_len s.nodes ((256 * l.getD (2 * q) default + l.getD (2 * q + 1) default) % countF g)
        refine ⟨by simp only; omega, by simp only; omega, fun n hn => ?_⟩
        rcases withF_mem hn with hn | rfl
        · exact ih.2.2 n hn
        · exact ⟨Int.emod_nonneg _ (by omega), Int.emod_lt_of_pos _ hc⟩
  have h := key (min 6 (l.length / 2))
  exact ⟨by have := h.1; unfold badF; omega, by have := h.2.1; unfold badF; omega, h.2.2⟩
theorem job_ok {x : RawP} (hx : x.Ok) {p : Packed} (hp : p.Gen x) {y : RawG} (hy : y.Ok) (l : List Int) : (⟨p, gridF y, badF (gridF y) l⟩ : Job).Ok := by
  obtain ⟨g1, g2, g3, g4, g5, g6⟩ := gridF_ok hy
  have hi := hx.ins
  have ho := hx.out
  have p1 := hp.ins
  have p2 := hp.nb
  have p3 := hp.out
  have p4 := hp.drive
  have hm : 0 ≤ (gridF y).w * (gridF y).h * (6 + 2 * (gridF y).tracks) ∧ (gridF y).w * (gridF y).h * (6 + 2 * (gridF y).tracks) ≤ 25 * 14 :=
    ⟨Int.mul_nonneg (by omega) (by omega), Int.mul_le_mul g5.2 (by omega) (by omega) (by omega)⟩
  have hc : 0 < countF (gridF y) ∧ countF (gridF y) ≤ 1000 := by unfold countF; omega
  obtain ⟨b1, b2, b3⟩ := badF_ok hc.1 l
  exact ⟨⟨by show 0 ≤ (gridF y).w * (gridF y).h; omega, by show (gridF y).w * (gridF y).h ≤ 1000000; omega⟩, ⟨by show 0 ≤ (gridF y).tracks; omega, by show (gridF y).tracks ≤ 1000; omega⟩, g6, by show (p.blocks.length : Int) ≤ 1000; omega, fun b hb => by have := hp.nin b hb; omega, by show (p.ins.length : Int) ≤ 1000000; omega, by show (p.out.length : Int) ≤ 1000000; omega,
    by show ((badF (gridF y) l).tiles.length : Int) ≤ 1000000; omega, by show ((badF (gridF y) l).nodes.length : Int) ≤ 1000000; omega, fun n hn => by have := b3 n hn; omega, ⟨by show 0 < (gridF y).w; omega, by show (gridF y).w ≤ 1000000; omega⟩, ⟨by show 0 < (gridF y).h; omega, by show (gridF y).h ≤ 1000000; omega⟩, by show (p.drive.length : Int) ≤ 1000; omega, hp.sb, hp.sd⟩
def genP (x : RawP) : Packed := ⟨List.replicate (x.ins % 4 + 1).toNat ⟨3, 0, 0⟩, (List.range (min x.blocks.length 9)).map fun i => ⟨[], 0, -1, if b0 x i % 4 = 1 then (i : Int) else -1, 0⟩, List.replicate (x.out % 4 + 1).toNat ⟨5, 0, 0⟩, List.replicate (x.out % 4 + 1).toNat 0⟩
theorem genP_ok {x : RawP} (hx : x.Ok) : (genP x).Gen x := by
  have hi := hx.ins
  have ho := hx.out
  have hl : ((genP x).ins.length : Int) = x.ins % 4 + 1 := by
    show ((List.replicate _ _).length : Int) = _
    rw [List.length_replicate]; omega
  refine .of hl (by simp [genP]) ?_ (by simp [genP]) (fun w hw => ?_) (fun w hw => ?_) (fun t ht => ?_) (fun s hs => ?_)
  · show ((List.replicate _ _).length : Int) = _
    rw [List.length_replicate]; omega
  · rw [List.eq_of_mem_replicate hw]; decide
  · rw [List.eq_of_mem_replicate hw]; decide
  · have ht' : t < min x.blocks.length 9 := by simpa [genP] using ht
    have : (genP x).blocks.getD t default = ⟨[], 0, -1, if b0 x t % 4 = 1 then (t : Int) else -1, 0⟩ := by
      simp only [genP, List.getD_eq_getElem?_getD, List.getElem?_map, List.getElem?_range ht', Option.map_some, Option.getD_some]
    rw [this]
    exact ⟨by simp, by simp, rfl, .inl ⟨rfl, by simp, by show (0 : Int) < shfF .shl .i64 1 (shfF .shl .u64 1 ((0 : Nat) : Int)); decide⟩⟩
  · rw [List.eq_of_mem_replicate hs]
    exact .inl ⟨by omega, by omega⟩
theorem lmade_ok (x : RawP) (hx : x.Ok) (y : RawG) (hy : y.Ok) (z : Odd) (hz : (z.bad.length : Int) ≤ 1000000) (hzb : ∀ b ∈ z.bad, 0 ≤ b ∧ b ≤ 255) :
    FnOK Try.prog 11 [.agg (rawPC false x), .agg (rawGC false y), .agg (oddC false z)] (fun v => ∃ p : Packed, p.Gen x ∧ v = .agg (jobC true ⟨p, gridF y, badF (gridF y) z.bad⟩)) := by
  obtain ⟨g1, g2, g3, g4, g5, g6⟩ := gridF_ok hy
  refine FnOK.of_awp Try.func11 ok11 (by show 3 ≤ _; decide) ?_
  simp only [ac11, rv11, push_cast, reduceIte, Nat.reduceEqDiff, Nat.reduceAdd, Nat.reduceSub, Nat.reduceMul, Nat.reduceBEq, Nat.reduceLT, Nat.reduceLeDiff, reduceCtorEq, Int.reduceToNat, Int.reduceNeg]
  refine dcal_of (packed_ok x hx) ?_ ?_
  · exact ⟨_, genP x, genP_ok hx, rfl⟩
  rintro _ ⟨p, hp, rfl⟩
  refine ⟨rfl, ?_⟩
  simp only [push_cast, reduceIte, Nat.reduceEqDiff, Nat.reduceAdd, Nat.reduceSub, Nat.reduceMul, Nat.reduceBEq, Nat.reduceLT, Nat.reduceLeDiff, reduceCtorEq, Int.reduceToNat, Int.reduceNeg]
  refine dcal_sub (made_ok y hy) (by simp only [push_cast, reduceIte, Nat.reduceEqDiff, Nat.reduceAdd, Nat.reduceSub, Nat.reduceMul, Nat.reduceBEq, Nat.reduceLT, Nat.reduceLeDiff, reduceCtorEq, Int.reduceToNat, Int.reduceNeg]) rfl ?_
  simp only [push_cast, reduceIte, Nat.reduceEqDiff, Nat.reduceAdd, Nat.reduceSub, Nat.reduceMul, Nat.reduceBEq, Nat.reduceLT, Nat.reduceLeDiff, reduceCtorEq, Int.reduceToNat, Int.reduceNeg]
  refine cal_sub (bad_ok (gridF y) ⟨by omega, by omega⟩ ⟨by omega, by omega⟩ ⟨by omega, by omega⟩ z.bad hz hzb) (by simp only [push_cast, reduceIte, Nat.reduceEqDiff, Nat.reduceAdd, Nat.reduceSub, Nat.reduceMul, Nat.reduceBEq, Nat.reduceLT, Nat.reduceLeDiff, reduceCtorEq, Int.reduceToNat, Int.reduceNeg]) ?_
  simp only [push_cast, reduceIte, Nat.reduceEqDiff, Nat.reduceAdd, Nat.reduceSub, Nat.reduceMul, Nat.reduceBEq, Nat.reduceLT, Nat.reduceLeDiff, reduceCtorEq, Int.reduceToNat, Int.reduceNeg]
  exact ⟨⟨fun _ _ => trivial, fun _ _ _ _ => trivial, fun _ _ => trivial, fun _ _ => trivial, fun _ _ => trivial, fun _ _ => trivial, fun _ _ => trivial⟩, p, hp, rfl⟩
end Go.Proofs.Ytbdamnfkgdbidaa
namespace Go.Proofs.Ytbdamnfkgdbidaa
open Go Go.Vc
def Suited (j : Job) (a : List Int) : Prop := ∀ i : Nat, i < a.length → suitsR j i (a.getD i default) = true
theorem getD_set_eq {a : List Int} {k : Nat} (h : k < a.length) (x : Int) : (a.set k x).getD k default = x := by simp [List.getD_eq_getElem?_getD, h]
theorem getD_set_ne {a : List Int} {k i : Nat} (h : k ≠ i) (x : Int) : (a.set k x).getD i default = a.getD i default := by simp [List.getD_eq_getElem?_getD, List.getElem?_set_ne h]
structure Keeps (j : Job) (fx at0 : List Int) (s : Im) : Prop where
  ok : ImOk j at0 s
  suit : Suited j at0 → Suited j s.1
  fix : ∀ i : Nat, (i : Int) ∈ fx → s.1.getD i default = at0.getD i default
end Go.Proofs.Ytbdamnfkgdbidaa
namespace Go.Proofs.Ytbdamnfkgdbidaa
open Go Go.Vc Txt
structure RawP.By (x : RawP) : Prop where
  ins : 0 ≤ x.ins ∧ x.ins ≤ 255
  out : 0 ≤ x.out ∧ x.out ≤ 255
  six : ∀ b ∈ x.blocks, b.length = 6
  byte : ∀ b ∈ x.blocks, ∀ v ∈ b, 0 ≤ v ∧ v ≤ 255
structure RawG.By (x : RawG) : Prop where
  w : 0 ≤ x.w ∧ x.w ≤ 255
  h : 0 ≤ x.h ∧ x.h ≤ 255
  tracks : 0 ≤ x.tracks ∧ x.tracks ≤ 255
  pads : 0 ≤ x.pads ∧ x.pads ≤ 255
  kind : ∀ k ∈ x.kind, 0 ≤ k ∧ k ≤ 255
structure Odd.By (z : Odd) : Prop where
  bad : ∀ b ∈ z.bad, 0 ≤ b ∧ b ≤ 255
  at_ : ∀ b ∈ z.at_, 0 ≤ b ∧ b ≤ 255
  fixed : ∀ b ∈ z.fixed, 0 ≤ b ∧ b ≤ 255
  any : ∀ b ∈ z.any, -9223372036854775808 ≤ b ∧ b ≤ 9223372036854775807
  some_ : ∀ b ∈ z.some_, -9223372036854775808 ≤ b ∧ b ≤ 9223372036854775807
  block : -9223372036854775808 ≤ z.block ∧ z.block ≤ 9223372036854775807
  tile : -9223372036854775808 ≤ z.tile ∧ z.tile ≤ 9223372036854775807
  passes : -9223372036854775808 ≤ z.passes ∧ z.passes ≤ 9223372036854775807
theorem RawP.By.ok {x : RawP} (h : x.By) (hl : x.blocks.length ≤ 9) : x.Ok := ⟨h.ins, h.out, by omega, h.six, h.byte⟩
theorem RawG.By.ok {x : RawG} (h : x.By) (hl : x.kind.length ≤ 40) : x.Ok := ⟨h.w, h.h, h.tracks, h.pads, by omega, h.kind⟩
end Go.Proofs.Ytbdamnfkgdbidaa
namespace Go.Proofs.Ytbdamnfkgdbidaa
open Go Go.Vc Txt
def rawT : List Ty := [.i .u8, .i .u8, .sl 6 [.i .u8, .i .u8, .i .u8, .i .u8, .i .u8, .i .u8]]
def gridT : List Ty := [.i .u8, .i .u8, .i .u8, .i .u8, .sl 1 [.i .u8]]
def oddT : List Ty := [.sl 1 [.i .u8], .sl 1 [.i .u8], .sl 1 [.i .u8], .sl 1 [.i .i64], .sl 1 [.i .i64], .i .i64, .i .i64, .i .i64]
theorem rowV_nil {a : List PV} (h : RowV [] a) : a = [] := List.length_eq_zero_iff.1 h.1
theorem rowV_cons {t : Ty} {ts : List Ty} {a : List PV} (h : RowV (t :: ts) a) : ∃ c r, a = c :: r ∧ CellV t c ∧ RowV ts r := by
  obtain ⟨h1, h2⟩ := h
  cases a with
  | nil => cases h1
  | cons c r => exact ⟨c, r, rfl, h2 0 t c rfl rfl, by simpa using h1, fun j t' c' ht hc => h2 (j + 1) t' c' ht hc⟩
theorem cellV_i {k : IntKind} {c : PV} (h : CellV (.i k) c) : ∃ n : Int, c = .sc (.int k n) ∧ k.min ≤ n ∧ n ≤ k.max := by
  cases h with | i k n h1 h2 => exact ⟨n, rfl, h1, h2⟩
theorem cellV_u8 {c : PV} (h : CellV (.i .u8) c) : ∃ n : Int, c = .sc (.int .u8 n) ∧ 0 ≤ n ∧ n ≤ 255 := by
  obtain ⟨n, h1, h2, h3⟩ := cellV_i h
  exact ⟨n, h1, h2, h3⟩
theorem cellV_i64 {c : PV} (h : CellV (.i .i64) c) : ∃ n : Int, c = .int n ∧ -9223372036854775808 ≤ n ∧ n ≤ 9223372036854775807 := by
  obtain ⟨n, h1, h2, h3⟩ := cellV_i h
  exact ⟨n, h1, h2, h3⟩
theorem cellV_sl {es : Nat} {ts : List Ty} {c : PV} (h : CellV (.sl es ts) c) : ∃ rs : List (List PV), c = .sl true es rs ∧ rs.length ≤ maxLen ∧ ∀ r ∈ rs, RowV ts r := by
  cases h with | sl es ts rs h1 h2 h3 => exact ⟨rs, rfl, h1, fun r hr => ⟨h2 r hr, h3 r hr⟩⟩
theorem rows_all {α : Type} {f : α → List PV} {Q : α → Prop} : ∀ {rs : List (List PV)}, (∀ r ∈ rs, ∃ x, r = f x ∧ Q x) → ∃ l : List α, rs = rows f l ∧ ∀ x ∈ l, Q x
  | [], _ => ⟨[], rfl, fun x hx => by cases hx⟩
  | r :: rs, h => by
    obtain ⟨x, rfl, hx⟩ := h r (by simp)
    obtain ⟨l, rfl, hl⟩ := rows_all (f := f) (Q := Q) (rs := rs) fun r hr => h r (by simp [hr])
    refine ⟨x :: l, rfl, fun y hy => ?_⟩
    rcases List.mem_cons.1 hy with rfl | hy
    · exact hx
    · exact hl y hy
theorem cellV_bytes {c : PV} (h : CellV (.sl 1 [.i .u8]) c) : ∃ l : List Int, c = .sl true 1 (bytes8 l) ∧ ∀ b ∈ l, 0 ≤ b ∧ b ≤ 255 := by
  obtain ⟨rs, rfl, _, h2⟩ := cellV_sl h
  obtain ⟨l, rfl, hl⟩ := rows_all (f := fun x : Int => [PV.sc (.int .u8 x)]) (Q := fun b => 0 ≤ b ∧ b ≤ 255) (rs := rs) fun r hr => by
    obtain ⟨c, q, rfl, hc, h3⟩ := rowV_cons (h2 r hr)
    obtain ⟨n, rfl, hn⟩ := cellV_u8 hc
    rw [rowV_nil h3]
    exact ⟨n, rfl, hn⟩
  exact ⟨l, rfl, hl⟩
theorem cellV_ints {c : PV} (h : CellV (.sl 1 [.i .i64]) c) : ∃ l : List Int, c = .sl true 1 (ints l) ∧ ∀ b ∈ l, -9223372036854775808 ≤ b ∧ b ≤ 9223372036854775807 := by
  obtain ⟨rs, rfl, _, h2⟩ := cellV_sl h
  obtain ⟨l, rfl, hl⟩ := rows_all (f := fun x : Int => [PV.int x]) (Q := fun b => -9223372036854775808 ≤ b ∧ b ≤ 9223372036854775807) (rs := rs) fun r hr => by
    obtain ⟨c, q, rfl, hc, h3⟩ := rowV_cons (h2 r hr)
    obtain ⟨n, rfl, hn⟩ := cellV_i64 hc
    rw [rowV_nil h3]
    exact ⟨n, rfl, hn⟩
  exact ⟨l, rfl, hl⟩
theorem rowV_bytes : ∀ {n : Nat} {a : List PV}, RowV (List.replicate n (.i .u8)) a → ∃ l : List Int, a = bytesC l ∧ l.length = n ∧ ∀ b ∈ l, 0 ≤ b ∧ b ≤ 255
  | 0, a, h => ⟨[], by rw [rowV_nil h]; rfl, rfl, fun b hb => by cases hb⟩
  | n + 1, a, h => by
    obtain ⟨c, q, rfl, hc, h3⟩ := rowV_cons h
    obtain ⟨x, rfl, hx⟩ := cellV_u8 hc
    obtain ⟨l, rfl, h1, h2⟩ := rowV_bytes (n := n) h3
    refine ⟨x :: l, rfl, by simp [h1], fun y hy => ?_⟩
    rcases List.mem_cons.1 hy with rfl | hy
    · exact hx
    · exact h2 y hy
theorem rawP_of {a : List PV} (h : RowV rawT a) : ∃ x : RawP, x.By ∧ a = rawPC true x := by
  obtain ⟨c0, a0, rfl, h0, k0⟩ := rowV_cons h
  obtain ⟨c1, a1, rfl, h1, k1⟩ := rowV_cons k0
  obtain ⟨c2, a2, rfl, h2, k2⟩ := rowV_cons k1
  obtain ⟨n0, rfl, b0⟩ := cellV_u8 h0
  obtain ⟨n1, rfl, b1⟩ := cellV_u8 h1
  obtain ⟨rs, rfl, _, h3⟩ := cellV_sl h2
  obtain ⟨l, rfl, hl⟩ := rows_all (f := bytesC) (Q := fun b => b.length = 6 ∧ ∀ v ∈ b, 0 ≤ v ∧ v ≤ 255) (rs := rs) fun r hr => by
    obtain ⟨l, h4, h5⟩ := rowV_bytes (n := 6) (h3 r hr)
    exact ⟨l, h4, h5⟩
  rw [rowV_nil k2]
  exact ⟨⟨n0, n1, l⟩, ⟨b0, b1, fun b hb => (hl b hb).1, fun b hb => (hl b hb).2⟩, rfl⟩
theorem rawG_of {a : List PV} (h : RowV gridT a) : ∃ x : RawG, x.By ∧ a = rawGC true x := by
  obtain ⟨c0, a0, rfl, h0, k0⟩ := rowV_cons h
  obtain ⟨c1, a1, rfl, h1, k1⟩ := rowV_cons k0
  obtain ⟨c2, a2, rfl, h2, k2⟩ := rowV_cons k1
  obtain ⟨c3, a3, rfl, h3, k3⟩ := rowV_cons k2
  obtain ⟨c4, a4, rfl, h4, k4⟩ := rowV_cons k3
  obtain ⟨n0, rfl, b0⟩ := cellV_u8 h0
  obtain ⟨n1, rfl, b1⟩ := cellV_u8 h1
  obtain ⟨n2, rfl, b2⟩ := cellV_u8 h2
  obtain ⟨n3, rfl, b3⟩ := cellV_u8 h3
  obtain ⟨l, rfl, hl⟩ := cellV_bytes h4
  rw [rowV_nil k4]
  exact ⟨⟨n0, n1, n2, n3, l⟩, ⟨b0, b1, b2, b3, hl⟩, rfl⟩
theorem odd_of {a : List PV} (h : RowV oddT a) : ∃ x : Odd, x.By ∧ a = oddC true x := by
  obtain ⟨c0, a0, rfl, h0, k0⟩ := rowV_cons h
  obtain ⟨c1, a1, rfl, h1, k1⟩ := rowV_cons k0
  obtain ⟨c2, a2, rfl, h2, k2⟩ := rowV_cons k1
  obtain ⟨c3, a3, rfl, h3, k3⟩ := rowV_cons k2
  obtain ⟨c4, a4, rfl, h4, k4⟩ := rowV_cons k3
  obtain ⟨c5, a5, rfl, h5, k5⟩ := rowV_cons k4
  obtain ⟨c6, a6, rfl, h6, k6⟩ := rowV_cons k5
  obtain ⟨c7, a7, rfl, h7, k7⟩ := rowV_cons k6
  obtain ⟨l0, rfl, b0⟩ := cellV_bytes h0
  obtain ⟨l1, rfl, b1⟩ := cellV_bytes h1
  obtain ⟨l2, rfl, b2⟩ := cellV_bytes h2
  obtain ⟨l3, rfl, b3⟩ := cellV_ints h3
  obtain ⟨l4, rfl, b4⟩ := cellV_ints h4
  obtain ⟨n5, rfl, b5⟩ := cellV_i64 h5
  obtain ⟨n6, rfl, b6⟩ := cellV_i64 h6
  obtain ⟨n7, rfl, b7⟩ := cellV_i64 h7
  rw [rowV_nil k7]
  exact ⟨⟨l0, l1, l2, l3, l4, n5, n6, n7⟩, ⟨b0, b1, b2, b3, b4, b5, b6, b7⟩, rfl⟩
theorem law_true {f : Nat} (hok : ∀ (x : RawP), x.By → ∀ (y : RawG), y.By → ∀ (z : Odd), z.By → FnEq Try.prog f [.agg (rawPC false x), .agg (rawGC false y), .agg (oddC false z)] (.bool true))
    {a b c : List PV} (ha : RowV rawT a) (hb : RowV gridT b) (hc : RowV oddT c) : FnEq Try.prog f [.agg a, .agg b, .agg c] (.bool true) := by
  obtain ⟨x, hx, rfl⟩ := rawP_of ha
  obtain ⟨y, hy, rfl⟩ := rawG_of hb
  obtain ⟨z, hz, rfl⟩ := odd_of hc
  refine FnOK.sub (hok x hx y hy z hz) ⟨Sub.aggL ?_, Sub.aggL ?_, Sub.aggL ?_, trivial⟩
  · exact ⟨.refl _, .refl _, .slp _ _ _ _ (fun h => by cases h), trivial⟩
  · exact ⟨.refl _, .refl _, .refl _, .refl _, .slp _ _ _ _ (fun h => by cases h), trivial⟩
  · exact ⟨.slp _ _ _ _ (fun h => by cases h), .slp _ _ _ _ (fun h => by cases h), .slp _ _ _ _ (fun h => by cases h), .slp _ _ _ _ (fun h => by cases h), .slp _ _ _ _ (fun h => by cases h), .refl _, .refl _, .refl _, trivial⟩
end Go.Proofs.Ytbdamnfkgdbidaa
namespace Go.Proofs.Ytbdamnfkgdbidaa
open Go Go.Vc Txt
end Go.Proofs.Ytbdamnfkgdbidaa
namespace Go.Proofs.Ytbdamnfkgdbidaa
open Go Go.Vc Txt
theorem nodup_sub : ∀ {l m : List Int}, l.Nodup → (∀ x ∈ l, x ∈ m) → l.length ≤ m.length
  | [], _, _, _ => by simp
  | x :: l, m, hn, h => by
    rw [List.nodup_cons] at hn
    have hx := h x (by simp)
    have := nodup_sub (l := l) (m := m.erase x) hn.2 fun y hy => by
      have hne : y ≠ x := fun e => hn.1 (e ▸ hy)
      exact (List.mem_erase_of_ne hne).2 (h y (by simp [hy]))
    rw [List.length_erase_of_mem hx] at this
    have := List.length_pos_of_mem hx
    simp only [List.length_cons]
    omega
theorem ofNat_nodup : ∀ n : Nat, ((List.range n).map Int.ofNat).Nodup := fun n => by
  refine List.pairwise_iff_getElem.2 fun i k hi hk hik e => ?_
  simp at e; omega
def roomB (p : Packed) (w h tr pd : Int) (c : PV) : List PV := [.sl true 3 (rows wireC p.ins), .sl true 5 (rows (blockC true) p.blocks), .sl true 3 (rows wireC p.out), .sl true 1 (ints p.drive), .int w, .int h, .int tr, .int pd, c, .nil, .nil]
@[push_cast] theorem roomB_eq (p : Packed) (w h tr pd : Int) (c : PV) : roomB p w h tr pd c = [.sl true 3 (rows wireC p.ins), .sl true 5 (rows (blockC true) p.blocks), .sl true 3 (rows wireC p.out), .sl true 1 (ints p.drive), .int w, .int h, .int tr, .int pd, c, .nil, .nil] := rfl
end Go.Proofs.Ytbdamnfkgdbidaa
namespace Go.Proofs.Ytbdamnfkgdbidaa.Txt
open Go Go.Vc
set_option maxRecDepth 100000
def ac14d_r8 : AC :=
 (.seq (.seq (.reg [0, 67, 1, 2, 5, 6, 7] [
 ⟨some 8, none, .mv (.c (.sc (.int .i64 0)))⟩])
 (.block 2
 (.loop [0, 67, 1, 2, 5, 6, 7, 8]
 (.seq (.seq (.reg [0, 67, 1, 2, 5, 6, 7, 8] [
 ⟨some 36, none, .mv (.t 8)⟩, ⟨some 37, none, .fa 4 (.t 2)⟩, ⟨some 38, none, .fa 0 (.t 37)⟩, ⟨some 39, none, .ld false 1 (.t 38)⟩, ⟨some 40, none, .fa 4 (.t 2)⟩, ⟨some 41, none, .fa 1 (.t 40)⟩, ⟨some 42, none, .ld false 1 (.t 41)⟩, ⟨some 43, none, .ari .mul true .i64 (.t 39) (.t 42)⟩, ⟨some 44, none, .cmp .lss .i64 (.t 36) (.t 43)⟩, ⟨some 45, none, .mv (.t 44)⟩, ⟨some 46, some (45, true), .mv (.t 5)⟩, ⟨some 47, some (45, true), .mv (.t 7)⟩, ⟨some 48, some (45, true), .cal 26 [(.t 46), (.t 47)]⟩, ⟨some 49, none, .pick (.t 45) (.t 48) (.c (.sc (.bool false)))⟩])
 (.cut [0, 67, 1, 2, 5, 6, 7, 8, 49] (.cond (.t 49)
 .skip
 (.exit 2))))
 (.seq (.block 3
 (.reg [0, 67, 1, 2, 5, 6, 7, 8] [
 ⟨some 52, none, .mv (.t 7)⟩, ⟨some 53, none, .ari .add true .i64 (.t 52) (.c (.sc (.int .i64 1)))⟩, ⟨some 54, none, .fa 4 (.t 2)⟩, ⟨some 55, none, .fa 0 (.t 54)⟩, ⟨some 56, none, .ld false 1 (.t 55)⟩, ⟨some 57, none, .fa 4 (.t 2)⟩, ⟨some 58, none, .fa 1 (.t 57)⟩, ⟨some 59, none, .ld false 1 (.t 58)⟩, ⟨some 60, none, .ari .mul true .i64 (.t 56) (.t 59)⟩, ⟨some 61, none, .dvd .rem true .i64 (.t 53) (.t 60)⟩, ⟨some 7, none, .mv (.t 61)⟩]))
 (.reg [0, 67, 1, 2, 5, 6, 7, 8] [
 ⟨some 50, none, .mv (.t 8)⟩, ⟨some 51, none, .ari .add true .i64 (.t 50) (.c (.sc (.int .i64 1)))⟩, ⟨some 8, none, .mv (.t 51)⟩]))))))
 (.reg [0, 67, 1, 2, 5, 6, 7] [
 ⟨some 62, none, .mv (.t 5)⟩, ⟨some 63, none, .mv (.t 7)⟩, ⟨some 64, none, .bsl 1 3 [.sc (.int .i64 0)] 1 [(0, (.t 63))]⟩, ⟨some 65, none, .app 1 3 8 (.t 62) (.t 64)⟩, ⟨some 5, none, .mv (.t 65)⟩]))
def ac14d : AC :=
 (.seq (.reg [0, 67, 0, 1] [
 ⟨some 2, none, .box (.t 0)⟩, ⟨some 4, none, .mv (.c (.nil))⟩])
 (.seq (.reg [0, 67, 1, 2] [
 ⟨some 9, none, .bsl 1 3 [.sc (.int .i64 0)] 0 []⟩, ⟨some 5, none, .mv (.t 9)⟩])
 (.seq (.seq (.reg [0, 67, 1, 2, 5] [
 ⟨some 6, none, .mv (.c (.sc (.int .i64 0)))⟩])
 (.block 0
 (.loop [0, 67, 1, 2, 5, 6]
 (.seq (.seq (.reg [0, 67, 1, 2, 5, 6] [
 ⟨some 10, none, .mv (.t 6)⟩, ⟨some 11, none, .fa 0 (.t 2)⟩, ⟨some 12, none, .fa 1 (.t 11)⟩, ⟨some 13, none, .ld false 1 (.t 12)⟩, ⟨some 14, none, .len (.t 13)⟩, ⟨some 15, none, .cmp .lss .i64 (.t 10) (.t 14)⟩])
 (.cond (.t 15)
 .skip
 (.exit 0)))
 (.seq (.block 1
 (.seq (.reg [0, 67, 1, 2, 5, 6] [
 ⟨some 18, none, .mv (.t 6)⟩, ⟨some 7, none, .mv (.t 18)⟩])
 (.seq (.seq (.reg [0, 67, 1, 2, 5, 6, 7] [
 ⟨some 19, none, .mv (.t 6)⟩, ⟨some 20, none, .mv (.t 1)⟩, ⟨some 21, none, .len (.t 20)⟩, ⟨some 22, none, .cmp .lss .i64 (.t 19) (.t 21)⟩])
 (.cond (.t 22)
 (.drw [0, 67, 1, 2, 5, 6] [
 ⟨⟨some 23, none, .mv (.t 1)⟩, [], [], true⟩, ⟨⟨some 24, none, .mv (.t 6)⟩, [], [], true⟩, ⟨⟨some 25, none, .ixs 1 (.t 23) (.t 24)⟩, [], [], true⟩, ⟨⟨some 26, none, .ld false 1 (.t 25)⟩, [], [], true⟩, ⟨⟨some 27, none, .cnv true .i64 (.t 26)⟩, [], [], true⟩, ⟨⟨some 28, none, .fa 4 (.t 2)⟩, [], [], true⟩, ⟨⟨some 29, none, .fa 0 (.t 28)⟩, [], [], true⟩, ⟨⟨some 30, none, .ld false 1 (.t 29)⟩, [], [], true⟩, ⟨⟨some 31, none, .fa 4 (.t 2)⟩, [], [], true⟩, ⟨⟨some 32, none, .fa 1 (.t 31)⟩, [], [], true⟩, ⟨⟨some 33, none, .ld false 1 (.t 32)⟩, [], [], true⟩, ⟨⟨some 34, none, .ari .mul true .i64 (.t 30) (.t 33)⟩, [], [], true⟩, ⟨⟨some 35, none, .dvd .rem true .i64 (.t 27) (.t 34)⟩, [], [], false⟩, ⟨⟨some 7, none, .mv (.t 35)⟩, [], [], false⟩])
 .skip))
 ac14d_r8)))
 (.reg [0, 67, 1, 2, 5, 6] [
 ⟨some 16, none, .mv (.t 6)⟩, ⟨some 17, none, .ari .add true .i64 (.t 16) (.c (.sc (.int .i64 1)))⟩, ⟨some 6, none, .mv (.t 17)⟩]))))))
 (.seq (.reg [0, 67, 5] [
 ⟨some 66, none, .mv (.t 5)⟩, ⟨some 4, none, .mv (.t 66)⟩])
 .ret))))
def rv14d : List RV := [.tmp 4]
theorem ok14d : fnOk Try.prog ac14d rv14d Try.f14 = true := by kernel_rfl
end Go.Proofs.Ytbdamnfkgdbidaa.Txt
namespace Go.Proofs.Ytbdamnfkgdbidaa
open Go Go.Vc Txt
def bumpF (m : Int) (out : List Int) : Nat → Int → Int
  | 0, t => t
  | n + 1, t => if t ∈ out then bumpF m out n ((t + 1) % m) else t
def tileF (j : Job) (l out : List Int) (i : Nat) : Int :=
  bumpF (j.g.w * j.g.h) out (j.g.w * j.g.h).toNat (if i < l.length then l.getD i default % (j.g.w * j.g.h) else i)
def tilesN (j : Job) (l : List Int) : Nat → List Int
  | 0 => []
  | n + 1 => tilesN j l n ++ [tileF j l (tilesN j l n) n]
def tilesF (j : Job) (l : List Int) : List Int := tilesN j l j.p.blocks.length
theorem tilesN_len (j : Job) (l : List Int) : ∀ n, (tilesN j l n).length = n
  | 0 => rfl
  | n + 1 => by simp [tilesN, tilesN_len j l n]
theorem tiles_in (j : Job) (hj : j.Ok) (l : List Int) (i : Nat) (hi : i ≤ 1000) (t : Int) (ht : 0 ≤ t ∧ t ≤ 1000000) (out : List Int) (hlen : out.length = i) (Q : Exit → St → Prop) (st : St)
    (hst : st.keepS [0, 67, 1, 2, 5, 6, 7] = ⟨[(1, .sl false 1 (bytes8 l)), (2, .ptr 2 0), (5, .view 9 0 i), (6, .int i), (7, .int t)], [(2, jobC false j)], [(9, ⟨1, 3, ints out⟩)], []⟩)
    (hQ : ∀ t' : Int, t' = bumpF (j.g.w * j.g.h) out (j.g.w * j.g.h).toNat t → Q .normal ⟨[(1, .sl false 1 (bytes8 l)), (2, .ptr 2 0), (5, .view 9 0 (i + 1)), (6, .int i), (7, .int t'), (62, .bot), (63, .int t'), (64, .view 64 0 1), (65, .view 9 0 (i + 1))], [(2, jobC false j)], [(9, ⟨1, 3, ints (out ++ [t'])⟩), (64, ⟨1, 3, ints [t']⟩)], []⟩) :
    awp (Env.of Try.prog) ac14d_r8 Q st := by
  simp only [ac14d_r8, push_cast, reduceIte, Nat.reduceEqDiff, Nat.reduceAdd, Nat.reduceSub, Nat.reduceMul, Nat.reduceBEq, Nat.reduceLT, Nat.reduceLeDiff, reduceCtorEq, Int.reduceToNat, Int.reduceNeg, hst]
  have hwh := hj.wh
  have hpos : 0 < j.g.w * j.g.h := Int.mul_pos hj.w.1 hj.h.1
  obtain ⟨m, hm⟩ : ∃ m : Int, j.g.w * j.g.h = m := ⟨_, rfl⟩
  rw [hm] at hwh hpos hQ
  refine loop_of (fun n st => ∃ (q : Nat) (t' : Int), (q : Int) ≤ m ∧ n = m.toNat - q ∧ (0 ≤ t' ∧ t' ≤ 1000000) ∧ bumpF m out (m.toNat - q) t' = bumpF m out m.toNat t ∧
    st = ⟨[(1, .sl false 1 (bytes8 l)), (2, .ptr 2 0), (5, .view 9 0 i), (6, .int i), (7, .int t'), (8, .int q)], [(2, jobC false j)], [(9, ⟨1, 3, ints out⟩)], []⟩) m.toNat ?_ ?_
  · refine ⟨0, t, by omega, by omega, ht, rfl, ?_⟩
    simp only [push_cast, reduceIte, Nat.reduceEqDiff, Nat.reduceAdd, Nat.reduceSub, Nat.reduceMul, Nat.reduceBEq, Nat.reduceLT, Nat.reduceLeDiff, reduceCtorEq, Int.reduceToNat, Int.reduceNeg]
  · rintro n st ⟨q, t', hq, rfl, ht', hF, rfl⟩
    simp only [push_cast, reduceIte, Nat.reduceEqDiff, Nat.reduceAdd, Nat.reduceSub, Nat.reduceMul, Nat.reduceBEq, Nat.reduceLT, Nat.reduceLeDiff, reduceCtorEq, Int.reduceToNat, Int.reduceNeg, hm]
    refine ⟨by omega, ?_⟩
    refine cut_of ⟨[(1, .sl false 1 (bytes8 l)), (2, .ptr 2 0), (5, .view 9 0 i), (6, .int i), (7, .int t'), (8, .int q), (49, .bool (decide ((q : Int) < m ∧ t' ∈ out)))], [(2, jobC false j)], [(9, ⟨1, 3, ints out⟩)], []⟩ ?_ ?_
    · refine grd_dec rfl (fun h1 => ?_) fun h1 => ?_ <;> simp only [push_cast, reduceIte, Nat.reduceEqDiff, Nat.reduceAdd, Nat.reduceSub, Nat.reduceMul, Nat.reduceBEq, Nat.reduceLT, Nat.reduceLeDiff, reduceCtorEq, Int.reduceToNat, Int.reduceNeg]
      · refine cal_sub (in_ok out t' (by omega)) ⟨?_, .refl _, trivial⟩ ?_
        · rw [List.take_of_length_le (by omega)]
          exact .refl _
        · simp only [push_cast, reduceIte, Nat.reduceEqDiff, Nat.reduceAdd, Nat.reduceSub, Nat.reduceMul, Nat.reduceBEq, Nat.reduceLT, Nat.reduceLeDiff, reduceCtorEq, Int.reduceToNat, Int.reduceNeg]
          rw [decide_eq_decide.2 (show (q : Int) < m ∧ t' ∈ out ↔ t' ∈ out from and_iff_right h1)]
      · rw [decide_eq_false (show ¬ ((q : Int) < m ∧ t' ∈ out) from fun h2 => h1 h2.1)]
    · simp only [push_cast, reduceIte, Nat.reduceEqDiff, Nat.reduceAdd, Nat.reduceSub, Nat.reduceMul, Nat.reduceBEq, Nat.reduceLT, Nat.reduceLeDiff, reduceCtorEq, Int.reduceToNat, Int.reduceNeg]
      refine cond_dec (fun h1 => ?_) fun h1 => ?_
      · simp only [push_cast, reduceIte, Nat.reduceEqDiff, Nat.reduceAdd, Nat.reduceSub, Nat.reduceMul, Nat.reduceBEq, Nat.reduceLT, Nat.reduceLeDiff, reduceCtorEq, Int.reduceToNat, Int.reduceNeg, hm]
        have e1 := Int.emod_nonneg (t' + 1) (show m ≠ 0 by omega)
        have e2 := Int.emod_lt_of_pos (t' + 1) hpos
        refine ⟨by omega, by omega, ⟨by omega, by omega, hpos⟩, by omega, _, ?_, q + 1, (t' + 1) % m, by omega, rfl, ⟨by omega, by omega⟩, ?_, ?_⟩
        · omega
        · rw [← hF, show m.toNat - q = (m.toNat - (q + 1)) + 1 by omega, bumpF, if_pos h1.2]
        · simp
      · have hF' : bumpF m out m.toNat t = t' := by
          rw [← hF]
          by_cases h2 : (q : Int) < m
          · have h3 : t' ∉ out := fun h3 => h1 ⟨h2, h3⟩
            rw [show m.toNat - q = (m.toNat - (q + 1)) + 1 by omega, bumpF, if_neg h3]
          · rw [show m.toNat - q = 0 by omega, bumpF]
        refine ⟨by simp, ⟨by omega, by omega, by omega⟩, ?_⟩
        exact hQ t' hF'.symm
theorem rtiles_ok (j : Job) (hj : j.Ok) (l : List Int) (hl : (l.length : Int) ≤ 1000000) (hb : ∀ x ∈ l, 0 ≤ x ∧ x ≤ 255) :
    FnEq Try.prog 14 [.agg (jobC false j), .sl false 1 (bytes8 l)] (.sl true 1 (ints (tilesF j l))) := by
  refine FnEq.of_awp Try.func14 ok14d (by show 2 ≤ _; decide) (by simp only [push_cast, reduceIte, Nat.reduceEqDiff, Nat.reduceAdd, Nat.reduceSub, Nat.reduceMul, Nat.reduceBEq, Nat.reduceLT, Nat.reduceLeDiff, reduceCtorEq, Int.reduceToNat, Int.reduceNeg] <;> first | exact fun _ _ => trivial | simp) ?_
  simp only [ac14d, rv14d, push_cast, reduceIte, Nat.reduceEqDiff, Nat.reduceAdd, Nat.reduceSub, Nat.reduceMul, Nat.reduceBEq, Nat.reduceLT, Nat.reduceLeDiff, reduceCtorEq, Int.reduceToNat, Int.reduceNeg]
  have hnb := hj.nb
  have hwh := hj.wh
  have hpos : 0 < j.g.w * j.g.h := Int.mul_pos hj.w.1 hj.h.1
  refine loop_of (fun m st => ∃ k : Nat, k ≤ j.p.blocks.length ∧ m = j.p.blocks.length - k ∧
    st = ⟨[(1, .sl false 1 (bytes8 l)), (2, .ptr 2 0), (5, .view 9 0 k), (6, .int k)], [(2, jobC false j)], [(9, ⟨1, 3, ints (tilesN j l k)⟩)], []⟩) j.p.blocks.length ?_ ?_
  · refine ⟨0, by omega, by omega, ?_⟩
    simp only [push_cast, reduceIte, Nat.reduceEqDiff, Nat.reduceAdd, Nat.reduceSub, Nat.reduceMul, Nat.reduceBEq, Nat.reduceLT, Nat.reduceLeDiff, reduceCtorEq, Int.reduceToNat, Int.reduceNeg]
    rfl
  · rintro m st ⟨k, hk, rfl, rfl⟩
    simp only [push_cast, reduceIte, Nat.reduceEqDiff, Nat.reduceAdd, Nat.reduceSub, Nat.reduceMul, Nat.reduceBEq, Nat.reduceLT, Nat.reduceLeDiff, reduceCtorEq, Int.reduceToNat, Int.reduceNeg]
    have hlen := tilesN_len j l k
    refine cond_dec (fun h => ?_) fun h => ?_
    · refine cond_dec (fun h1 => ?_) fun h1 => ?_
      · have hx := hb _ (show l.getD k default ∈ l by simp [List.getD_eq_getElem?_getD, show k < l.length by omega])
        have e1 := Int.emod_nonneg (l.getD k default) (show j.g.w * j.g.h ≠ 0 by omega)
        have e2 := Int.emod_lt_of_pos (l.getD k default) hpos
        refine ⟨by omega, by omega, by omega, by omega, ⟨by omega, by omega, hpos⟩, ?_⟩
        refine tiles_in j hj l k (by omega) (l.getD k default % (j.g.w * j.g.h)) (by omega) _ hlen _ _ ?_ ?_
        · simp only [push_cast, reduceIte, Nat.reduceEqDiff, Nat.reduceAdd, Nat.reduceSub, Nat.reduceMul, Nat.reduceBEq, Nat.reduceLT, Nat.reduceLeDiff, reduceCtorEq, Int.reduceToNat, Int.reduceNeg]
        · rintro t' rfl
          simp only [push_cast, reduceIte, Nat.reduceEqDiff, Nat.reduceAdd, Nat.reduceSub, Nat.reduceMul, Nat.reduceBEq, Nat.reduceLT, Nat.reduceLeDiff, reduceCtorEq, Int.reduceToNat, Int.reduceNeg]
          refine ⟨by omega, _, ?_, k + 1, by omega, rfl, ?_⟩
          · omega
          · rw [tilesN, tileF, if_pos (by omega)]
            simp
      · refine tiles_in j hj l k (by omega) (k : Int) (by omega) _ hlen _ _ ?_ ?_
        · simp only [push_cast, reduceIte, Nat.reduceEqDiff, Nat.reduceAdd, Nat.reduceSub, Nat.reduceMul, Nat.reduceBEq, Nat.reduceLT, Nat.reduceLeDiff, reduceCtorEq, Int.reduceToNat, Int.reduceNeg]
        · rintro t' rfl
          simp only [push_cast, reduceIte, Nat.reduceEqDiff, Nat.reduceAdd, Nat.reduceSub, Nat.reduceMul, Nat.reduceBEq, Nat.reduceLT, Nat.reduceLeDiff, reduceCtorEq, Int.reduceToNat, Int.reduceNeg]
          refine ⟨by omega, _, ?_, k + 1, by omega, rfl, ?_⟩
          · omega
          · rw [tilesN, tileF, if_neg (by omega)]
            simp
    · have hkk : k = j.p.blocks.length := by omega
      subst hkk
      rw [List.take_of_length_le (by omega)]
      exact ⟨fun _ _ => trivial, .refl _⟩
end Go.Proofs.Ytbdamnfkgdbidaa
namespace Go.Proofs.Ytbdamnfkgdbidaa
open Go Go.Vc
end Go.Proofs.Ytbdamnfkgdbidaa
namespace Go.Proofs.Ytbdamnfkgdbidaa
open Go Go.Vc Txt
def prC (p : Int × Int) : List PV := [.int p.1, .int p.2]
@[push_cast] theorem prC_eq (p : Int × Int) : prC p = [.int p.1, .int p.2] := rfl
def sinkB (j : Job) (a : List Int) (s : Int) : Nat → List (Int × Int)
  | 0 => []
  | k + 1 => sinkB j a s k ++ if s ∈ (j.p.blocks.getD k default).ins then [spotF j (a.getD k default)] else []
def sinkD (j : Job) (s : Int) : Nat → List (Int × Int)
  | 0 => []
  | o + 1 => sinkD j s o ++ if j.p.drive.getD o default = s then [(j.g.w, (o : Int) % j.g.h)] else []
def sinksF (j : Job) (a : List Int) (s : Int) : List (Int × Int) := sinkB j a s j.p.blocks.length ++ sinkD j s j.p.drive.length
def endsF (j : Job) (a : List Int) (s : Int) : List (Int × Int) := if (sinksF j a s).length = 0 then [] else sinksF j a s ++ [srcF j a s]
end Go.Proofs.Ytbdamnfkgdbidaa
namespace Go.Proofs.Ytbdamnfkgdbidaa
open Go Go.Vc Txt
def mnP (p q : Int × Int) : Int × Int := (min p.1 q.1, min p.2 q.2)
def mxP (p q : Int × Int) : Int × Int := (max p.1 q.1, max p.2 q.2)
def loF (l : List (Int × Int)) (i : Nat) : Int × Int := (l.take i).foldl mnP (l.getD 0 default)
def hiF (l : List (Int × Int)) (i : Nat) : Int × Int := (l.take i).foldl mxP (l.getD 0 default)
def lengthF (l : List (Int × Int)) : Int := if l.length = 0 then 0 else (hiF l l.length).1 - (loF l l.length).1 + (hiF l l.length).2 - (loF l l.length).2
theorem loF_succ {l : List (Int × Int)} {i : Nat} (hi : i < l.length) : loF l (i + 1) = mnP (loF l i) (l.getD i default) := by
  unfold loF
  rw [List.take_succ_eq_append_getElem hi, List.foldl_append]
  simp [hi]
theorem hiF_succ {l : List (Int × Int)} {i : Nat} (hi : i < l.length) : hiF l (i + 1) = mxP (hiF l i) (l.getD i default) := by
  unfold hiF
  rw [List.take_succ_eq_append_getElem hi, List.foldl_append]
  simp [hi]
def costRN (j : Job) (a : List Int) : Nat → Int
  | 0 => 0
  | s + 1 => costRN j a s + lengthF (endsF j a s)
def costR (j : Job) (a : List Int) : Int := costRN j a (j.p.ins.length + 2 * j.p.blocks.length)
end Go.Proofs.Ytbdamnfkgdbidaa
namespace Go.Proofs.Ytbdamnfkgdbidaa
open Go Go.Vc
theorem eget_eput (M : EM) (s : Int) (e : Ext) (t : Int) : eget (eput M s e) t = if s = t then some e else eget M t := by
  induction M with
  | nil => simp only [eput, eget]
  | cons x r ih =>
    obtain ⟨k, v⟩ := x
    simp only [eput]
    by_cases h : k = s
    · subst h
      simp only [if_true, eget]
      split <;> rfl
    · rw [if_neg h]
      simp only [eget, ih]
      by_cases h2 : k = t
      · rw [if_pos h2, if_pos h2, if_neg (fun e => h (h2.trans e.symm))]
      · rw [if_neg h2, if_neg h2]
structure BB (e : Ext) (P : Int × Int → Prop) : Prop where
  all : ∀ p, P p → e.x0 ≤ p.1 ∧ p.1 ≤ e.x1 ∧ e.y0 ≤ p.2 ∧ p.2 ≤ e.y1
  x0 : ∃ p, P p ∧ p.1 = e.x0
  x1 : ∃ p, P p ∧ p.1 = e.x1
  y0 : ∃ p, P p ∧ p.2 = e.y0
  y1 : ∃ p, P p ∧ p.2 = e.y1
theorem BB.len {e f : Ext} {P Q : Int × Int → Prop} (h : BB e P) (g : BB f Q) (hPQ : ∀ p, P p ↔ Q p) : extLen e = extLen f := by
  obtain ⟨ha, ⟨a, a1, a2⟩, ⟨b, b1, b2⟩, ⟨c, c1, c2⟩, d, d1, d2⟩ := h
  obtain ⟨ga, ⟨a', a1', a2'⟩, ⟨b', b1', b2'⟩, ⟨c', c1', c2'⟩, d', d1', d2'⟩ := g
  have e1 := ga a ((hPQ a).1 a1)
  have e2 := ga b ((hPQ b).1 b1)
  have e3 := ga c ((hPQ c).1 c1)
  have e4 := ga d ((hPQ d).1 d1)
  have f1 := ha a' ((hPQ a').2 a1')
  have f2 := ha b' ((hPQ b').2 b1')
  have f3 := ha c' ((hPQ c').2 c1')
  have f4 := ha d' ((hPQ d').2 d1')
  have g1 : extLen e = e.x1 - e.x0 + e.y1 - e.y0 := rfl
  have g2 : extLen f = f.x1 - f.x0 + f.y1 - f.y0 := rfl
  omega
theorem BB.ext {e : Ext} {P : Int × Int → Prop} (h : BB e P) (q : Int × Int) : BB (extF e q) fun p => P p ∨ p = q := by
  obtain ⟨ha, ⟨a, a1, a2⟩, ⟨b, b1, b2⟩, ⟨c, c1, c2⟩, d, d1, d2⟩ := h
  unfold extF
  refine ⟨fun p hp => ?_, ?_, ?_, ?_, ?_⟩
  · rcases hp with hp | rfl
    · have := ha p hp
      simp only; omega
    · simp only; omega
  · by_cases h : e.x0 ≤ q.1
    · exact ⟨a, .inl a1, by simp only; omega⟩
    · exact ⟨q, .inr rfl, by simp only; omega⟩
  · by_cases h : q.1 ≤ e.x1
    · exact ⟨b, .inl b1, by simp only; omega⟩
    · exact ⟨q, .inr rfl, by simp only; omega⟩
  · by_cases h : e.y0 ≤ q.2
    · exact ⟨c, .inl c1, by simp only; omega⟩
    · exact ⟨q, .inr rfl, by simp only; omega⟩
  · by_cases h : q.2 ≤ e.y1
    · exact ⟨d, .inl d1, by simp only; omega⟩
    · exact ⟨q, .inr rfl, by simp only; omega⟩
theorem BB.iff {e : Ext} {P Q : Int × Int → Prop} (h : BB e P) (hPQ : ∀ p, P p ↔ Q p) : BB e Q := by
  have : P = Q := funext fun p => propext (hPQ p)
  rw [← this]; exact h
theorem BB.one (q : Int × Int) : BB ⟨q.1, q.2, q.1, q.2⟩ fun p => p = q :=
  ⟨fun p h => by subst h; simp, ⟨q, rfl, rfl⟩, ⟨q, rfl, rfl⟩, ⟨q, rfl, rfl⟩, q, rfl, rfl⟩
theorem fold_bb (j : Job) (a : List Int) (s : Int) : ∀ (L : List (Int × Int × Int)) (M : EM) (P : Int × Int → Prop), ((eget M s = none ∧ ∀ p, ¬ P p) ∨ ∃ e, eget M s = some e ∧ (∃ p, P p) ∧ BB e fun p => p = srcF j a s ∨ P p) →
    let P' := fun p => P p ∨ (s, p) ∈ L
    (eget (L.foldl (stepF j a) M) s = none ∧ ∀ p, ¬ P' p) ∨ ∃ e, eget (L.foldl (stepF j a) M) s = some e ∧ (∃ p, P' p) ∧ BB e fun p => p = srcF j a s ∨ P' p
  | [], M, P, h => by
    refine h.imp (fun ⟨h1, h2⟩ => ⟨h1, fun p hp => ?_⟩) fun ⟨e, h1, ⟨q, h2⟩, h3⟩ => ⟨e, h1, ⟨q, .inl h2⟩, h3.iff fun p => ?_⟩
    · rcases hp with hp | hp
      · exact h2 p hp
      · cases hp
    · simp
  | c :: L, M, P, h => by
    have step : ((eget (stepF j a M c) s = none ∧ ∀ p, ¬ (P p ∨ (s, p) = c)) ∨ ∃ e, eget (stepF j a M c) s = some e ∧ (∃ p, P p ∨ (s, p) = c) ∧ BB e fun p => p = srcF j a s ∨ (P p ∨ (s, p) = c)) := by
      unfold stepF
      simp only [eget_eput]
      by_cases hc : c.1 = s
      · rw [if_pos hc]
        have hcp : ∀ p, (s, p) = c ↔ p = c.2 := fun p => ⟨fun e => by rw [← e], fun e => by subst e; exact Prod.ext hc.symm rfl⟩
        refine .inr ⟨_, rfl, ⟨c.2, .inr ((hcp _).2 rfl)⟩, ?_⟩
        have hb : BB ((eget M c.1).getD ⟨(srcF j a c.1).1, (srcF j a c.1).2, (srcF j a c.1).1, (srcF j a c.1).2⟩) fun p => p = srcF j a s ∨ P p := by
          rw [hc]
          rcases h with ⟨h1, h2⟩ | ⟨e, h1, _, h3⟩
          · rw [h1]
            exact (BB.one (srcF j a s)).iff fun p => ⟨fun e => .inl e, fun e => e.resolve_right (h2 p)⟩
          · rw [h1]
            exact h3
        refine (hb.ext c.2).iff fun p => ?_
        rw [hcp]
        exact or_assoc
      · rw [if_neg hc]
        have hcp : ∀ p, ¬ (s, p) = c := fun p e => hc (by rw [← e])
        refine h.imp (fun ⟨h1, h2⟩ => ⟨h1, fun p hp => hp.elim (h2 p) (hcp p)⟩) fun ⟨e, h1, ⟨q, h2⟩, h3⟩ => ⟨e, h1, ⟨q, .inl h2⟩, h3.iff fun p => ?_⟩
        simp [hcp]
    have ih := fold_bb j a s L (stepF j a M c) (fun p => P p ∨ (s, p) = c) step
    have e : ∀ p, ((P p ∨ (s, p) = c) ∨ (s, p) ∈ L) ↔ (P p ∨ (s, p) ∈ c :: L) := fun p => by rw [List.mem_cons, or_assoc]
    refine ih.imp (fun ⟨h1, h2⟩ => ⟨h1, fun p hp => h2 p ((e p).2 hp)⟩) fun ⟨x, h1, ⟨q, h2⟩, h3⟩ => ⟨x, h1, ⟨q, (e q).1 h2⟩, h3.iff fun p => or_congr_right (e p)⟩
theorem eput_keys (M : EM) (s : Int) (e : Ext) : (eput M s e).map (·.1) = M.map (·.1) ∨ (s ∉ M.map (·.1) ∧ (eput M s e).map (·.1) = M.map (·.1) ++ [s]) := by
  induction M with
  | nil => exact .inr ⟨by simp, rfl⟩
  | cons x r ih =>
    obtain ⟨k, v⟩ := x
    simp only [eput]
    split
    · exact .inl rfl
    · rename_i h
      rcases ih with ih | ⟨h1, ih⟩
      · exact .inl (by simp only [List.map_cons, ih])
      · exact .inr ⟨by simp only [List.map_cons, List.mem_cons, not_or]; exact ⟨fun e => h e.symm, h1⟩, by simp only [List.map_cons, ih, List.cons_append]⟩
theorem fold_keys (j : Job) (a : List Int) {n : Int} : ∀ (L : List (Int × Int × Int)) (M : EM), (M.map (·.1)).Nodup → (∀ x ∈ M, 0 ≤ x.1 ∧ x.1 < n) → (∀ c ∈ L, 0 ≤ c.1 ∧ c.1 < n) →
    ((L.foldl (stepF j a) M).map (·.1)).Nodup ∧ ∀ x ∈ L.foldl (stepF j a) M, 0 ≤ x.1 ∧ x.1 < n
  | [], M, h1, h2, _ => ⟨h1, h2⟩
  | c :: L, M, h1, h2, h3 => by
    have hk : ((stepF j a M c).map (·.1)).Nodup ∧ ∀ x ∈ (stepF j a M c).map (·.1), 0 ≤ x ∧ x < n := by
      have h2' : ∀ x ∈ M.map (·.1), 0 ≤ x ∧ x < n := fun x hx => by obtain ⟨y, hy, rfl⟩ := List.mem_map.1 hx; exact h2 y hy
      unfold stepF
      simp only
      rcases eput_keys M c.1 (extF ((eget M c.1).getD ⟨(srcF j a c.1).1, (srcF j a c.1).2, (srcF j a c.1).1, (srcF j a c.1).2⟩) c.2) with h | ⟨hn, h⟩
      · rw [h]; exact ⟨h1, h2'⟩
      · rw [h]
        refine ⟨List.nodup_append.2 ⟨h1, by simp, fun x hx y hy e => ?_⟩, fun x hx => ?_⟩
        · rw [List.mem_singleton.1 hy] at e; exact hn (e ▸ hx)
        · rcases List.mem_append.1 hx with hx | hx
          · exact h2' x hx
          · rw [List.mem_singleton.1 hx]; exact h3 c List.mem_cons_self
    exact fold_keys j a L _ hk.1 (fun x hx => hk.2 x.1 (List.mem_map.2 ⟨x, hx, rfl⟩)) fun d hd => h3 d (List.mem_cons_of_mem _ hd)
def sumF (f : Int → Int) : Nat → Int
  | 0 => 0
  | n + 1 => sumF f n + f n
theorem sumF_congr {f g : Int → Int} : ∀ n : Nat, (∀ k : Nat, k < n → f k = g k) → sumF f n = sumF g n
  | 0, _ => rfl
  | n + 1, h => by rw [sumF, sumF, sumF_congr n fun k hk => h k (by omega), h n (by omega)]
theorem sumF_upd {f : Int → Int} {s c : Int} (hf : f s = 0) : ∀ n : Nat, sumF (fun t => if s = t then c else f t) n = sumF f n + if 0 ≤ s ∧ s < n then c else 0
  | 0 => by rw [if_neg (by omega)]; rfl
  | n + 1 => by
    rw [sumF, sumF, sumF_upd hf n]
    by_cases h : s = n
    · subst h
      rw [if_pos rfl, if_neg (by omega), if_pos (by omega), hf]
    · rw [if_neg h]
      by_cases h2 : 0 ≤ s ∧ s < n
      · rw [if_pos h2, if_pos (by omega)]; omega
      · rw [if_neg h2, if_neg (by omega)]; omega
theorem sumF_zero : ∀ n : Nat, sumF (fun _ => 0) n = 0
  | 0 => rfl
  | n + 1 => by rw [sumF, sumF_zero n]; rfl
theorem eget_none {M : EM} {s : Int} (h : s ∉ M.map (·.1)) : eget M s = none := by
  induction M with
  | nil => rfl
  | cons x r ih =>
    obtain ⟨k, v⟩ := x
    simp only [List.map_cons, List.mem_cons, not_or] at h
    rw [eget, if_neg (fun e => h.1 e.symm), ih h.2]
theorem emLen_sum : ∀ (M : EM) (n : Nat), (M.map (·.1)).Nodup → (∀ x ∈ M, 0 ≤ x.1 ∧ x.1 < n) → emLen M = sumF (fun s => ((eget M s).map extLen).getD 0) n
  | [], n, _, _ => by
    show (0 : Int) = _
    rw [show (fun s => ((eget [] s).map extLen).getD 0) = fun _ => (0 : Int) from rfl, sumF_zero]
  | (k, v) :: r, n, h1, h2 => by
    simp only [List.map_cons, List.nodup_cons] at h1
    have ih := emLen_sum r n h1.2 fun x hx => h2 x (List.mem_cons_of_mem _ hx)
    have e : (fun s => ((eget ((k, v) :: r) s).map extLen).getD 0) = fun s => if k = s then extLen v else ((eget r s).map extLen).getD 0 := funext fun s => by
      simp only [eget]
      split <;> rfl
    rw [e, sumF_upd (by rw [eget_none h1.1]; rfl), if_pos (h2 _ List.mem_cons_self), ← ih]
    show extLen v + emLen r = _
    exact Int.add_comm _ _
theorem mem_sinkB {j : Job} {a : List Int} {s : Int} {p : Int × Int} : ∀ k, p ∈ sinkB j a s k ↔ (s, p) ∈ connsB j a k
  | 0 => by simp [sinkB, connsB]
  | k + 1 => by
    rw [sinkB, connsB_succ, List.mem_append, List.mem_append, mem_sinkB k]
    refine or_congr_right ?_
    unfold connB
    rw [List.mem_map]
    split
    · rename_i h
      rw [List.mem_singleton]
      exact ⟨fun e => ⟨s, h, by rw [e]⟩, fun ⟨t, _, e⟩ => (congrArg Prod.snd e).symm⟩
    · rename_i h
      exact ⟨fun e => (by cases e), fun ⟨t, ht, e⟩ => by
        have e1 : t = s := congrArg Prod.fst e
        subst e1
        exact absurd ht h⟩
theorem mem_sinkD {j : Job} {s : Int} {p : Int × Int} : ∀ k, p ∈ sinkD j s k ↔ (s, p) ∈ connsD j k
  | 0 => by simp [sinkD, connsD]
  | k + 1 => by
    rw [sinkD, connsD_succ, List.mem_append, List.mem_append, mem_sinkD k, List.mem_singleton]
    refine or_congr_right ?_
    unfold connD
    split
    · rename_i h
      rw [List.mem_singleton]
      exact ⟨fun e => by rw [e, h], fun e => congrArg Prod.snd e⟩
    · rename_i h
      exact ⟨fun e => (by cases e), fun e => absurd (congrArg Prod.fst e).symm h⟩
theorem mem_sinks {j : Job} {a : List Int} {s : Int} {p : Int × Int} : p ∈ sinksF j a s ↔ (s, p) ∈ conns j a := by
  unfold sinksF conns
  rw [List.mem_append, List.mem_append, mem_sinkB, mem_sinkD]
theorem lo_bb {l : List (Int × Int)} (h0 : 0 < l.length) : ∀ i, i ≤ l.length → BB ⟨(loF l i).1, (loF l i).2, (hiF l i).1, (hiF l i).2⟩ fun p => p = l.getD 0 default ∨ p ∈ l.take i
  | 0, _ => (BB.one (l.getD 0 default)).iff fun p => by simp
  | i + 1, hi => by
    have ih := lo_bb h0 i (by omega)
    rw [loF_succ (by omega), hiF_succ (by omega)]
    refine (ih.ext (l.getD i default)).iff fun p => ?_
    rw [List.take_succ_eq_append_getElem (show i < l.length by omega), List.mem_append, List.mem_singleton, or_assoc]
    simp [show i < l.length by omega]
theorem length_eq {j : Job} {a : List Int} {s : Int} : lengthF (endsF j a s) = ((eget (foldF j a (conns j a)) s).map extLen).getD 0 := by
  have h := fold_bb j a s (conns j a) [] (fun _ => False) (.inl ⟨rfl, fun _ h => h⟩)
  simp only [false_or] at h
  rw [show (conns j a).foldl (stepF j a) [] = foldF j a (conns j a) from rfl] at h
  rcases h with ⟨h1, h2⟩ | ⟨e, h1, ⟨q, h2⟩, h3⟩
  · have hs : sinksF j a s = [] := List.eq_nil_iff_forall_not_mem.2 fun p hp => h2 p (mem_sinks.1 hp)
    rw [h1, endsF, if_pos (by rw [hs]; rfl)]
    rfl
  · have hn : ¬ (sinksF j a s).length = 0 := fun h => by
      have := List.eq_nil_of_length_eq_zero h
      have hq := mem_sinks.2 h2
      rw [this] at hq
      cases hq
    rw [h1, endsF, if_neg hn]
    have hl : 0 < (sinksF j a s ++ [srcF j a s]).length := by simp
    rw [lengthF, if_neg (by omega)]
    have hb := lo_bb hl _ (Nat.le_refl _)
    refine (show _ = extLen ⟨_, _, _, _⟩ from rfl).trans (hb.len h3 fun p => ?_)
    rw [List.take_length, ← mem_sinks, List.mem_append, List.mem_singleton]
    constructor
    · rintro (rfl | h | h)
      · have : (sinksF j a s ++ [srcF j a s]).getD 0 default ∈ sinksF j a s ++ [srcF j a s] := by
          rw [List.getD_eq_getElem?_getD, List.getElem?_eq_getElem hl]
          exact List.getElem_mem hl
        rcases List.mem_append.1 this with h | h
        · exact .inr h
        · exact .inl (List.mem_singleton.1 h)
      · exact .inr h
      · exact .inl h
    · rintro (h | h)
      · exact .inr (.inr h)
      · exact .inr (.inl h)
theorem costRN_sum (j : Job) (a : List Int) : ∀ n, costRN j a n = sumF (fun s => lengthF (endsF j a s)) n
  | 0 => rfl
  | n + 1 => by rw [costRN, sumF, costRN_sum j a n]
theorem costR_eq {j : Job} (hj : j.Ok) {a : List Int} (hp : IsPl j a) : costR j a = costF j a := by
  have hk := fold_keys j a (n := ((j.p.ins.length + 2 * j.p.blocks.length : Nat) : Int)) (conns j a) [] (by simp) (fun x hx => by cases hx) fun c hc => by
    have := (conns_bd hj hp c hc).1
    omega
  show _ = emLen ((conns j a).foldl (stepF j a) [])
  rw [costR, costRN_sum, emLen_sum _ _ hk.1 hk.2]
  exact sumF_congr _ fun s hs => length_eq
end Go.Proofs.Ytbdamnfkgdbidaa
