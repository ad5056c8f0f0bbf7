/- X AA BB CC DD PLegal: PlacementLegal holds for every described packing, every described grid and all odd numbers: the row. -/
import Derived.Test.YtbdamnfkgdbidaaPart12
import Derived.Test.YtbdamnfkgdbidaaPart11
import Derived.Test.YtbdamnfkgdbidaaPart07
import Derived.Test.YtbdamnfkgdbidaaRows
set_option linter.unusedSimpArgs false
set_option linter.unusedVariables false
/- contracts: a packing that is generated; nothing is said of it but how large it is and that its signals are -/
namespace Go.Proofs.Ytbdamnfkgdbidaa
open Go Go.Vc Txt

structure RawP.Ok (x : RawP) : Prop where
  ins : 0 ≤ x.ins ∧ x.ins ≤ 255
  out : 0 ≤ x.out ∧ x.out ≤ 255
  len : (x.blocks.length : Int) ≤ 1000000
  six : ∀ b ∈ x.blocks, b.length = 6
  byte : ∀ b ∈ x.blocks, ∀ v ∈ b, 0 ≤ v ∧ v ≤ 255

theorem six_of {l : List Int} (h : l.length = 6) (hb : ∀ v ∈ l, 0 ≤ v ∧ v ≤ 255) : ∃ a b c d e f : Int, l = [a, b, c, d, e, f] ∧ (0 ≤ a ∧ a ≤ 255) ∧ (0 ≤ b ∧ b ≤ 255) ∧ (0 ≤ c ∧ c ≤ 255) ∧ (0 ≤ d ∧ d ≤ 255) ∧ (0 ≤ e ∧ e ≤ 255) ∧ (0 ≤ f ∧ f ≤ 255) := by
  match l, h, hb with
  | [a, b, c, d, e, f], _, hb => exact ⟨a, b, c, d, e, f, rfl, hb a (by simp), hb b (by simp), hb c (by simp), hb d (by simp), hb e (by simp), hb f (by simp)⟩
theorem RawP.Ok.at {x : RawP} (hx : x.Ok) {i : Nat} (hi : i < x.blocks.length) : ∃ a b c d e f : Int, x.blocks.getD i default = [a, b, c, d, e, f] ∧ (0 ≤ a ∧ a ≤ 255) ∧ (0 ≤ b ∧ b ≤ 255) ∧ (0 ≤ c ∧ c ≤ 255) ∧ (0 ≤ d ∧ d ≤ 255) ∧ (0 ≤ e ∧ e ≤ 255) ∧ (0 ≤ f ∧ f ≤ 255) := by
  have hm : x.blocks.getD i default ∈ x.blocks := by simp [List.getD_eq_getElem?_getD, hi]
  exact six_of (l := x.blocks.getD i default) (hx.six _ hm) (hx.byte _ hm)

/-- What holds of a packing that is generated. -/
structure Packed.Gen (x : RawP) (p : Packed) : Prop where
  ins : (p.ins.length : Int) = x.ins % 4 + 1
  nb : p.blocks.length = min x.blocks.length 9
  out : (p.out.length : Int) = x.out % 4 + 1
  drive : p.drive.length = p.out.length
  nin : ∀ b ∈ p.blocks, (b.ins.length : Int) ≤ 4
  sb : ∀ b ∈ p.blocks, ∀ s ∈ b.ins, 0 ≤ s ∧ s < p.ins.length + 2 * p.blocks.length
  sd : ∀ s ∈ p.drive, 0 ≤ s ∧ s < p.ins.length + 2 * p.blocks.length

theorem getD_memB {bs : List Block} {i : Nat} (h : i < bs.length) : bs.getD i default ∈ bs := by simp [List.getD_eq_getElem?_getD, h]

theorem packed_tail0 (x : RawP) (hx : x.Ok) (k c : Nat) (hk : (k : Int) = x.ins % 4 + 1) (hc : c = min x.blocks.length 9) (ws : List Wire) (hws : ws.length = k) (al : List Int) (ha1 : 1 ≤ al.length) (ha2 : al.length ≤ k + c + c)
    (hab : ∀ y ∈ al, 0 ≤ y ∧ y < k + 2 * c) (bs : List Block) (hbl : bs.length = c) (hbs : ∀ b ∈ bs, (b.ins.length : Int) ≤ 4 ∧ ∀ s ∈ b.ins, 0 ≤ s ∧ s < k + 2 * c) (hc0 : c = 0) :
    awp (Env.of Try.prog) ac29b_r39 (retK [RV.cell 2 true 4] fun v => ∃ p : Packed, p.Gen x ∧ Sub v (.agg (packedC true p)))
      ⟨[(1, .ptr 1 0), (2, .ptr 2 0), (3, .ptr 3 0), (5, .int k), (6, .int c), (9, .view 64 0 al.length), (11, .int c), (77, .int c), (78, .int c), (79, .bool false)],
       [(1, rawPC false x), (2, [.nil, .nil, .nil, .nil]), (3, [.view 33 0 k, .nil, .nil, .nil])], [(33, ⟨3, 93, rows wireC ws⟩), (64, ⟨1, 3, ints al⟩)], []⟩ := by
  have hi := hx.ins
  have ho := hx.out
  simp only [ac29b_r39, push_cast, reduceIte, Nat.reduceEqDiff, Nat.reduceAdd, Nat.reduceSub, Nat.reduceMul, Nat.reduceBEq, Nat.reduceLT, Nat.reduceLeDiff, reduceCtorEq, Int.reduceToNat, Int.reduceNeg]
  obtain ⟨n, hn⟩ : ∃ n : Nat, (n : Int) = x.out % 4 + 1 := ⟨(x.out % 4 + 1).toNat, by omega⟩
  refine loop_of (fun m st => ∃ (i : Nat) (os : List Wire) (ds : List Int), i ≤ n ∧ m = n - i ∧ os.length = i ∧ ds.length = i ∧ (∀ y ∈ ds, 0 ≤ y ∧ y < k + 2 * c) ∧
    ((i = 0 ∧ st = ⟨[(1, .ptr 1 0), (2, .ptr 2 0), (3, .ptr 3 0), (6, .int c), (9, .view 64 0 al.length), (16, .int i)],
       [(1, rawPC false x), (2, [.nil, .nil, .nil, .nil]), (3, [.view 33 0 k, .nil, .nil, .nil])], [(33, ⟨3, 93, rows wireC ws⟩), (64, ⟨1, 3, ints al⟩)], []⟩) ∨
     (i ≠ 0 ∧ st = ⟨[(1, .ptr 1 0), (2, .ptr 2 0), (3, .ptr 3 0), (6, .int c), (9, .view 64 0 al.length), (16, .int i)],
       [(1, rawPC false x), (2, [.nil, .nil, .nil, .nil]), (3, [.view 33 0 k, .nil, .view 178 0 i, .view 200 0 i])], [(33, ⟨3, 93, rows wireC ws⟩), (64, ⟨1, 3, ints al⟩), (178, ⟨3, 93, rows wireC os⟩), (200, ⟨1, 3, ints ds⟩)], []⟩))) n ?_ ?_
  · refine ⟨0, [], [], by omega, by omega, rfl, rfl, by simp, .inl ⟨rfl, ?_⟩⟩
    simp only [push_cast, reduceIte, Nat.reduceEqDiff, Nat.reduceAdd, Nat.reduceSub, Nat.reduceMul, Nat.reduceBEq, Nat.reduceLT, Nat.reduceLeDiff, reduceCtorEq, Int.reduceToNat, Int.reduceNeg]
  · rintro m st ⟨i, os, ds, hi1, rfl, hos, hds, hdb, ⟨rfl, rfl⟩ | ⟨hi0, rfl⟩⟩
    · simp only [push_cast, reduceIte, Nat.reduceEqDiff, Nat.reduceAdd, Nat.reduceSub, Nat.reduceMul, Nat.reduceBEq, Nat.reduceLT, Nat.reduceLeDiff, reduceCtorEq, Int.reduceToNat, Int.reduceNeg]
      refine ⟨by omega, by omega, ?_⟩
      refine cond_dec (fun h3 => ?_) fun h3 => absurd h3 (by omega)
      obtain ⟨r, hr, hr0, hr1⟩ := pick_ok ha1 (x.out / 4 + 3 * 0)
      rw [hr]
      have hz := hab _ (getD_mem (show ((al.length : Int) - 1 - r).toNat < al.length by omega))
      generalize al.getD ((al.length : Int) - 1 - r).toNat default = z at hz ⊢
      refine ⟨by omega, by omega, by omega, by omega, by omega, by omega, by omega, by omega, by omega, by simp, by omega, _, ?_, 1, [⟨5, 0, 0⟩], [z], by omega, rfl, rfl, rfl, fun y hy => by rw [List.mem_singleton.1 hy]; exact hz, .inr ⟨by omega, rfl⟩⟩
      omega
    · simp only [push_cast, reduceIte, Nat.reduceEqDiff, Nat.reduceAdd, Nat.reduceSub, Nat.reduceMul, Nat.reduceBEq, Nat.reduceLT, Nat.reduceLeDiff, reduceCtorEq, Int.reduceToNat, Int.reduceNeg]
      refine ⟨by omega, by omega, ?_⟩
      refine cond_dec (fun h3 => ?_) fun h3 => ?_
      · obtain ⟨r, hr, hr0, hr1⟩ := pick_ok ha1 (x.out / 4 + 3 * i)
        rw [hr]
        have hz := hab _ (getD_mem (show ((al.length : Int) - 1 - r).toNat < al.length by omega))
        generalize al.getD ((al.length : Int) - 1 - r).toNat default = z at hz ⊢
        refine ⟨⟨hos.symm, by omega, by omega⟩, by omega, by omega, by omega, by omega, by omega, by omega, by omega, by omega, by omega, by simp, ⟨hds.symm, by omega, by omega⟩, by omega, _, ?_, i + 1, os ++ [⟨5, i, 0⟩], ds ++ [z], by omega, rfl, by simp [hos], by simp [hds], fun y hy => ?_, .inr ⟨by omega, ?_⟩⟩
        · omega
        · rcases List.mem_append.1 hy with hy | hy
          · exact hdb y hy
          · rw [List.mem_singleton.1 hy]; exact hz
        · simp [rows, wireC]
      · have hin : i = n := by omega
        rw [List.take_of_length_le (show ws.length ≤ k by omega), List.take_of_length_le (show os.length ≤ i by omega), List.take_of_length_le (show ds.length ≤ i by omega)]
        have hbs0 : bs = [] := List.eq_nil_of_length_eq_zero (by omega)
        subst hbs0
        refine cal_subO (keys_ok ⟨ws, [], os, ds⟩ ⟨by show (ws.length : Int) ≤ 1000; omega, by simp, by simp, by simp⟩) ⟨Sub.aggL ⟨.refl _, .nil false 5, .refl _, .refl _, trivial⟩, trivial⟩ ?_
        rintro _ ⟨ks, rfl, hks⟩
        simp only [push_cast, reduceIte, Nat.reduceEqDiff, Nat.reduceAdd, Nat.reduceSub, Nat.reduceMul, Nat.reduceBEq, Nat.reduceLT, Nat.reduceLeDiff, reduceCtorEq, Int.reduceToNat, Int.reduceNeg]
        refine loop_of (fun m st => m = 0 ∧ st = ⟨[(2, .ptr 2 0), (3, .ptr 3 0), (6, .int c), (17, .sl true 1 (rows u64C ks)), (18, .int 0)],
          [(2, [.nil, .nil, .nil, .nil]), (3, [.view 33 0 k, .nil, .view 178 0 i, .view 200 0 i])], [(33, ⟨3, 93, rows wireC ws⟩), (178, ⟨3, 93, rows wireC os⟩), (200, ⟨1, 3, ints ds⟩)], []⟩) 0 ?_ ?_
        · refine ⟨rfl, ?_⟩
          simp only [push_cast, reduceIte, Nat.reduceEqDiff, Nat.reduceAdd, Nat.reduceSub, Nat.reduceMul, Nat.reduceBEq, Nat.reduceLT, Nat.reduceLeDiff, reduceCtorEq, Int.reduceToNat, Int.reduceNeg]
        · rintro m st ⟨rfl, rfl⟩
          simp only [push_cast, reduceIte, Nat.reduceEqDiff, Nat.reduceAdd, Nat.reduceSub, Nat.reduceMul, Nat.reduceBEq, Nat.reduceLT, Nat.reduceLeDiff, reduceCtorEq, Int.reduceToNat, Int.reduceNeg]
          refine cond_dec (fun h4 => absurd h4 (by omega)) fun h4 => ?_
          rw [List.take_of_length_le (show ws.length ≤ k by omega), List.take_of_length_le (show os.length ≤ i by omega), List.take_of_length_le (show ds.length ≤ i by omega)]
          refine ⟨⟨fun _ _ => trivial, fun _ _ => trivial, fun _ _ => trivial⟩, ⟨ws, [], os, ds⟩, ⟨by show (ws.length : Int) = _; omega, by show 0 = _; omega, by show (os.length : Int) = _; omega, by show ds.length = os.length; omega, by simp, by simp, fun t ht => ?_⟩, ⟨.refl _, rfl, .refl _, .refl _⟩⟩
          have := hdb t ht
          show 0 ≤ t ∧ t < (ws.length : Int) + 2 * (0 : Nat)
          omega

theorem packed_tail1 (x : RawP) (hx : x.Ok) (k c : Nat) (hk : (k : Int) = x.ins % 4 + 1) (hc : c = min x.blocks.length 9) (ws : List Wire) (hws : ws.length = k) (al : List Int) (ha1 : 1 ≤ al.length) (ha2 : al.length ≤ k + c + c)
    (hab : ∀ y ∈ al, 0 ≤ y ∧ y < k + 2 * c) (bs : List Block) (hbl : bs.length = c) (hbs : ∀ b ∈ bs, (b.ins.length : Int) ≤ 4 ∧ ∀ s ∈ b.ins, 0 ≤ s ∧ s < k + 2 * c) (hc0 : c ≠ 0) :
    awp (Env.of Try.prog) ac29b_r39 (retK [RV.cell 2 true 4] fun v => ∃ p : Packed, p.Gen x ∧ Sub v (.agg (packedC true p)))
      ⟨[(1, .ptr 1 0), (2, .ptr 2 0), (3, .ptr 3 0), (5, .int k), (6, .int c), (9, .view 64 0 al.length), (11, .int c), (77, .int c), (78, .int c), (79, .bool false)],
       [(1, rawPC false x), (2, [.nil, .nil, .nil, .nil]), (3, [.view 33 0 k, .view 156 0 c, .nil, .nil])], [(33, ⟨3, 93, rows wireC ws⟩), (64, ⟨1, 3, ints al⟩), (156, ⟨5, 71, rows (blockC true) bs⟩)], []⟩ := by
  have hi := hx.ins
  have ho := hx.out
  simp only [ac29b_r39, push_cast, reduceIte, Nat.reduceEqDiff, Nat.reduceAdd, Nat.reduceSub, Nat.reduceMul, Nat.reduceBEq, Nat.reduceLT, Nat.reduceLeDiff, reduceCtorEq, Int.reduceToNat, Int.reduceNeg]
  obtain ⟨n, hn⟩ : ∃ n : Nat, (n : Int) = x.out % 4 + 1 := ⟨(x.out % 4 + 1).toNat, by omega⟩
  refine loop_of (fun m st => ∃ (i : Nat) (os : List Wire) (ds : List Int), i ≤ n ∧ m = n - i ∧ os.length = i ∧ ds.length = i ∧ (∀ y ∈ ds, 0 ≤ y ∧ y < k + 2 * c) ∧
    ((i = 0 ∧ st = ⟨[(1, .ptr 1 0), (2, .ptr 2 0), (3, .ptr 3 0), (6, .int c), (9, .view 64 0 al.length), (16, .int i)],
       [(1, rawPC false x), (2, [.nil, .nil, .nil, .nil]), (3, [.view 33 0 k, .view 156 0 c, .nil, .nil])], [(33, ⟨3, 93, rows wireC ws⟩), (64, ⟨1, 3, ints al⟩), (156, ⟨5, 71, rows (blockC true) bs⟩)], []⟩) ∨
     (i ≠ 0 ∧ st = ⟨[(1, .ptr 1 0), (2, .ptr 2 0), (3, .ptr 3 0), (6, .int c), (9, .view 64 0 al.length), (16, .int i)],
       [(1, rawPC false x), (2, [.nil, .nil, .nil, .nil]), (3, [.view 33 0 k, .view 156 0 c, .view 178 0 i, .view 200 0 i])], [(33, ⟨3, 93, rows wireC ws⟩), (64, ⟨1, 3, ints al⟩), (156, ⟨5, 71, rows (blockC true) bs⟩), (178, ⟨3, 93, rows wireC os⟩), (200, ⟨1, 3, ints ds⟩)], []⟩))) n ?_ ?_
  · refine ⟨0, [], [], by omega, by omega, rfl, rfl, by simp, .inl ⟨rfl, ?_⟩⟩
    simp only [push_cast, reduceIte, Nat.reduceEqDiff, Nat.reduceAdd, Nat.reduceSub, Nat.reduceMul, Nat.reduceBEq, Nat.reduceLT, Nat.reduceLeDiff, reduceCtorEq, Int.reduceToNat, Int.reduceNeg]
  · rintro m st ⟨i, os, ds, hi1, rfl, hos, hds, hdb, ⟨rfl, rfl⟩ | ⟨hi0, rfl⟩⟩
    · simp only [push_cast, reduceIte, Nat.reduceEqDiff, Nat.reduceAdd, Nat.reduceSub, Nat.reduceMul, Nat.reduceBEq, Nat.reduceLT, Nat.reduceLeDiff, reduceCtorEq, Int.reduceToNat, Int.reduceNeg]
      refine ⟨by omega, by omega, ?_⟩
      refine cond_dec (fun h3 => ?_) fun h3 => absurd h3 (by omega)
      obtain ⟨r, hr, hr0, hr1⟩ := pick_ok ha1 (x.out / 4 + 3 * 0)
      rw [hr]
      have hz := hab _ (getD_mem (show ((al.length : Int) - 1 - r).toNat < al.length by omega))
      generalize al.getD ((al.length : Int) - 1 - r).toNat default = z at hz ⊢
      refine ⟨by omega, by omega, by omega, by omega, by omega, by omega, by omega, by omega, by omega, by simp, by omega, _, ?_, 1, [⟨5, 0, 0⟩], [z], by omega, rfl, rfl, rfl, fun y hy => by rw [List.mem_singleton.1 hy]; exact hz, .inr ⟨by omega, rfl⟩⟩
      omega
    · simp only [push_cast, reduceIte, Nat.reduceEqDiff, Nat.reduceAdd, Nat.reduceSub, Nat.reduceMul, Nat.reduceBEq, Nat.reduceLT, Nat.reduceLeDiff, reduceCtorEq, Int.reduceToNat, Int.reduceNeg]
      refine ⟨by omega, by omega, ?_⟩
      refine cond_dec (fun h3 => ?_) fun h3 => ?_
      · obtain ⟨r, hr, hr0, hr1⟩ := pick_ok ha1 (x.out / 4 + 3 * i)
        rw [hr]
        have hz := hab _ (getD_mem (show ((al.length : Int) - 1 - r).toNat < al.length by omega))
        generalize al.getD ((al.length : Int) - 1 - r).toNat default = z at hz ⊢
        refine ⟨⟨hos.symm, by omega, by omega⟩, by omega, by omega, by omega, by omega, by omega, by omega, by omega, by omega, by omega, by simp, ⟨hds.symm, by omega, by omega⟩, by omega, _, ?_, i + 1, os ++ [⟨5, i, 0⟩], ds ++ [z], by omega, rfl, by simp [hos], by simp [hds], fun y hy => ?_, .inr ⟨by omega, ?_⟩⟩
        · omega
        · rcases List.mem_append.1 hy with hy | hy
          · exact hdb y hy
          · rw [List.mem_singleton.1 hy]; exact hz
        · simp [rows, wireC]
      · have hin : i = n := by omega
        rw [List.take_of_length_le (show ws.length ≤ k by omega), List.take_of_length_le (show os.length ≤ i by omega), List.take_of_length_le (show ds.length ≤ i by omega), List.take_of_length_le (show bs.length ≤ c by omega)]
        refine cal_subO (keys_ok ⟨ws, bs, os, ds⟩ ⟨by show (ws.length : Int) ≤ 1000; omega, by show (bs.length : Int) ≤ 1000; omega, fun b hb => by have := (hbs b hb).1; omega, fun b hb t ht => by have := (hbs b hb).2 t ht; show 0 ≤ t ∧ t < (ws.length : Int) + 2 * (bs.length : Int); omega⟩)
          ⟨Sub.aggL ⟨.refl _, Sub.slR 5 (fun h => h) (SubR.map _ _ _ fun b _ => blockC_sub b), .refl _, .refl _, trivial⟩, trivial⟩ ?_
        rintro _ ⟨ks, rfl, hks⟩
        have hks : ks.length = bs.length := hks
        simp only [push_cast, reduceIte, Nat.reduceEqDiff, Nat.reduceAdd, Nat.reduceSub, Nat.reduceMul, Nat.reduceBEq, Nat.reduceLT, Nat.reduceLeDiff, reduceCtorEq, Int.reduceToNat, Int.reduceNeg]
        refine loop_of (fun m st => ∃ (t : Nat) (bs : List Block), t ≤ c ∧ m = c - t ∧ bs.length = c ∧ (∀ b ∈ bs, (b.ins.length : Int) ≤ 4 ∧ ∀ s ∈ b.ins, 0 ≤ s ∧ s < k + 2 * c) ∧ st = ⟨[(2, .ptr 2 0), (3, .ptr 3 0), (6, .int c), (17, .sl true 1 (rows u64C ks)), (18, .int t)],
          [(2, [.nil, .nil, .nil, .nil]), (3, [.view 33 0 k, .view 156 0 c, .view 178 0 i, .view 200 0 i])], [(33, ⟨3, 93, rows wireC ws⟩), (156, ⟨5, 71, rows (blockC true) bs⟩), (178, ⟨3, 93, rows wireC os⟩), (200, ⟨1, 3, ints ds⟩)], []⟩) c ?_ ?_
        · refine ⟨0, bs, by omega, by omega, hbl, hbs, ?_⟩
          simp only [push_cast, reduceIte, Nat.reduceEqDiff, Nat.reduceAdd, Nat.reduceSub, Nat.reduceMul, Nat.reduceBEq, Nat.reduceLT, Nat.reduceLeDiff, reduceCtorEq, Int.reduceToNat, Int.reduceNeg]
        · rw [hbl] at hks
          clear hbs hbl
          rintro m st ⟨t, bs, ht, rfl, hbl, hbs, rfl⟩
          simp only [push_cast, reduceIte, Nat.reduceEqDiff, Nat.reduceAdd, Nat.reduceSub, Nat.reduceMul, Nat.reduceBEq, Nat.reduceLT, Nat.reduceLeDiff, reduceCtorEq, Int.reduceToNat, Int.reduceNeg]
          refine cond_dec (fun h4 => ?_) fun h4 => ?_
          · have hmem := getD_memB (show t < bs.length by omega)
            refine ⟨by omega, by omega, by omega, by omega, by omega, _, ?_, t + 1, bs.set t { bs.getD t default with key := ks.getD t default }, by omega, rfl, by simpa using hbl, fun q hq => ?_, ?_⟩
            · omega
            · rcases List.mem_or_eq_of_mem_set hq with hq | rfl
              · exact hbs q hq
              · exact hbs (bs.getD t default) hmem
            · simp [rows, blockC, List.map_set]
          · rw [List.take_of_length_le (show ws.length ≤ k by omega), List.take_of_length_le (show os.length ≤ i by omega), List.take_of_length_le (show ds.length ≤ i by omega), List.take_of_length_le (show bs.length ≤ c by omega)]
            refine ⟨⟨fun _ _ => trivial, fun _ _ _ _ => trivial, fun _ _ => trivial, fun _ _ => trivial⟩, ⟨ws, bs, os, ds⟩, ⟨by show (ws.length : Int) = _; omega, by show bs.length = _; omega, by show (os.length : Int) = _; omega, by show ds.length = os.length; omega, fun b hb => (hbs b hb).1, fun b hb t ht => ?_, fun t ht => ?_⟩, .refl _, .refl _, .refl _, .refl _⟩
            · have := (hbs b hb).2 t ht
              show 0 ≤ t ∧ t < (ws.length : Int) + 2 * (bs.length : Int)
              omega
            · have := hdb t ht
              show 0 ≤ t ∧ t < (ws.length : Int) + 2 * (bs.length : Int)
              omega

theorem packed_main (x : RawP) (hx : x.Ok) (k c : Nat) (hk : (k : Int) = x.ins % 4 + 1) (hc : c = min x.blocks.length 9) (ws : List Wire) (hws : ws.length = k) (al fl : List Int) (ha1 : 1 ≤ al.length) (ha2 : al.length ≤ k + c)
    (hab : ∀ y ∈ al, 0 ≤ y ∧ y < k + 2 * c) :
    awp (Env.of Try.prog) ac29b_r20 (retK [RV.cell 2 true 4] fun v => ∃ p : Packed, p.Gen x ∧ Sub v (.agg (packedC true p)))
      ⟨[(1, .ptr 1 0), (2, .ptr 2 0), (3, .ptr 3 0), (5, .int k), (6, .int c), (7, .view 42 0 fl.length), (9, .view 64 0 al.length), (74, .bot), (75, .view 42 0 fl.length), (76, .view 64 0 al.length)],
       [(1, rawPC false x), (2, [.nil, .nil, .nil, .nil]), (3, [.view 33 0 k, .nil, .nil, .nil])], [(33, ⟨3, 93, rows wireC ws⟩), (42, ⟨1, 3, ints fl⟩), (64, ⟨1, 3, ints al⟩)], []⟩ := by
  have hi := hx.ins
  simp only [ac29b_r20, push_cast, reduceIte, Nat.reduceEqDiff, Nat.reduceAdd, Nat.reduceSub, Nat.reduceMul, Nat.reduceBEq, Nat.reduceLT, Nat.reduceLeDiff, reduceCtorEq, Int.reduceToNat, Int.reduceNeg]
  refine loop_of (fun m st => ∃ (i : Nat) (al : List Int) (R : List (List PV)) (bs : List Block), i ≤ c ∧ m = c - i ∧ 1 ≤ al.length ∧ al.length ≤ k + c + i ∧ (∀ y ∈ al, 0 ≤ y ∧ y < k + 2 * c) ∧ R.length = i ∧ SubR R (rows (blockC true) bs) ∧
    (∀ b ∈ bs, (b.ins.length : Int) ≤ 4 ∧ ∀ s ∈ b.ins, 0 ≤ s ∧ s < k + 2 * c) ∧
    ((i = 0 ∧ st = ⟨[(1, .ptr 1 0), (2, .ptr 2 0), (3, .ptr 3 0), (5, .int k), (6, .int c), (9, .view 64 0 al.length), (11, .int i)],
       [(1, rawPC false x), (2, [.nil, .nil, .nil, .nil]), (3, [.view 33 0 k, .nil, .nil, .nil])], [(33, ⟨3, 93, rows wireC ws⟩), (64, ⟨1, 3, ints al⟩)], []⟩) ∨
     (i ≠ 0 ∧ st = ⟨[(1, .ptr 1 0), (2, .ptr 2 0), (3, .ptr 3 0), (5, .int k), (6, .int c), (9, .view 64 0 al.length), (11, .int i)],
       [(1, rawPC false x), (2, [.nil, .nil, .nil, .nil]), (3, [.view 33 0 k, .view 156 0 i, .nil, .nil])], [(33, ⟨3, 93, rows wireC ws⟩), (64, ⟨1, 3, ints al⟩), (156, ⟨5, 71, R⟩)], []⟩))) c ?_ ?_
  · refine ⟨0, al, [], [], by omega, by omega, ha1, by omega, hab, rfl, trivial, by simp, .inl ⟨rfl, ?_⟩⟩
    simp only [push_cast, reduceIte, Nat.reduceEqDiff, Nat.reduceAdd, Nat.reduceSub, Nat.reduceMul, Nat.reduceBEq, Nat.reduceLT, Nat.reduceLeDiff, reduceCtorEq, Int.reduceToNat, Int.reduceNeg]
  · rintro m st ⟨i, al, R, bs, hi1, rfl, h1, h2, hab, hR, hsub, hbs, ⟨rfl, rfl⟩ | ⟨hi0, rfl⟩⟩
    · simp only [push_cast, reduceIte, Nat.reduceEqDiff, Nat.reduceAdd, Nat.reduceSub, Nat.reduceMul, Nat.reduceBEq, Nat.reduceLT, Nat.reduceLeDiff, reduceCtorEq, Int.reduceToNat, Int.reduceNeg]
      refine cond_dec (fun h3 => ?_) fun h3 => ?_
      · obtain ⟨a, b, d, e, f, g, hb, b1, b2, b3, b4, b5, b6⟩ := hx.at (show 0 < x.blocks.length by omega)
        rw [hb]
        simp only [push_cast, reduceIte, Nat.reduceEqDiff, Nat.reduceAdd, Nat.reduceSub, Nat.reduceMul, Nat.reduceBEq, Nat.reduceLT, Nat.reduceLeDiff, reduceCtorEq, Int.reduceToNat, Int.reduceNeg]
        obtain ⟨kk, hkk0⟩ : ∃ kk : Nat, b % 5 = kk := ⟨(b % 5).toNat, by omega⟩
        have hkk : kk ≤ 4 := by omega
        rw [hkk0]
        refine ⟨by omega, by omega, by omega, by omega, by omega, by omega, by omega, ?_⟩
        have hbs0 : bs = [] := by
          cases bs with
          | nil => rfl
          | cons q r => have := hsub.len; rw [hR] at this; simp [rows] at this
        refine cond_dec (fun h4 => ?_) fun h4 => ?_
        · refine ⟨by omega, by omega, cond_dec (fun h5 => absurd h5 (by omega)) fun h5 => ?_⟩
          refine packed_blkA x _ _ k c 0 kk hkk a b d e f g (-1) 0 (by omega) rfl ⟨b2, b3, b4, b5, b6⟩ ws al h1 (by omega) hab (by simp only [push_cast, reduceIte, Nat.reduceEqDiff, Nat.reduceAdd, Nat.reduceSub, Nat.reduceMul, Nat.reduceBEq, Nat.reduceLT, Nat.reduceLeDiff, reduceCtorEq, Int.reduceToNat, Int.reduceNeg]) ?_
          intro row ys tb hy1 hy2 hrow
          simp only [push_cast, reduceIte, Nat.reduceEqDiff, Nat.reduceAdd, Nat.reduceSub, Nat.reduceMul, Nat.reduceBEq, Nat.reduceLT, Nat.reduceLeDiff, reduceCtorEq, Int.reduceToNat, Int.reduceNeg]
          refine ⟨by omega, _, ?_, 1, al ++ [(k : Int) + 2 * (0 : Nat)], [row], bs ++ [⟨ys, tb, (-1), 0, 0⟩], by omega, rfl, ?_, ?_, ?_, ?_, ?_, ?_, .inr ⟨by omega, ?_⟩⟩
          · omega
          · simp
          · simp; omega
          · intro y hy
            rcases List.mem_append.1 hy with hy | hy
            · exact hab y hy
            · rw [List.mem_singleton.1 hy]; omega
          · rfl
          · rw [hbs0]; exact ⟨hrow, trivial⟩
          · intro q hq
            rcases List.mem_append.1 hq with hq | hq
            · exact hbs q hq
            · rw [List.mem_singleton.1 hq]; exact ⟨by show (ys.length : Int) ≤ 4; omega, hy2⟩
          · simp
        · refine ⟨by omega, by omega, cond_dec (fun h5 => ?_) fun h5 => ?_⟩
          · refine ⟨by omega, by omega, by omega, by omega, ?_⟩
            clear hkk0 hkk
            obtain ⟨kk2, hkk2⟩ : ∃ kk2 : Nat, min (kk : Int) 3 = kk2 := ⟨min kk 3, by omega⟩
            rw [hkk2]
            have hkk : kk2 ≤ 4 := by omega
            refine packed_blkA x _ _ k c 0 kk2 hkk a b d e f g (a / 4 % 16) (-1) (by omega) rfl ⟨b2, b3, b4, b5, b6⟩ ws al h1 (by omega) hab (by simp only [push_cast, reduceIte, Nat.reduceEqDiff, Nat.reduceAdd, Nat.reduceSub, Nat.reduceMul, Nat.reduceBEq, Nat.reduceLT, Nat.reduceLeDiff, reduceCtorEq, Int.reduceToNat, Int.reduceNeg]) ?_
            intro row ys tb hy1 hy2 hrow
            simp only [push_cast, reduceIte, Nat.reduceEqDiff, Nat.reduceAdd, Nat.reduceSub, Nat.reduceMul, Nat.reduceBEq, Nat.reduceLT, Nat.reduceLeDiff, reduceCtorEq, Int.reduceToNat, Int.reduceNeg]
            refine ⟨by omega, _, ?_, 1, al ++ [(k : Int) + 2 * (0 : Nat)], [row], bs ++ [⟨ys, tb, (a / 4 % 16), (-1), 0⟩], by omega, rfl, ?_, ?_, ?_, ?_, ?_, ?_, .inr ⟨by omega, ?_⟩⟩
            · omega
            · simp
            · simp; omega
            · intro y hy
              rcases List.mem_append.1 hy with hy | hy
              · exact hab y hy
              · rw [List.mem_singleton.1 hy]; omega
            · rfl
            · rw [hbs0]; exact ⟨hrow, trivial⟩
            · intro q hq
              rcases List.mem_append.1 hq with hq | hq
              · exact hbs q hq
              · rw [List.mem_singleton.1 hq]; exact ⟨by show (ys.length : Int) ≤ 4; omega, hy2⟩
            · simp
          · skip
            refine packed_blkA x _ _ k c 0 kk hkk a b d e f g (-1) (-1) (by omega) rfl ⟨b2, b3, b4, b5, b6⟩ ws al h1 (by omega) hab (by simp only [push_cast, reduceIte, Nat.reduceEqDiff, Nat.reduceAdd, Nat.reduceSub, Nat.reduceMul, Nat.reduceBEq, Nat.reduceLT, Nat.reduceLeDiff, reduceCtorEq, Int.reduceToNat, Int.reduceNeg]) ?_
            intro row ys tb hy1 hy2 hrow
            simp only [push_cast, reduceIte, Nat.reduceEqDiff, Nat.reduceAdd, Nat.reduceSub, Nat.reduceMul, Nat.reduceBEq, Nat.reduceLT, Nat.reduceLeDiff, reduceCtorEq, Int.reduceToNat, Int.reduceNeg]
            refine ⟨by omega, _, ?_, 1, al ++ [(k : Int) + 2 * (0 : Nat)], [row], bs ++ [⟨ys, tb, (-1), (-1), 0⟩], by omega, rfl, ?_, ?_, ?_, ?_, ?_, ?_, .inr ⟨by omega, ?_⟩⟩
            · omega
            · simp
            · simp; omega
            · intro y hy
              rcases List.mem_append.1 hy with hy | hy
              · exact hab y hy
              · rw [List.mem_singleton.1 hy]; omega
            · rfl
            · rw [hbs0]; exact ⟨hrow, trivial⟩
            · intro q hq
              rcases List.mem_append.1 hq with hq | hq
              · exact hbs q hq
              · rw [List.mem_singleton.1 hq]; exact ⟨by show (ys.length : Int) ≤ 4; omega, hy2⟩
            · simp
      · have hic : 0 = c := by omega
        refine wk_of ⟨[(1, .ptr 1 0), (2, .ptr 2 0), (3, .ptr 3 0), (5, .int k), (6, .int c), (9, .view 64 0 al.length), (11, .int c), (77, .int c), (78, .int c), (79, .bool false)],
          [(1, rawPC false x), (2, [.nil, .nil, .nil, .nil]), (3, [.view 33 0 k, .nil, .nil, .nil])], [(33, ⟨3, 93, rows wireC ws⟩), (64, ⟨1, 3, ints al⟩)], []⟩ ?_
          (packed_tail0 x hx k c hk hc ws hws al h1 (by omega) hab [] (by simp; omega) (by simp) (by omega))
        simp only [push_cast, reduceIte, Nat.reduceEqDiff, Nat.reduceAdd, Nat.reduceSub, Nat.reduceMul, Nat.reduceBEq, Nat.reduceLT, Nat.reduceLeDiff, reduceCtorEq, Int.reduceToNat, Int.reduceNeg]
        simp [← hic]
    · simp only [push_cast, reduceIte, Nat.reduceEqDiff, Nat.reduceAdd, Nat.reduceSub, Nat.reduceMul, Nat.reduceBEq, Nat.reduceLT, Nat.reduceLeDiff, reduceCtorEq, Int.reduceToNat, Int.reduceNeg]
      refine cond_dec (fun h3 => ?_) fun h3 => ?_
      · obtain ⟨a, b, d, e, f, g, hb, b1, b2, b3, b4, b5, b6⟩ := hx.at (show i < x.blocks.length by omega)
        rw [hb]
        simp only [push_cast, reduceIte, Nat.reduceEqDiff, Nat.reduceAdd, Nat.reduceSub, Nat.reduceMul, Nat.reduceBEq, Nat.reduceLT, Nat.reduceLeDiff, reduceCtorEq, Int.reduceToNat, Int.reduceNeg]
        obtain ⟨kk, hkk0⟩ : ∃ kk : Nat, b % 5 = kk := ⟨(b % 5).toNat, by omega⟩
        have hkk : kk ≤ 4 := by omega
        rw [hkk0]
        refine ⟨by omega, by omega, by omega, by omega, by omega, by omega, by omega, ?_⟩
        refine cond_dec (fun h4 => ?_) fun h4 => ?_
        · refine ⟨by omega, by omega, cond_dec (fun h5 => absurd h5 (by omega)) fun h5 => ?_⟩
          refine packed_blkB x _ _ k c i kk hkk a b d e f g (-1) i (by omega) R hR ⟨b2, b3, b4, b5, b6⟩ ws al h1 (by omega) hab (by simp only [push_cast, reduceIte, Nat.reduceEqDiff, Nat.reduceAdd, Nat.reduceSub, Nat.reduceMul, Nat.reduceBEq, Nat.reduceLT, Nat.reduceLeDiff, reduceCtorEq, Int.reduceToNat, Int.reduceNeg]) ?_
          intro row ys tb hy1 hy2 hrow
          simp only [push_cast, reduceIte, Nat.reduceEqDiff, Nat.reduceAdd, Nat.reduceSub, Nat.reduceMul, Nat.reduceBEq, Nat.reduceLT, Nat.reduceLeDiff, reduceCtorEq, Int.reduceToNat, Int.reduceNeg]
          refine ⟨by omega, _, ?_, i + 1, al ++ [(k : Int) + 2 * i], R ++ [row], bs ++ [⟨ys, tb, (-1), i, 0⟩], by omega, rfl, ?_, ?_, ?_, ?_, ?_, ?_, .inr ⟨by omega, ?_⟩⟩
          · omega
          · simp
          · simp; omega
          · intro y hy
            rcases List.mem_append.1 hy with hy | hy
            · exact hab y hy
            · rw [List.mem_singleton.1 hy]; omega
          · simp [hR]
          · have := SubR.app (us := [row]) (vs := [blockC true ⟨ys, tb, (-1), i, 0⟩]) hsub ⟨hrow, trivial⟩; simpa [rows] using this
          · intro q hq
            rcases List.mem_append.1 hq with hq | hq
            · exact hbs q hq
            · rw [List.mem_singleton.1 hq]; exact ⟨by show (ys.length : Int) ≤ 4; omega, hy2⟩
          · simp
        · refine ⟨by omega, by omega, cond_dec (fun h5 => ?_) fun h5 => ?_⟩
          · refine ⟨by omega, by omega, by omega, by omega, ?_⟩
            clear hkk0 hkk
            obtain ⟨kk2, hkk2⟩ : ∃ kk2 : Nat, min (kk : Int) 3 = kk2 := ⟨min kk 3, by omega⟩
            rw [hkk2]
            have hkk : kk2 ≤ 4 := by omega
            refine packed_blkB x _ _ k c i kk2 hkk a b d e f g (a / 4 % 16) (-1) (by omega) R hR ⟨b2, b3, b4, b5, b6⟩ ws al h1 (by omega) hab (by simp only [push_cast, reduceIte, Nat.reduceEqDiff, Nat.reduceAdd, Nat.reduceSub, Nat.reduceMul, Nat.reduceBEq, Nat.reduceLT, Nat.reduceLeDiff, reduceCtorEq, Int.reduceToNat, Int.reduceNeg]) ?_
            intro row ys tb hy1 hy2 hrow
            simp only [push_cast, reduceIte, Nat.reduceEqDiff, Nat.reduceAdd, Nat.reduceSub, Nat.reduceMul, Nat.reduceBEq, Nat.reduceLT, Nat.reduceLeDiff, reduceCtorEq, Int.reduceToNat, Int.reduceNeg]
            refine ⟨by omega, _, ?_, i + 1, al ++ [(k : Int) + 2 * i], R ++ [row], bs ++ [⟨ys, tb, (a / 4 % 16), (-1), 0⟩], by omega, rfl, ?_, ?_, ?_, ?_, ?_, ?_, .inr ⟨by omega, ?_⟩⟩
            · omega
            · simp
            · simp; omega
            · intro y hy
              rcases List.mem_append.1 hy with hy | hy
              · exact hab y hy
              · rw [List.mem_singleton.1 hy]; omega
            · simp [hR]
            · have := SubR.app (us := [row]) (vs := [blockC true ⟨ys, tb, (a / 4 % 16), (-1), 0⟩]) hsub ⟨hrow, trivial⟩; simpa [rows] using this
            · intro q hq
              rcases List.mem_append.1 hq with hq | hq
              · exact hbs q hq
              · rw [List.mem_singleton.1 hq]; exact ⟨by show (ys.length : Int) ≤ 4; omega, hy2⟩
            · simp
          · skip
            refine packed_blkB x _ _ k c i kk hkk a b d e f g (-1) (-1) (by omega) R hR ⟨b2, b3, b4, b5, b6⟩ ws al h1 (by omega) hab (by simp only [push_cast, reduceIte, Nat.reduceEqDiff, Nat.reduceAdd, Nat.reduceSub, Nat.reduceMul, Nat.reduceBEq, Nat.reduceLT, Nat.reduceLeDiff, reduceCtorEq, Int.reduceToNat, Int.reduceNeg]) ?_
            intro row ys tb hy1 hy2 hrow
            simp only [push_cast, reduceIte, Nat.reduceEqDiff, Nat.reduceAdd, Nat.reduceSub, Nat.reduceMul, Nat.reduceBEq, Nat.reduceLT, Nat.reduceLeDiff, reduceCtorEq, Int.reduceToNat, Int.reduceNeg]
            refine ⟨by omega, _, ?_, i + 1, al ++ [(k : Int) + 2 * i], R ++ [row], bs ++ [⟨ys, tb, (-1), (-1), 0⟩], by omega, rfl, ?_, ?_, ?_, ?_, ?_, ?_, .inr ⟨by omega, ?_⟩⟩
            · omega
            · simp
            · simp; omega
            · intro y hy
              rcases List.mem_append.1 hy with hy | hy
              · exact hab y hy
              · rw [List.mem_singleton.1 hy]; omega
            · simp [hR]
            · have := SubR.app (us := [row]) (vs := [blockC true ⟨ys, tb, (-1), (-1), 0⟩]) hsub ⟨hrow, trivial⟩; simpa [rows] using this
            · intro q hq
              rcases List.mem_append.1 hq with hq | hq
              · exact hbs q hq
              · rw [List.mem_singleton.1 hq]; exact ⟨by show (ys.length : Int) ≤ 4; omega, hy2⟩
            · simp
      · have hic : i = c := by omega
        subst hic
        refine wk_of ⟨[(1, .ptr 1 0), (2, .ptr 2 0), (3, .ptr 3 0), (5, .int k), (6, .int i), (9, .view 64 0 al.length), (11, .int i), (77, .int i), (78, .int i), (79, .bool false)],
          [(1, rawPC false x), (2, [.nil, .nil, .nil, .nil]), (3, [.view 33 0 k, .view 156 0 i, .nil, .nil])], [(33, ⟨3, 93, rows wireC ws⟩), (64, ⟨1, 3, ints al⟩), (156, ⟨5, 71, rows (blockC true) bs⟩)], []⟩ ?_
          (packed_tail1 x hx k i hk hc ws hws al h1 (by omega) hab bs (by have := hsub.len; simp [rows] at this; omega) hbs (by omega))
        simp only [push_cast, reduceIte, Nat.reduceEqDiff, Nat.reduceAdd, Nat.reduceSub, Nat.reduceMul, Nat.reduceBEq, Nat.reduceLT, Nat.reduceLeDiff, reduceCtorEq, Int.reduceToNat, Int.reduceNeg]
        simpa using hsub

theorem packed_raw (x : RawP) (hx : x.Ok) : FnOK Try.prog 29 [.agg (rawPC false x)] (fun v => ∃ p : Packed, p.Gen x ∧ Sub v (.agg (packedC true p))) := by
  refine FnOK.of_awp Try.func29 ok29b (by show 1 ≤ _; decide) ?_
  simp only [ac29b, rv29b, push_cast, reduceIte, Nat.reduceEqDiff, Nat.reduceAdd, Nat.reduceSub, Nat.reduceMul, Nat.reduceBEq, Nat.reduceLT, Nat.reduceLeDiff, reduceCtorEq, Int.reduceToNat, Int.reduceNeg]
  have hi := hx.ins
  have hlen := hx.len
  obtain ⟨n, hn⟩ : ∃ n : Nat, (n : Int) = x.ins % 4 + 1 := ⟨(x.ins % 4 + 1).toNat, by omega⟩
  refine loop_of (fun m st => ∃ (k : Nat) (ws : List Wire), k ≤ n ∧ m = n - k ∧ ws.length = k ∧
    ((k = 0 ∧ st = ⟨[(1, .ptr 1 0), (2, .ptr 2 0), (3, .ptr 3 0), (4, .int k)], [(1, rawPC false x), (2, [.nil, .nil, .nil, .nil]), (3, [.nil, .nil, .nil, .nil])], [], []⟩) ∨
     (k ≠ 0 ∧ st = ⟨[(1, .ptr 1 0), (2, .ptr 2 0), (3, .ptr 3 0), (4, .int k)], [(1, rawPC false x), (2, [.nil, .nil, .nil, .nil]), (3, [.view 33 0 k, .nil, .nil, .nil])], [(33, ⟨3, 93, rows wireC ws⟩)], []⟩))) n ?_ ?_
  · refine ⟨0, [], by omega, by omega, rfl, .inl ⟨rfl, ?_⟩⟩
    simp only [push_cast, reduceIte, Nat.reduceEqDiff, Nat.reduceAdd, Nat.reduceSub, Nat.reduceMul, Nat.reduceBEq, Nat.reduceLT, Nat.reduceLeDiff, reduceCtorEq, Int.reduceToNat, Int.reduceNeg]
  · rintro m st ⟨k, ws, hk, rfl, hws, ⟨rfl, rfl⟩ | ⟨hk0, rfl⟩⟩
    · simp only [push_cast, reduceIte, Nat.reduceEqDiff, Nat.reduceAdd, Nat.reduceSub, Nat.reduceMul, Nat.reduceBEq, Nat.reduceLT, Nat.reduceLeDiff, reduceCtorEq, Int.reduceToNat, Int.reduceNeg]
      refine ⟨⟨by omega, by omega, by omega⟩, ⟨by omega, by omega⟩, ?_⟩
      refine cond_dec (fun h => ?_) fun h => absurd h (by omega)
      refine ⟨⟨by omega, by omega⟩, _, ?_, 1, [⟨3, 0, 0⟩], by omega, rfl, rfl, .inr ⟨by omega, rfl⟩⟩
      omega
    · simp only [push_cast, reduceIte, Nat.reduceEqDiff, Nat.reduceAdd, Nat.reduceSub, Nat.reduceMul, Nat.reduceBEq, Nat.reduceLT, Nat.reduceLeDiff, reduceCtorEq, Int.reduceToNat, Int.reduceNeg]
      refine ⟨⟨by omega, by omega, by omega⟩, ⟨by omega, by omega⟩, ?_⟩
      refine cond_dec (fun h => ?_) fun h => ?_
      · refine ⟨⟨hws.symm, by omega, by omega⟩, ⟨by omega, by omega⟩, _, ?_, k + 1, ws ++ [⟨3, k, 0⟩], by omega, rfl, by simp [hws], .inr ⟨by omega, ?_⟩⟩
        · omega
        · simp [rows, wireC]
      · have hkn : k = n := by omega
        subst hkn
        obtain ⟨c, hc⟩ : ∃ c : Nat, c = min x.blocks.length 9 := ⟨_, rfl⟩
        rw [show min (x.blocks.length : Int) 9 = (c : Int) by omega]
        refine loop_of (fun m st => ∃ (i : Nat) (fl : List Int), i ≤ c ∧ m = c - i ∧ fl.length ≤ i ∧ (∀ y ∈ fl, 0 ≤ y ∧ y < k + 2 * c) ∧
          st = ⟨[(1, .ptr 1 0), (2, .ptr 2 0), (3, .ptr 3 0), (5, .int k), (6, .int c), (7, .view 42 0 fl.length), (8, .int i)], [(1, rawPC false x), (2, [.nil, .nil, .nil, .nil]), (3, [.view 33 0 k, .nil, .nil, .nil])], [(33, ⟨3, 93, rows wireC ws⟩), (42, ⟨1, 3, ints fl⟩)], []⟩) c ?_ ?_
        · refine ⟨0, [], by omega, by omega, by simp, by simp, ?_⟩
          simp only [push_cast, reduceIte, Nat.reduceEqDiff, Nat.reduceAdd, Nat.reduceSub, Nat.reduceMul, Nat.reduceBEq, Nat.reduceLT, Nat.reduceLeDiff, reduceCtorEq, Int.reduceToNat, Int.reduceNeg]
          rfl
        · rintro m st ⟨i, fl, hi2, rfl, hfl, hfb, rfl⟩
          simp only [push_cast, reduceIte, Nat.reduceEqDiff, Nat.reduceAdd, Nat.reduceSub, Nat.reduceMul, Nat.reduceBEq, Nat.reduceLT, Nat.reduceLeDiff, reduceCtorEq, Int.reduceToNat, Int.reduceNeg]
          refine cond_dec (fun h2 => ?_) fun h2 => ?_
          · obtain ⟨a, b, d, e, f, g, hb, ha, _⟩ := hx.at (show i < x.blocks.length by omega)
            rw [hb]
            simp only [push_cast, reduceIte, Nat.reduceEqDiff, Nat.reduceAdd, Nat.reduceSub, Nat.reduceMul, Nat.reduceBEq, Nat.reduceLT, Nat.reduceLeDiff, reduceCtorEq, Int.reduceToNat, Int.reduceNeg]
            refine ⟨⟨by omega, by omega⟩, ⟨by omega, by omega⟩, by omega, ⟨by omega, by omega, by omega⟩, ?_⟩
            refine cond_dec (fun h3 => ?_) fun h3 => ?_
            · refine ⟨⟨by omega, by omega⟩, ⟨by omega, by omega⟩, ⟨by omega, by omega⟩, by simp, ⟨by omega, by omega⟩, ⟨by omega, by omega⟩, _, ?_, i + 1, fl ++ [(k : Int) + 2 * i + 1], by omega, rfl, by simp; omega, fun y hy => ?_, ?_⟩
              · omega
              · rcases List.mem_append.1 hy with hy | hy
                · exact hfb y hy
                · rw [List.mem_singleton.1 hy]; omega
              · simp
            · refine ⟨⟨by omega, by omega⟩, _, ?_, i + 1, fl, by omega, rfl, by omega, hfb, ?_⟩
              · omega
              · simp
          · refine loop_of (fun m st => ∃ (i : Nat) (al : List Int), i ≤ k ∧ m = k - i ∧ al.length = i ∧ (∀ y ∈ al, 0 ≤ y ∧ y < k + 2 * c) ∧
              st = ⟨[(1, .ptr 1 0), (2, .ptr 2 0), (3, .ptr 3 0), (5, .int k), (6, .int c), (7, .view 42 0 fl.length), (9, .view 64 0 i), (10, .int i)], [(1, rawPC false x), (2, [.nil, .nil, .nil, .nil]), (3, [.view 33 0 k, .nil, .nil, .nil])], [(33, ⟨3, 93, rows wireC ws⟩), (42, ⟨1, 3, ints fl⟩), (64, ⟨1, 3, ints al⟩)], []⟩) k ?_ ?_
            · refine ⟨0, [], by omega, by omega, by simp, by simp, ?_⟩
              simp only [push_cast, reduceIte, Nat.reduceEqDiff, Nat.reduceAdd, Nat.reduceSub, Nat.reduceMul, Nat.reduceBEq, Nat.reduceLT, Nat.reduceLeDiff, reduceCtorEq, Int.reduceToNat, Int.reduceNeg]
              rfl
            · rintro m st ⟨i, al, hi3, rfl, hal, hab, rfl⟩
              simp only [push_cast, reduceIte, Nat.reduceEqDiff, Nat.reduceAdd, Nat.reduceSub, Nat.reduceMul, Nat.reduceBEq, Nat.reduceLT, Nat.reduceLeDiff, reduceCtorEq, Int.reduceToNat, Int.reduceNeg]
              refine cond_dec (fun h3 => ?_) fun h3 => ?_
              · refine ⟨by simp, ⟨hal.symm, by omega, by omega⟩, ⟨by omega, by omega⟩, _, ?_, i + 1, al ++ [(i : Int)], by omega, rfl, by simp [hal], fun y hy => ?_, ?_⟩
                · omega
                · rcases List.mem_append.1 hy with hy | hy
                  · exact hab y hy
                  · rw [List.mem_singleton.1 hy]; omega
                · simp
              · refine ⟨⟨hal.symm, by omega, by omega⟩, ?_⟩
                rw [show i + fl.length = (al ++ fl).length by simp [hal]]
                exact packed_main x hx k c hn hc ws hws (al ++ fl) fl (by simp; omega) (by simp; omega) fun y hy => (List.mem_append.1 hy).elim (hab y) (hfb y)
theorem packed_ok (x : RawP) (hx : x.Ok) : FnOK Try.prog 29 [.agg (rawPC false x)] (fun v => ∃ p : Packed, p.Gen x ∧ v = .agg (packedC true p)) :=
  FnOK.res (FnOK.mono (packed_raw x hx) fun _ ⟨p, hp, hs⟩ => ⟨_, hs, by simp only [push_cast, reduceIte, Nat.reduceEqDiff, Nat.reduceAdd, Nat.reduceSub, Nat.reduceMul, Nat.reduceBEq, Nat.reduceLT, Nat.reduceLeDiff, reduceCtorEq, Int.reduceToNat, Int.reduceNeg] <;> simp, p, hp, rfl⟩)
end Go.Proofs.Ytbdamnfkgdbidaa
/- contracts: the job that is drawn -/
namespace Go.Proofs.Ytbdamnfkgdbidaa
open Go Go.Vc Txt

theorem kindsF_len (n : Nat) (l : List Int) : (kindsF n l).length = n := by simp [kindsF]
theorem gridF_ok {y : RawG} (hy : y.Ok) : (2 ≤ (gridF y).w ∧ (gridF y).w ≤ 5) ∧ (2 ≤ (gridF y).h ∧ (gridF y).h ≤ 5) ∧ (2 ≤ (gridF y).tracks ∧ (gridF y).tracks ≤ 4) ∧ (gridF y).pads = 24 ∧
    (4 ≤ (gridF y).w * (gridF y).h ∧ (gridF y).w * (gridF y).h ≤ 25) ∧ ((gridF y).kind.length : Int) = (gridF y).w * (gridF y).h := by
  obtain ⟨h1, h2, h3, h4, h5, h6⟩ := hy
  have hw : 2 ≤ 2 + y.w % 4 ∧ 2 + y.w % 4 ≤ 5 := by omega
  have hh : 2 ≤ 2 + y.h % 4 ∧ 2 + y.h % 4 ≤ 5 := by omega
  have hlo : 2 * 2 ≤ (2 + y.w % 4) * (2 + y.h % 4) := Int.mul_le_mul hw.1 hh.1 (by omega) (by omega)
  have hhi : (2 + y.w % 4) * (2 + y.h % 4) ≤ 5 * 5 := Int.mul_le_mul hw.2 hh.2 (by omega) (by omega)
  refine ⟨hw, hh, by show 2 ≤ 2 + y.tracks % 3 ∧ 2 + y.tracks % 3 ≤ 4; omega, rfl, ⟨hlo, hhi⟩, ?_⟩
  show ((kindsF _ _).length : Int) = _
  rw [kindsF_len]
  show (((2 + y.w % 4) * (2 + y.h % 4)).toNat : Int) = (2 + y.w % 4) * (2 + y.h % 4)
  omega
theorem withF_mem {l : List Int} {n x : Int} (h : x ∈ withF l n) : x ∈ l ∨ x = n := by
  unfold withF at h
  simp only at h
  split at h
  · exact .inl h
  · simp only [List.mem_append, List.mem_singleton] at h
    rcases h with (h | h) | h
    · exact .inl (List.mem_of_mem_take h)
    · exact .inr h
    · exact .inl (List.mem_of_mem_drop h)
theorem badF_ok {g : Grid} (hc : 0 < countF g) (l : List Int) : (badF g l).tiles.length ≤ 6 ∧ (badF g l).nodes.length ≤ 6 ∧ ∀ n ∈ (badF g l).nodes, 0 ≤ n ∧ n < countF g := by
  have key : ∀ q : Nat, ((List.range q).foldl (badStep g l) ⟨[], []⟩).tiles.length ≤ q ∧ ((List.range q).foldl (badStep g l) ⟨[], []⟩).nodes.length ≤ q ∧ ∀ n ∈ ((List.range q).foldl (badStep g l) ⟨[], []⟩).nodes, 0 ≤ n ∧ n < countF g := by
    intro q
    induction q with
    | zero => simp
    | succ q ih =>
      rw [foldl_range_succ]
      generalize (List.range q).foldl (badStep g l) ⟨[], []⟩ = s at ih ⊢
      unfold badStep
      simp only
      split
      · have := withF_len s.tiles ((256 * l.getD (2 * q) default + l.getD (2 * q + 1) default) % (g.w * g.h))
        exact ⟨by simp only; omega, by simp only; omega, ih.2.2⟩
      · have := withF_len s.nodes ((256 * l.getD (2 * q) default + l.getD (2 * q + 1) default) % countF g)
        refine ⟨by simp only; omega, by simp only; omega, fun n hn => ?_⟩
        rcases withF_mem hn with hn | rfl
        · exact ih.2.2 n hn
        · exact ⟨Int.emod_nonneg _ (by omega), Int.emod_lt_of_pos _ hc⟩
  have h := key (min 6 (l.length / 2))
  exact ⟨by have := h.1; unfold badF; omega, by have := h.2.1; unfold badF; omega, h.2.2⟩

theorem job_ok {x : RawP} (hx : x.Ok) {p : Packed} (hp : p.Gen x) {y : RawG} (hy : y.Ok) (l : List Int) : (⟨p, gridF y, badF (gridF y) l⟩ : Job).Ok := by
  obtain ⟨g1, g2, g3, g4, g5, g6⟩ := gridF_ok hy
  have hi := hx.ins
  have ho := hx.out
  have p1 := hp.ins
  have p2 := hp.nb
  have p3 := hp.out
  have p4 := hp.drive
  have hm : 0 ≤ (gridF y).w * (gridF y).h * (6 + 2 * (gridF y).tracks) ∧ (gridF y).w * (gridF y).h * (6 + 2 * (gridF y).tracks) ≤ 25 * 14 :=
    ⟨Int.mul_nonneg (by omega) (by omega), Int.mul_le_mul g5.2 (by omega) (by omega) (by omega)⟩
  have hc : 0 < countF (gridF y) ∧ countF (gridF y) ≤ 1000 := by unfold countF; omega
  obtain ⟨b1, b2, b3⟩ := badF_ok hc.1 l
  exact ⟨⟨by show 0 ≤ (gridF y).w * (gridF y).h; omega, by show (gridF y).w * (gridF y).h ≤ 1000000; omega⟩, ⟨by show 0 ≤ (gridF y).tracks; omega, by show (gridF y).tracks ≤ 1000; omega⟩, g6, by show (p.blocks.length : Int) ≤ 1000; omega, fun b hb => by have := hp.nin b hb; omega, by show (p.ins.length : Int) ≤ 1000000; omega, by show (p.out.length : Int) ≤ 1000000; omega,
    by show ((badF (gridF y) l).tiles.length : Int) ≤ 1000000; omega, by show ((badF (gridF y) l).nodes.length : Int) ≤ 1000000; omega, fun n hn => by have := b3 n hn; omega, ⟨by show 0 < (gridF y).w; omega, by show (gridF y).w ≤ 1000000; omega⟩, ⟨by show 0 < (gridF y).h; omega, by show (gridF y).h ≤ 1000000; omega⟩, by show (p.drive.length : Int) ≤ 1000; omega, hp.sb, hp.sd⟩

/-- Some packing of the size that is asked for. -/
def genP (x : RawP) : Packed := ⟨List.replicate (x.ins % 4 + 1).toNat default, List.replicate (min x.blocks.length 9) default, List.replicate (x.out % 4 + 1).toNat default, List.replicate (x.out % 4 + 1).toNat 0⟩
theorem genP_ok {x : RawP} (hx : x.Ok) : (genP x).Gen x := by
  have hi := hx.ins
  have ho := hx.out
  refine ⟨?_, by simp [genP], ?_, by simp [genP], fun b hb => ?_, fun b hb s hs => ?_, fun s hs => ?_⟩
  · show ((List.replicate _ _).length : Int) = _
    rw [List.length_replicate]; omega
  · show ((List.replicate _ _).length : Int) = _
    rw [List.length_replicate]; omega
  · rw [List.eq_of_mem_replicate hb]; decide
  · rw [List.eq_of_mem_replicate hb] at hs; cases hs
  · rw [List.eq_of_mem_replicate hs]
    have : ((genP x).ins.length : Int) = x.ins % 4 + 1 := by
      show ((List.replicate _ _).length : Int) = _
      rw [List.length_replicate]; omega
    omega

theorem lmade_ok (x : RawP) (hx : x.Ok) (y : RawG) (hy : y.Ok) (z : Odd) (hz : (z.bad.length : Int) ≤ 1000000) (hzb : ∀ b ∈ z.bad, 0 ≤ b ∧ b ≤ 255) :
    FnOK Try.prog 11 [.agg (rawPC false x), .agg (rawGC false y), .agg (oddC false z)] (fun v => ∃ p : Packed, p.Gen x ∧ v = .agg (jobC true ⟨p, gridF y, badF (gridF y) z.bad⟩)) := by
  obtain ⟨g1, g2, g3, g4, g5, g6⟩ := gridF_ok hy
  refine FnOK.of_awp Try.func11 ok11 (by show 3 ≤ _; decide) ?_
  simp only [ac11, rv11, push_cast, reduceIte, Nat.reduceEqDiff, Nat.reduceAdd, Nat.reduceSub, Nat.reduceMul, Nat.reduceBEq, Nat.reduceLT, Nat.reduceLeDiff, reduceCtorEq, Int.reduceToNat, Int.reduceNeg]
  refine dcal_of (packed_ok x hx) ?_ ?_
  · exact ⟨_, genP x, genP_ok hx, rfl⟩
  rintro _ ⟨p, hp, rfl⟩
  refine ⟨rfl, ?_⟩
  simp only [push_cast, reduceIte, Nat.reduceEqDiff, Nat.reduceAdd, Nat.reduceSub, Nat.reduceMul, Nat.reduceBEq, Nat.reduceLT, Nat.reduceLeDiff, reduceCtorEq, Int.reduceToNat, Int.reduceNeg]
  refine dcal_sub (made_ok y hy) (by simp only [push_cast, reduceIte, Nat.reduceEqDiff, Nat.reduceAdd, Nat.reduceSub, Nat.reduceMul, Nat.reduceBEq, Nat.reduceLT, Nat.reduceLeDiff, reduceCtorEq, Int.reduceToNat, Int.reduceNeg]) rfl ?_
  simp only [push_cast, reduceIte, Nat.reduceEqDiff, Nat.reduceAdd, Nat.reduceSub, Nat.reduceMul, Nat.reduceBEq, Nat.reduceLT, Nat.reduceLeDiff, reduceCtorEq, Int.reduceToNat, Int.reduceNeg]
  refine cal_sub (bad_ok (gridF y) ⟨by omega, by omega⟩ ⟨by omega, by omega⟩ ⟨by omega, by omega⟩ z.bad hz hzb) (by simp only [push_cast, reduceIte, Nat.reduceEqDiff, Nat.reduceAdd, Nat.reduceSub, Nat.reduceMul, Nat.reduceBEq, Nat.reduceLT, Nat.reduceLeDiff, reduceCtorEq, Int.reduceToNat, Int.reduceNeg]) ?_
  simp only [push_cast, reduceIte, Nat.reduceEqDiff, Nat.reduceAdd, Nat.reduceSub, Nat.reduceMul, Nat.reduceBEq, Nat.reduceLT, Nat.reduceLeDiff, reduceCtorEq, Int.reduceToNat, Int.reduceNeg]
  exact ⟨⟨fun _ _ => trivial, fun _ _ _ _ => trivial, fun _ _ => trivial, fun _ _ => trivial, fun _ _ => trivial, fun _ _ => trivial, fun _ _ => trivial⟩, p, hp, rfl⟩
end Go.Proofs.Ytbdamnfkgdbidaa
/- plain laws: what an improvement keeps -/
namespace Go.Proofs.Ytbdamnfkgdbidaa
open Go Go.Vc

/-- All blocks stand on tiles that suit them. -/
def Suited (j : Job) (a : List Int) : Prop := ∀ i : Nat, i < a.length → suitsR j i (a.getD i default) = true
theorem checkF_zero_iff {j : Job} {a : List Int} : checkF j a = 0 ↔ Fits j ∧ IsPl j a ∧ Suited j a := by
  have e : (List.range a.length).all (fun k => suitsR j k (a.getD k default)) = true ↔ Suited j a := by
    rw [List.all_eq_true]
    exact ⟨fun h i hi => h i (List.mem_range.2 hi), fun h i hi => h i (List.mem_range.1 hi)⟩
  unfold checkF
  constructor
  · intro h
    split at h
    · rename_i h1
      exact ⟨h1.1, h1.2.1, e.1 h1.2.2⟩
    · cases h
  · rintro ⟨h1, h2, h3⟩
    rw [if_pos ⟨h1, h2, e.2 h3⟩]

theorem getD_set_eq {a : List Int} {k : Nat} (h : k < a.length) (x : Int) : (a.set k x).getD k default = x := by simp [List.getD_eq_getElem?_getD, h]
theorem getD_set_ne {a : List Int} {k i : Nat} (h : k ≠ i) (x : Int) : (a.set k x).getD i default = a.getD i default := by simp [List.getD_eq_getElem?_getD, List.getElem?_set_ne h]

/-- What an exchange does. -/
theorem exch_spec {j : Job} {fx at_ a : List Int} {k t : Nat} (hp : IsPl j at_) (hk : k < at_.length) (h : exchF j fx at_ k t = some a) :
    (k : Int) ∉ fx ∧ suitsR j k t = true ∧ at_.getD k default ≠ t ∧
      ((∃ o : Nat, o < at_.length ∧ at_.getD o default = t ∧ o ≠ k ∧ (o : Int) ∉ fx ∧ suitsR j o (at_.getD k default) = true ∧ a = (at_.set k t).set o (at_.getD k default)) ∨
       ((t : Int) ∉ at_ ∧ a = at_.set k t)) := by
  unfold exchF at h
  simp only at h
  split at h
  · cases h
  rename_i h1
  split at h
  · cases h
  rename_i h2
  injection h with h
  have hs : suitsR j k t = true := by cases hc : suitsR j k t <;> simp_all
  refine ⟨fun hh => h1 (.inr (.inl hh)), hs, fun hh => h1 (.inl hh), ?_⟩
  subst h
  split
  · rename_i ho
    obtain ⟨i, e, hi, hpi, _⟩ := fidx_spec ho
    rw [e] at h2 ⊢
    have hpi : at_[i] = t := by simpa using hpi
    have hgi : at_.getD i default = t := by rw [← hpi]; simp [hi]
    refine .inl ⟨i, hi, hgi, fun e => ?_, fun hh => h2 ⟨by omega, .inl hh⟩, ?_, rfl⟩
    · subst e; exact h1 (.inl hgi)
    · cases hc : suitsR j i (at_.getD k default)
      · exact absurd ⟨by omega, .inr hc⟩ h2
      · rfl
  · rename_i ho
    refine .inr ⟨fun hm => ?_, rfl⟩
    have := fidx_neg ho _ hm
    simp at this

/-- An exchange keeps what suits, and the fixed blocks. -/
theorem exch_keeps {j : Job} {fx at_ a : List Int} {k t : Nat} (hp : IsPl j at_) (hk : k < at_.length) (h : exchF j fx at_ k t = some a) :
    (Suited j at_ → Suited j a) ∧ ∀ i : Nat, (i : Int) ∈ fx → a.getD i default = at_.getD i default := by
  obtain ⟨h1, h2, h3, h4⟩ := exch_spec hp hk h
  have hl := (exch_undo hk h).1
  rcases h4 with ⟨o, ho, hot, hok, hof, hos, rfl⟩ | ⟨ht, rfl⟩
  · refine ⟨fun hs i hi => ?_, fun i hi => ?_⟩
    · rw [hl] at hi
      by_cases e1 : o = i
      · subst e1; rw [getD_set_eq (by simpa using ho)]; exact hos
      · rw [getD_set_ne e1]
        by_cases e2 : k = i
        · subst e2; rw [getD_set_eq hk]; exact h2
        · rw [getD_set_ne e2]; exact hs i hi
    · have e1 : o ≠ i := fun e => hof (e ▸ hi)
      have e2 : k ≠ i := fun e => h1 (e ▸ hi)
      rw [getD_set_ne e1, getD_set_ne e2]
  · refine ⟨fun hs i hi => ?_, fun i hi => ?_⟩
    · rw [hl] at hi
      by_cases e2 : k = i
      · subst e2; rw [getD_set_eq hk]; exact h2
      · rw [getD_set_ne e2]; exact hs i hi
    · have e2 : k ≠ i := fun e => h1 (e ▸ hi)
      rw [getD_set_ne e2]

/-- What holds on the way from one placement on. -/
structure Keeps (j : Job) (fx at0 : List Int) (s : Im) : Prop where
  ok : ImOk j at0 s
  suit : Suited j at0 → Suited j s.1
  fix : ∀ i : Nat, (i : Int) ∈ fx → s.1.getD i default = at0.getD i default
theorem tile_keeps {j : Job} {fx at0 : List Int} {k : Nat} {s : Im} (h : Keeps j fx at0 s) (hk : k < at0.length) (t : Nat) : Keeps j fx at0 (tileStep j fx k s t) := by
  refine ⟨tileStep_ok h.ok hk t, ?_, ?_⟩
  all_goals
    have hl := h.ok.len
    unfold tileStep
    cases he : exchF j fx s.1 k t with
    | none => first | exact h.suit | exact h.fix
    | some a =>
      obtain ⟨e1, e2⟩ := exch_keeps h.ok.pl (by omega) he
      simp only
      split
      · first
          | exact fun hs => e1 (h.suit hs)
          | exact fun i hi => (e2 i hi).trans (h.fix i hi)
      · first | exact h.suit | exact h.fix
theorem tiles_keeps {j : Job} {fx at0 : List Int} {k : Nat} (hk : k < at0.length) : ∀ (l : List Nat) {s : Im}, Keeps j fx at0 s → Keeps j fx at0 (l.foldl (tileStep j fx k) s)
  | [], _, h => h
  | t :: l, _, h => tiles_keeps hk l (tile_keeps h hk t)
theorem blocks_keeps {j : Job} {fx at0 : List Int} : ∀ (l : List Nat) {s : Im}, (∀ k ∈ l, k < at0.length) → Keeps j fx at0 s → Keeps j fx at0 (l.foldl (blockStep j fx) s)
  | [], _, _, h => h
  | k :: l, _, hl, h => blocks_keeps l (fun m hm => hl m (List.mem_cons_of_mem _ hm)) (tiles_keeps (hl k List.mem_cons_self) _ h)
theorem pass_keeps {j : Job} {fx at0 : List Int} {s : Im} (h : Keeps j fx at0 s) : Keeps j fx at0 (passStep j fx at0.length s) := blocks_keeps (List.range at0.length) (fun k hk => List.mem_range.1 hk) h
theorem passes_keeps {j : Job} {fx at0 : List Int} : ∀ (p : Nat) {s : Im}, Keeps j fx at0 s → Keeps j fx at0 (passesF j fx at0.length p s)
  | 0, _, h => h
  | p + 1, s, h => by
    have h1 := pass_keeps h
    simp only [passesF]
    split
    · exact h1
    · exact passes_keeps p h1
theorem keeps_init {j : Job} {fx at0 : List Int} (hp : IsPl j at0) : Keeps j fx at0 (at0, costF j at0, 0) :=
  ⟨⟨hp, rfl, rfl, by show (0 : Int) ≤ 0; omega, by show 0 + costF j at0 ≤ _; omega⟩, id, fun _ _ => rfl⟩
theorem improveF_keeps {j : Job} {fx at0 : List Int} (hp : IsPl j at0) (p : Nat) : Keeps j fx at0 (improveF j fx at0 p) := passes_keeps p (keeps_init hp)

/-- No pass makes the cost greater. -/
theorem tile_le {j : Job} {fx : List Int} {k : Nat} (s : Im) (t : Nat) : (tileStep j fx k s t).2.1 ≤ s.2.1 := by
  unfold tileStep
  split
  · exact Int.le_refl _
  · split
    · rename_i h; exact Int.le_of_lt h
    · exact Int.le_refl _
theorem tiles_le {j : Job} {fx : List Int} {k : Nat} : ∀ (l : List Nat) (s : Im), (l.foldl (tileStep j fx k) s).2.1 ≤ s.2.1
  | [], _ => Int.le_refl _
  | t :: l, s => Int.le_trans (tiles_le l _) (tile_le s t)
theorem blocks_le {j : Job} {fx : List Int} : ∀ (l : List Nat) (s : Im), (l.foldl (blockStep j fx) s).2.1 ≤ s.2.1
  | [], _ => Int.le_refl _
  | k :: l, s => Int.le_trans (blocks_le l _) (tiles_le _ s)
theorem passes_le {j : Job} {fx : List Int} {n : Nat} : ∀ (p : Nat) (s : Im), (passesF j fx n (p + 1) s).2.1 ≤ (passesF j fx n p s).2.1
  | 0, s => by
    simp only [passesF]
    have : (passStep j fx n s).2.1 ≤ s.2.1 := blocks_le _ s
    split <;> exact this
  | p + 1, s => by
    have ih := passes_le (j := j) (fx := fx) (n := n) p (passStep j fx n s)
    show (if (passStep j fx n s).2.2 = s.2.2 then passStep j fx n s else passesF j fx n (p + 1) (passStep j fx n s)).2.1 ≤ (if (passStep j fx n s).2.2 = s.2.2 then passStep j fx n s else passesF j fx n p (passStep j fx n s)).2.1
    split
    · exact Int.le_refl _
    · exact ih

/-! What Place makes. -/
def SuitedP (j : Job) (a : List Int) : Prop := ∀ i : Nat, 0 ≤ a.getD i default → i < a.length → suitsR j i (a.getD i default) = true
theorem suitedP_set {j : Job} {a : List Int} {i : Nat} {t : Int} (h : SuitedP j a) (hs : suitsR j i t = true) : SuitedP j (a.set i t) := by
  intro m h0 hm
  rw [List.length_set] at hm
  by_cases e : i = m
  · subst e; rw [getD_set_eq hm]; exact hs
  · rw [getD_set_ne e] at h0 ⊢; exact h m h0 hm
theorem keepF_spec {j : Job} : ∀ (l : List Int) (i : Nat) (s s' : List Int × List Int), keepF j l i s = some s' → i + l.length ≤ s.1.length → SuitedP j s.1 →
    SuitedP j s'.1 ∧ s'.1.length = s.1.length ∧ (∀ m : Nat, m < l.length → l.getD m default ≠ -1 → s'.1.getD (i + m) default = l.getD m default ∧ ((i + m : Nat) : Int) ∈ s'.2) ∧
      (∀ m : Nat, m < i → s'.1.getD m default = s.1.getD m default) ∧ ∀ x ∈ s.2, x ∈ s'.2
  | [], _, s, s', h, _, hs => by cases h; exact ⟨hs, rfl, fun m hm => absurd hm (by simp), fun _ _ => rfl, fun _ h => h⟩
  | t :: r, i, s, s', h, hl, hs => by
    simp only [List.length_cons] at hl
    simp only [keepF] at h
    split at h
    · rename_i ht
      obtain ⟨h1, h2, h3, h4, h5⟩ := keepF_spec r (i + 1) s s' h (by omega) hs
      refine ⟨h1, h2, fun m hm hne => ?_, fun m hm => h4 m (by omega), h5⟩
      cases m with
      | zero => exact absurd ht hne
      | succ m =>
        have := h3 m (by simpa using hm) (by simpa using hne)
        rw [show i + 1 + m = i + (m + 1) by omega] at this
        simpa using this
    · rename_i ht
      split at h
      · cases h
      · rename_i hn
        have hsu : suitsR j i t = true := by cases hc : suitsR j i t <;> simp_all
        obtain ⟨h1, h2, h3, h4, h5⟩ := keepF_spec r (i + 1) _ s' h (by simp only [List.length_set]; omega) (suitedP_set hs hsu)
        refine ⟨h1, by rw [h2]; simp, fun m hm hne => ?_, fun m hm => ?_, fun x hx => h5 x (List.mem_append_left _ hx)⟩
        · cases m with
          | zero =>
            have := h4 i (by omega)
            simp only [getD_set_eq (show i < s.1.length by omega)] at this
            exact ⟨this, h5 _ (List.mem_append_right _ (by simp))⟩
          | succ m =>
            have := h3 m (by simpa using hm) (by simpa using hne)
            rw [show i + 1 + m = i + (m + 1) by omega] at this
            simpa using this
        · have := h4 m (by omega)
          simp only [getD_set_ne (show i ≠ m by omega)] at this
          exact this
theorem fillStep_suit {j : Job} {reads : Bool} {a a' : List Int} {b : Nat} (h : fillStep j reads a b = some a') (hs : SuitedP j a) : SuitedP j a' := by
  unfold fillStep at h
  split at h
  · cases h; exact hs
  · split at h
    · cases h
    · rename_i t ht
      cases h
      exact suitedP_set hs (findT_spec ht).1
theorem fillF_suit {j : Job} {reads : Bool} : ∀ (n b : Nat) (a a' : List Int), fillF j reads n b a = some a' → SuitedP j a → SuitedP j a'
  | 0, _, a, a', h, hs => by cases h; exact hs
  | n + 1, b, a, a', h, hs => by
    simp only [fillF] at h
    split at h
    · cases h
    · rename_i a1 h1
      exact fillF_suit n (b + 1) a1 a' h (fillStep_suit h1 hs)
theorem fillAll_suit {j : Job} : ∀ (l : List Bool) (a a' : List Int), fillAll j l a = some a' → SuitedP j a → SuitedP j a'
  | [], a, a', h, hs => by cases h; exact hs
  | r :: rs, a, a', h, hs => by
    simp only [fillAll] at h
    split at h
    · cases h
    · rename_i a1 h1
      exact fillAll_suit rs a1 a' h (fillF_suit _ _ _ _ h1 hs)

/-- Whatever the passes are: an error, or the improvement of one placement, on which the fixed blocks stand where they should. -/
theorem placeF_spec (j : Job) (fx : List Int) (hl : fx.length = j.p.blocks.length ∨ fx = []) :
    (∃ e : Int, (e = 290 ∨ e = 4) ∧ ∀ p : Int, 0 ≤ p → p ≤ 1000 → placeF j fx p = ([], e)) ∨
    (∃ a kept : List Int, Fits j ∧ IsPl j a ∧ Suited j a ∧ (∀ i : Nat, i < fx.length → 0 ≤ fx.getD i default → a.getD i default = fx.getD i default ∧ (i : Int) ∈ kept) ∧
      ∀ p : Int, 0 ≤ p → p ≤ 1000 → placeF j fx p = ((improveF j kept a p.toNat).1, 0)) := by
  have h0 : ∀ p : Int, 0 ≤ p → p ≤ 1000 → ¬ (p < 0 ∨ 1000 < p ∨ ((fx.length : Int) ≠ 0 ∧ (fx.length : Int) ≠ j.p.blocks.length)) := fun p h1 h2 => by
    rcases hl with hl | hl
    · omega
    · subst hl; simp; omega
  by_cases hF : Fits j
  · cases hk : keepF j fx 0 (List.replicate j.p.blocks.length (-1), []) with
    | none => exact .inl ⟨290, .inl rfl, fun p h1 h2 => by rw [placeF, if_neg (h0 p h1 h2), if_neg (fun h => h hF), hk]⟩
    | some s =>
      have hinit : SuitedP j (List.replicate j.p.blocks.length (-1)) := fun i hi hl => by
        rw [List.length_replicate] at hl
        simp [List.getD_eq_getElem?_getD, hl] at hi
      obtain ⟨k1, k2, k3, _, _⟩ := keepF_spec fx 0 _ s hk (by
        rcases hl with hl | hl
        · simp [hl]
        · subst hl; simp) hinit
      have hpart := (keepF_part fx 0 _ s hk (part_init j)).1
      cases hf : fillAll j [true, false] s.1 with
      | none => exact .inl ⟨4, .inr rfl, fun p h1 h2 => by rw [placeF, if_neg (h0 p h1 h2), if_neg (fun h => h hF), hk]; simp only [tailF, hf]⟩
      | some a =>
        obtain ⟨hpl, hst⟩ := fillAll_pl hf hpart
        have hsu := fillAll_suit _ _ _ hf k1
        refine .inr ⟨a, s.2, hF, hpl, fun i hi => hsu i ?_ hi, fun i hi h1 => ?_, fun p h1 h2 => by rw [placeF, if_neg (h0 p h1 h2), if_neg (fun h => h hF), hk]; simp only [tailF, hf]⟩
        · have := hpl.2.1 (a.getD i default) (by simp [List.getD_eq_getElem?_getD, hi])
          exact this.1
        · have h3 := k3 i hi (by omega)
          rw [Nat.zero_add] at h3
          refine ⟨?_, h3.2⟩
          rw [hst i (by rw [h3.1]; exact h1), h3.1]
  · exact .inl ⟨290, .inl rfl, fun p h1 h2 => by rw [placeF, if_neg (h0 p h1 h2), if_pos hF]⟩
end Go.Proofs.Ytbdamnfkgdbidaa
/- PlacementLegal: the law's function answers true -/
namespace Go.Proofs.Ytbdamnfkgdbidaa
open Go Go.Vc Txt

structure RawP.By (x : RawP) : Prop where
  ins : 0 ≤ x.ins ∧ x.ins ≤ 255
  out : 0 ≤ x.out ∧ x.out ≤ 255
  six : ∀ b ∈ x.blocks, b.length = 6
  byte : ∀ b ∈ x.blocks, ∀ v ∈ b, 0 ≤ v ∧ v ≤ 255
structure RawG.By (x : RawG) : Prop where
  w : 0 ≤ x.w ∧ x.w ≤ 255
  h : 0 ≤ x.h ∧ x.h ≤ 255
  tracks : 0 ≤ x.tracks ∧ x.tracks ≤ 255
  pads : 0 ≤ x.pads ∧ x.pads ≤ 255
  kind : ∀ k ∈ x.kind, 0 ≤ k ∧ k ≤ 255
structure Odd.By (z : Odd) : Prop where
  bad : ∀ b ∈ z.bad, 0 ≤ b ∧ b ≤ 255
  at_ : ∀ b ∈ z.at_, 0 ≤ b ∧ b ≤ 255
  fixed : ∀ b ∈ z.fixed, 0 ≤ b ∧ b ≤ 255
  any : ∀ b ∈ z.any, -9223372036854775808 ≤ b ∧ b ≤ 9223372036854775807
  some_ : ∀ b ∈ z.some_, -9223372036854775808 ≤ b ∧ b ≤ 9223372036854775807
  block : -9223372036854775808 ≤ z.block ∧ z.block ≤ 9223372036854775807
  tile : -9223372036854775808 ≤ z.tile ∧ z.tile ≤ 9223372036854775807
  passes : -9223372036854775808 ≤ z.passes ∧ z.passes ≤ 9223372036854775807
theorem RawP.By.ok {x : RawP} (h : x.By) (hl : x.blocks.length ≤ 9) : x.Ok := ⟨h.ins, h.out, by omega, h.six, h.byte⟩
theorem RawG.By.ok {x : RawG} (h : x.By) (hl : x.kind.length ≤ 40) : x.Ok := ⟨h.w, h.h, h.tracks, h.pads, by omega, h.kind⟩

set_option maxHeartbeats 2000000 in
theorem legal_ok (x : RawP) (hx : x.By) (y : RawG) (hy : y.By) (z : Odd) (hz : z.By) :
    FnEq Try.prog 4 [.agg (rawPC false x), .agg (rawGC false y), .agg (oddC false z)] (.bool true) := by
  refine FnEq.of_awp Try.func4 ok4 (by show 3 ≤ _; decide) (by simp only [push_cast, reduceIte, Nat.reduceEqDiff, Nat.reduceAdd, Nat.reduceSub, Nat.reduceMul, Nat.reduceBEq, Nat.reduceLT, Nat.reduceLeDiff, reduceCtorEq, Int.reduceToNat, Int.reduceNeg] <;> first | exact fun _ _ => trivial | simp) ?_
  simp only [ac4, rv4, push_cast, reduceIte, Nat.reduceEqDiff, Nat.reduceAdd, Nat.reduceSub, Nat.reduceMul, Nat.reduceBEq, Nat.reduceLT, Nat.reduceLeDiff, reduceCtorEq, Int.reduceToNat, Int.reduceNeg]
  refine cal_sub examples_ok (by simp only [push_cast, reduceIte, Nat.reduceEqDiff, Nat.reduceAdd, Nat.reduceSub, Nat.reduceMul, Nat.reduceBEq, Nat.reduceLT, Nat.reduceLeDiff, reduceCtorEq, Int.reduceToNat, Int.reduceNeg]) ?_
  simp only [push_cast, reduceIte, Nat.reduceEqDiff, Nat.reduceAdd, Nat.reduceSub, Nat.reduceMul, Nat.reduceBEq, Nat.reduceLT, Nat.reduceLeDiff, reduceCtorEq, Int.reduceToNat, Int.reduceNeg]
  refine cal_sub (small_ok x y z) (by simp only [push_cast, reduceIte, Nat.reduceEqDiff, Nat.reduceAdd, Nat.reduceSub, Nat.reduceMul, Nat.reduceBEq, Nat.reduceLT, Nat.reduceLeDiff, reduceCtorEq, Int.reduceToNat, Int.reduceNeg]) ?_
  simp only [push_cast, reduceIte, Nat.reduceEqDiff, Nat.reduceAdd, Nat.reduceSub, Nat.reduceMul, Nat.reduceBEq, Nat.reduceLT, Nat.reduceLeDiff, reduceCtorEq, Int.reduceToNat, Int.reduceNeg]
  refine cond_of (fun h => ?_) fun h => ?_
  · simp only [push_cast, reduceIte, Nat.reduceEqDiff, Nat.reduceAdd, Nat.reduceSub, Nat.reduceMul, Nat.reduceBEq, Nat.reduceLT, Nat.reduceLeDiff, reduceCtorEq, Int.reduceToNat, Int.reduceNeg]
    done
  have hs : Small x y z := by simpa using h
  have hx := hx.ok hs.1
  have hy := hy.ok hs.2.1
  obtain ⟨_, _, s3, s4, s5, _⟩ := hs
  refine cal_subO (lmade_ok x hx y hy z (by omega) hz.bad) (by simp only [push_cast, reduceIte, Nat.reduceEqDiff, Nat.reduceAdd, Nat.reduceSub, Nat.reduceMul, Nat.reduceBEq, Nat.reduceLT, Nat.reduceLeDiff, reduceCtorEq, Int.reduceToNat, Int.reduceNeg]) ?_
  rintro _ ⟨p, hp, rfl⟩
  have hj := job_ok hx hp hy z.bad
  have hpb : p.blocks.length ≤ 9 := by have := hp.nb; omega
  generalize hj0 : (⟨p, gridF y, badF (gridF y) z.bad⟩ : Job) = j at hj ⊢
  have hjb : j.p.blocks.length ≤ 9 := by rw [← hj0]; exact hpb
  clear hj0
  simp only [push_cast, reduceIte, Nat.reduceEqDiff, Nat.reduceAdd, Nat.reduceSub, Nat.reduceMul, Nat.reduceBEq, Nat.reduceLT, Nat.reduceLeDiff, reduceCtorEq, Int.reduceToNat, Int.reduceNeg]
  refine cal_sub (fixed_ok j hj z.fixed (by omega) hz.fixed) ⟨Sub.aggL (jobC_sub j), .refl _, trivial⟩ ?_
  have hfl : (fixedF j z.fixed).length = j.p.blocks.length := by simp [fixedF]
  generalize fixedF j z.fixed = fx at hfl ⊢
  simp only [push_cast, reduceIte, Nat.reduceEqDiff, Nat.reduceAdd, Nat.reduceSub, Nat.reduceMul, Nat.reduceBEq, Nat.reduceLT, Nat.reduceLeDiff, reduceCtorEq, Int.reduceToNat, Int.reduceNeg]
  rcases placeF_spec j fx (.inl hfl) with ⟨e, he, hpl⟩ | ⟨a, kept, hF, hpl, hsu, hfix, hpl2⟩
  · refine loop_of (fun m st => m = 0 ∧ st = ⟨[(7, .bool true), (8, .ptr 8 0), (9, .sl true 1 (ints fx)), (10, .int (-1)), (11, .int 0)], [(8, jobC true j)], [], []⟩) 0 ?_ ?_
    · refine ⟨rfl, ?_⟩
      simp only [push_cast, reduceIte, Nat.reduceEqDiff, Nat.reduceAdd, Nat.reduceSub, Nat.reduceMul, Nat.reduceBEq, Nat.reduceLT, Nat.reduceLeDiff, reduceCtorEq, Int.reduceToNat, Int.reduceNeg]
    · rintro m st ⟨rfl, rfl⟩
      simp only [push_cast, reduceIte, Nat.reduceEqDiff, Nat.reduceAdd, Nat.reduceSub, Nat.reduceMul, Nat.reduceBEq, Nat.reduceLT, Nat.reduceLeDiff, reduceCtorEq, Int.reduceToNat, Int.reduceNeg]
      refine cond_dec (fun _ => ?_) fun h1 => absurd h1 (by omega)
      refine cal_sub (lplaced_ok j hj ⟨[], fx, 0⟩ (by show (fx.length : Int) ≤ _; omega)) ⟨Sub.aggL (jobC_sub j), Sub.aggL ⟨.nil _ _, .slp _ _ _ _ (fun h => by cases h), .refl _, trivial⟩, trivial⟩ ?_
      rw [show placeF j fx 0 = ([], e) from hpl 0 (by omega) (by omega)]
      simp only [push_cast, reduceIte, Nat.reduceEqDiff, Nat.reduceAdd, Nat.reduceSub, Nat.reduceMul, Nat.reduceBEq, Nat.reduceLT, Nat.reduceLeDiff, reduceCtorEq, Int.reduceToNat, Int.reduceNeg]
      refine cond_dec (fun _ => ?_) fun h1 => absurd h1 (by omega)
      refine ⟨by omega, ?_⟩
      refine cal_sub (lplaced_ok j hj ⟨[], fx, 0 + 1⟩ (by show (fx.length : Int) ≤ _; omega)) ⟨Sub.aggL (jobC_sub j), Sub.aggL ⟨.nil _ _, .slp _ _ _ _ (fun h => by cases h), .refl _, trivial⟩, trivial⟩ ?_
      rw [show placeF j fx (0 + 1) = ([], e) from hpl 1 (by omega) (by omega)]
      simp only [push_cast, reduceIte, Nat.reduceEqDiff, Nat.reduceAdd, Nat.reduceSub, Nat.reduceMul, Nat.reduceBEq, Nat.reduceLT, Nat.reduceLeDiff, reduceCtorEq, Int.reduceToNat, Int.reduceNeg]
      refine cutE_of (fun st1 => ∃ B, st1 = ⟨[(7, .bool true), (77, .bool false)], B, [], []⟩) ?_ ?_
      · (repeat' (first | (refine grd_dec rfl (fun _ => ?_) fun _ => ?_ <;> simp only [push_cast, reduceIte, Nat.reduceEqDiff, Nat.reduceAdd, Nat.reduceSub, Nat.reduceMul, Nat.reduceBEq, Nat.reduceLT, Nat.reduceLeDiff, reduceCtorEq, Int.reduceToNat, Int.reduceNeg]) | (refine grd_decf rfl (fun _ => ?_) fun _ => ?_ <;> simp only [push_cast, reduceIte, Nat.reduceEqDiff, Nat.reduceAdd, Nat.reduceSub, Nat.reduceMul, Nat.reduceBEq, Nat.reduceLT, Nat.reduceLeDiff, reduceCtorEq, Int.reduceToNat, Int.reduceNeg])))
        all_goals first | (exfalso; omega) | exact ⟨_, by rw [show decide (e ≠ e) = false by simp]⟩
      · rintro _ ⟨B, rfl⟩
        simp only [push_cast, reduceIte, Nat.reduceEqDiff, Nat.reduceAdd, Nat.reduceSub, Nat.reduceMul, Nat.reduceBEq, Nat.reduceLT, Nat.reduceLeDiff, reduceCtorEq, Int.reduceToNat, Int.reduceNeg]
  · have hfl9 : (fx.length : Int) ≤ 9 := by omega
    refine loop_of (fun m st => ∃ (t : Nat) (last : Int), t ≤ 4 ∧ m = 4 - t ∧ (t = 0 → last = -1) ∧ (∀ q : Nat, t = q + 1 → last = (improveF j kept a q).2.1) ∧
      st = ⟨[(7, .bool true), (8, .ptr 8 0), (9, .sl true 1 (ints fx)), (10, .int last), (11, .int t)], [(8, jobC true j)], [], []⟩) 4 ?_ ?_
    · refine ⟨0, -1, by omega, rfl, fun _ => rfl, fun q hq => by omega, ?_⟩
      simp only [push_cast, reduceIte, Nat.reduceEqDiff, Nat.reduceAdd, Nat.reduceSub, Nat.reduceMul, Nat.reduceBEq, Nat.reduceLT, Nat.reduceLeDiff, reduceCtorEq, Int.reduceToNat, Int.reduceNeg]
    · rintro m st ⟨t, last, ht, rfl, hl0, hl1, rfl⟩
      simp only [push_cast, reduceIte, Nat.reduceEqDiff, Nat.reduceAdd, Nat.reduceSub, Nat.reduceMul, Nat.reduceBEq, Nat.reduceLT, Nat.reduceLeDiff, reduceCtorEq, Int.reduceToNat, Int.reduceNeg]
      refine cond_dec (fun h1 => ?_) fun h1 => ?_
      · have hpt := hpl2 t (by omega) (by omega)
        rw [Int.toNat_natCast] at hpt
        have hk := improveF_keeps (fx := kept) hpl t
        refine cal_sub (lplaced_ok j hj ⟨[], fx, t⟩ (by show (fx.length : Int) ≤ _; omega)) ⟨Sub.aggL (jobC_sub j), Sub.aggL ⟨.nil _ _, .slp _ _ _ _ (fun h => by cases h), .refl _, trivial⟩, trivial⟩ ?_
        rw [show placeF j fx (t : Int) = ((improveF j kept a t).1, 0) from hpt]
        simp only [push_cast, reduceIte, Nat.reduceEqDiff, Nat.reduceAdd, Nat.reduceSub, Nat.reduceMul, Nat.reduceBEq, Nat.reduceLT, Nat.reduceLeDiff, reduceCtorEq, Int.reduceToNat, Int.reduceNeg]
        refine cond_dec (fun h2 => absurd rfl h2) fun _ => ?_
        have hlen : ((improveF j kept a t).1.length : Int) ≤ 1000000 := by have := hk.ok.len; have := hpl.1; omega
        have hcost : cost1F j (improveF j kept a t).1 = ((improveF j kept a t).2.1, 0) := by rw [cost1F, if_pos hk.ok.pl, hk.ok.cost]
        have hcheck : checkF j (improveF j kept a t).1 = 0 := checkF_zero_iff.2 ⟨hF, hk.ok.pl, hk.suit hsu⟩
        refine cal_sub (lcost_ok j hj _ hlen) ⟨Sub.aggL (jobC_sub j), .slp _ _ _ _ (fun h => by cases h), trivial⟩ ?_
        rw [hcost]
        simp only [push_cast, reduceIte, Nat.reduceEqDiff, Nat.reduceAdd, Nat.reduceSub, Nat.reduceMul, Nat.reduceBEq, Nat.reduceLT, Nat.reduceLeDiff, reduceCtorEq, Int.reduceToNat, Int.reduceNeg]
        refine cal_sub (lcheck_ok j hj _ hlen) ⟨Sub.aggL (jobC_sub j), .slp _ _ _ _ (fun h => by cases h), trivial⟩ ?_
        rw [hcheck]
        simp only [push_cast, reduceIte, Nat.reduceEqDiff, Nat.reduceAdd, Nat.reduceSub, Nat.reduceMul, Nat.reduceBEq, Nat.reduceLT, Nat.reduceLeDiff, reduceCtorEq, Int.reduceToNat, Int.reduceNeg]
        have hle : 0 ≤ last → (improveF j kept a t).2.1 ≤ last := fun h0 => by
          cases t with
          | zero => have := hl0 rfl; omega
          | succ q => rw [hl1 q rfl]; exact passes_le q _
        have hlenf : (improveF j kept a t).1.length = fx.length := by rw [hk.ok.len, hpl.1, hfl]
        have hfx : ∀ i : Nat, i < fx.length → 0 ≤ fx.getD i default → (improveF j kept a t).1.getD i default = fx.getD i default := fun i hi h0 => by
          have h3 := hfix i hi h0
          rw [hk.fix i h3.2, h3.1]
        generalize hr : improveF j kept a t = r at hle hlenf hfx ⊢
        refine cut_of ⟨[(7, .bool true), (8, .ptr 8 0), (9, .sl true 1 (ints fx)), (11, .int t), (12, .ptr 12 0), (14, .ptr 14 0), (110, .bool false)], [(8, jobC true j), (12, [.sl true 1 (ints r.1), .int 0, .int 0]), (14, [.int r.2.1, .int 0])], [], []⟩ ?_ ?_
        · refine grd_decf rfl (fun h3 => absurd rfl h3) fun _ => ?_
          simp only [push_cast, reduceIte, Nat.reduceEqDiff, Nat.reduceAdd, Nat.reduceSub, Nat.reduceMul, Nat.reduceBEq, Nat.reduceLT, Nat.reduceLeDiff, reduceCtorEq, Int.reduceToNat, Int.reduceNeg]
          refine grd_decf rfl (fun h3 => absurd rfl h3) fun _ => ?_
          simp only [push_cast, reduceIte, Nat.reduceEqDiff, Nat.reduceAdd, Nat.reduceSub, Nat.reduceMul, Nat.reduceBEq, Nat.reduceLT, Nat.reduceLeDiff, reduceCtorEq, Int.reduceToNat, Int.reduceNeg]
          have hne : decide ((r.1.length : Int) ≠ (fx.length : Int)) = false := decide_eq_false (by omega)
          refine grd_dec rfl (fun h4 => ?_) fun h4 => ?_ <;> simp only [push_cast, reduceIte, Nat.reduceEqDiff, Nat.reduceAdd, Nat.reduceSub, Nat.reduceMul, Nat.reduceBEq, Nat.reduceLT, Nat.reduceLeDiff, reduceCtorEq, Int.reduceToNat, Int.reduceNeg]
          · refine grd_decf rfl (fun h5 => absurd h5 (by have := hle h4; omega)) fun _ => ?_
            simp only [push_cast, reduceIte, Nat.reduceEqDiff, Nat.reduceAdd, Nat.reduceSub, Nat.reduceMul, Nat.reduceBEq, Nat.reduceLT, Nat.reduceLeDiff, reduceCtorEq, Int.reduceToNat, Int.reduceNeg]
            rw [hne]
          · rw [hne]
        · simp only [push_cast, reduceIte, Nat.reduceEqDiff, Nat.reduceAdd, Nat.reduceSub, Nat.reduceMul, Nat.reduceBEq, Nat.reduceLT, Nat.reduceLeDiff, reduceCtorEq, Int.reduceToNat, Int.reduceNeg]
          refine loop_of (fun m st => ∃ i : Nat, i ≤ fx.length ∧ m = fx.length - i ∧ st = ⟨[(7, .bool true), (8, .ptr 8 0), (9, .sl true 1 (ints fx)), (11, .int t), (12, .ptr 12 0), (14, .ptr 14 0), (15, .int i)], [(8, jobC true j), (12, [.sl true 1 (ints r.1), .int 0, .int 0]), (14, [.int r.2.1, .int 0])], [], []⟩) fx.length ?_ ?_
          · refine ⟨0, by omega, by omega, ?_⟩
            simp only [push_cast, reduceIte, Nat.reduceEqDiff, Nat.reduceAdd, Nat.reduceSub, Nat.reduceMul, Nat.reduceBEq, Nat.reduceLT, Nat.reduceLeDiff, reduceCtorEq, Int.reduceToNat, Int.reduceNeg]
          · rintro m st ⟨i, hi, rfl, rfl⟩
            simp only [push_cast, reduceIte, Nat.reduceEqDiff, Nat.reduceAdd, Nat.reduceSub, Nat.reduceMul, Nat.reduceBEq, Nat.reduceLT, Nat.reduceLeDiff, reduceCtorEq, Int.reduceToNat, Int.reduceNeg]
            refine cond_dec (fun h5 => ?_) fun h5 => ?_
            · have hi' : i < fx.length := by omega
              refine ⟨by omega, by omega, ?_⟩
              refine dcut_of ⟨[(7, .bool true), (8, .ptr 8 0), (9, .sl true 1 (ints fx)), (11, .int t), (12, .ptr 12 0), (14, .ptr 14 0), (15, .int i), (133, .bool false)], [(8, jobC true j), (12, [.sl true 1 (ints r.1), .int 0, .int 0]), (14, [.int r.2.1, .int 0])], [], []⟩ ?_ ?_
              · refine dgrd_dec rfl (fun h6 => ?_) fun h6 => ?_ <;> simp only [push_cast, reduceIte, Nat.reduceEqDiff, Nat.reduceAdd, Nat.reduceSub, Nat.reduceMul, Nat.reduceBEq, Nat.reduceLT, Nat.reduceLeDiff, reduceCtorEq, Int.reduceToNat, Int.reduceNeg]
                · rw [hfx i hi' h6, show decide (fx.getD i default ≠ fx.getD i default) = false by simp]
                  exact ⟨by omega, by omega, by omega, hi', rfl⟩
              · simp only [push_cast, reduceIte, Nat.reduceEqDiff, Nat.reduceAdd, Nat.reduceSub, Nat.reduceMul, Nat.reduceBEq, Nat.reduceLT, Nat.reduceLeDiff, reduceCtorEq, Int.reduceToNat, Int.reduceNeg]
                refine ⟨by omega, _, ?_, i + 1, by omega, rfl, ?_⟩
                · omega
                · simp
            · refine ⟨by omega, _, ?_, t + 1, r.2.1, by omega, rfl, fun h => by omega, fun q hq => ?_, ?_⟩
              · omega
              · rw [show q = t by omega, hr]
              · simp
      · exact trivial
end Go.Proofs.Ytbdamnfkgdbidaa
/- What the row's arguments are: the described packing, the described grid and the odd numbers. -/
namespace Go.Proofs.Ytbdamnfkgdbidaa
open Go Go.Vc Txt

def rawT : List Ty := [.i .u8, .i .u8, .sl 6 [.i .u8, .i .u8, .i .u8, .i .u8, .i .u8, .i .u8]]
def gridT : List Ty := [.i .u8, .i .u8, .i .u8, .i .u8, .sl 1 [.i .u8]]
def oddT : List Ty := [.sl 1 [.i .u8], .sl 1 [.i .u8], .sl 1 [.i .u8], .sl 1 [.i .i64], .sl 1 [.i .i64], .i .i64, .i .i64, .i .i64]

theorem rowV_nil {a : List PV} (h : RowV [] a) : a = [] := List.length_eq_zero_iff.1 h.1
theorem rowV_cons {t : Ty} {ts : List Ty} {a : List PV} (h : RowV (t :: ts) a) : ∃ c r, a = c :: r ∧ CellV t c ∧ RowV ts r := by
  obtain ⟨h1, h2⟩ := h
  cases a with
  | nil => cases h1
  | cons c r => exact ⟨c, r, rfl, h2 0 t c rfl rfl, by simpa using h1, fun j t' c' ht hc => h2 (j + 1) t' c' ht hc⟩
theorem cellV_i {k : IntKind} {c : PV} (h : CellV (.i k) c) : ∃ n : Int, c = .sc (.int k n) ∧ k.min ≤ n ∧ n ≤ k.max := by
  cases h with | i k n h1 h2 => exact ⟨n, rfl, h1, h2⟩
theorem cellV_u8 {c : PV} (h : CellV (.i .u8) c) : ∃ n : Int, c = .sc (.int .u8 n) ∧ 0 ≤ n ∧ n ≤ 255 := by
  obtain ⟨n, h1, h2, h3⟩ := cellV_i h
  exact ⟨n, h1, h2, h3⟩
theorem cellV_i64 {c : PV} (h : CellV (.i .i64) c) : ∃ n : Int, c = .int n ∧ -9223372036854775808 ≤ n ∧ n ≤ 9223372036854775807 := by
  obtain ⟨n, h1, h2, h3⟩ := cellV_i h
  exact ⟨n, h1, h2, h3⟩
theorem cellV_sl {es : Nat} {ts : List Ty} {c : PV} (h : CellV (.sl es ts) c) : ∃ rs : List (List PV), c = .sl true es rs ∧ rs.length ≤ maxLen ∧ ∀ r ∈ rs, RowV ts r := by
  cases h with | sl es ts rs h1 h2 h3 => exact ⟨rs, rfl, h1, fun r hr => ⟨h2 r hr, h3 r hr⟩⟩
theorem rows_all {α : Type} {f : α → List PV} {Q : α → Prop} : ∀ {rs : List (List PV)}, (∀ r ∈ rs, ∃ x, r = f x ∧ Q x) → ∃ l : List α, rs = rows f l ∧ ∀ x ∈ l, Q x
  | [], _ => ⟨[], rfl, fun x hx => by cases hx⟩
  | r :: rs, h => by
    obtain ⟨x, rfl, hx⟩ := h r (by simp)
    obtain ⟨l, rfl, hl⟩ := rows_all (f := f) (Q := Q) (rs := rs) fun r hr => h r (by simp [hr])
    refine ⟨x :: l, rfl, fun y hy => ?_⟩
    rcases List.mem_cons.1 hy with rfl | hy
    · exact hx
    · exact hl y hy
theorem cellV_bytes {c : PV} (h : CellV (.sl 1 [.i .u8]) c) : ∃ l : List Int, c = .sl true 1 (bytes8 l) ∧ ∀ b ∈ l, 0 ≤ b ∧ b ≤ 255 := by
  obtain ⟨rs, rfl, _, h2⟩ := cellV_sl h
  obtain ⟨l, rfl, hl⟩ := rows_all (f := fun x : Int => [PV.sc (.int .u8 x)]) (Q := fun b => 0 ≤ b ∧ b ≤ 255) (rs := rs) fun r hr => by
    obtain ⟨c, q, rfl, hc, h3⟩ := rowV_cons (h2 r hr)
    obtain ⟨n, rfl, hn⟩ := cellV_u8 hc
    rw [rowV_nil h3]
    exact ⟨n, rfl, hn⟩
  exact ⟨l, rfl, hl⟩
theorem cellV_ints {c : PV} (h : CellV (.sl 1 [.i .i64]) c) : ∃ l : List Int, c = .sl true 1 (ints l) ∧ ∀ b ∈ l, -9223372036854775808 ≤ b ∧ b ≤ 9223372036854775807 := by
  obtain ⟨rs, rfl, _, h2⟩ := cellV_sl h
  obtain ⟨l, rfl, hl⟩ := rows_all (f := fun x : Int => [PV.int x]) (Q := fun b => -9223372036854775808 ≤ b ∧ b ≤ 9223372036854775807) (rs := rs) fun r hr => by
    obtain ⟨c, q, rfl, hc, h3⟩ := rowV_cons (h2 r hr)
    obtain ⟨n, rfl, hn⟩ := cellV_i64 hc
    rw [rowV_nil h3]
    exact ⟨n, rfl, hn⟩
  exact ⟨l, rfl, hl⟩
theorem rowV_bytes : ∀ {n : Nat} {a : List PV}, RowV (List.replicate n (.i .u8)) a → ∃ l : List Int, a = bytesC l ∧ l.length = n ∧ ∀ b ∈ l, 0 ≤ b ∧ b ≤ 255
  | 0, a, h => ⟨[], by rw [rowV_nil h]; rfl, rfl, fun b hb => by cases hb⟩
  | n + 1, a, h => by
    obtain ⟨c, q, rfl, hc, h3⟩ := rowV_cons h
    obtain ⟨x, rfl, hx⟩ := cellV_u8 hc
    obtain ⟨l, rfl, h1, h2⟩ := rowV_bytes (n := n) h3
    refine ⟨x :: l, rfl, by simp [h1], fun y hy => ?_⟩
    rcases List.mem_cons.1 hy with rfl | hy
    · exact hx
    · exact h2 y hy
theorem rawP_of {a : List PV} (h : RowV rawT a) : ∃ x : RawP, x.By ∧ a = rawPC true x := by
  obtain ⟨c0, a0, rfl, h0, k0⟩ := rowV_cons h
  obtain ⟨c1, a1, rfl, h1, k1⟩ := rowV_cons k0
  obtain ⟨c2, a2, rfl, h2, k2⟩ := rowV_cons k1
  obtain ⟨n0, rfl, b0⟩ := cellV_u8 h0
  obtain ⟨n1, rfl, b1⟩ := cellV_u8 h1
  obtain ⟨rs, rfl, _, h3⟩ := cellV_sl h2
  obtain ⟨l, rfl, hl⟩ := rows_all (f := bytesC) (Q := fun b => b.length = 6 ∧ ∀ v ∈ b, 0 ≤ v ∧ v ≤ 255) (rs := rs) fun r hr => by
    obtain ⟨l, h4, h5⟩ := rowV_bytes (n := 6) (h3 r hr)
    exact ⟨l, h4, h5⟩
  rw [rowV_nil k2]
  exact ⟨⟨n0, n1, l⟩, ⟨b0, b1, fun b hb => (hl b hb).1, fun b hb => (hl b hb).2⟩, rfl⟩
theorem rawG_of {a : List PV} (h : RowV gridT a) : ∃ x : RawG, x.By ∧ a = rawGC true x := by
  obtain ⟨c0, a0, rfl, h0, k0⟩ := rowV_cons h
  obtain ⟨c1, a1, rfl, h1, k1⟩ := rowV_cons k0
  obtain ⟨c2, a2, rfl, h2, k2⟩ := rowV_cons k1
  obtain ⟨c3, a3, rfl, h3, k3⟩ := rowV_cons k2
  obtain ⟨c4, a4, rfl, h4, k4⟩ := rowV_cons k3
  obtain ⟨n0, rfl, b0⟩ := cellV_u8 h0
  obtain ⟨n1, rfl, b1⟩ := cellV_u8 h1
  obtain ⟨n2, rfl, b2⟩ := cellV_u8 h2
  obtain ⟨n3, rfl, b3⟩ := cellV_u8 h3
  obtain ⟨l, rfl, hl⟩ := cellV_bytes h4
  rw [rowV_nil k4]
  exact ⟨⟨n0, n1, n2, n3, l⟩, ⟨b0, b1, b2, b3, hl⟩, rfl⟩
theorem odd_of {a : List PV} (h : RowV oddT a) : ∃ x : Odd, x.By ∧ a = oddC true x := by
  obtain ⟨c0, a0, rfl, h0, k0⟩ := rowV_cons h
  obtain ⟨c1, a1, rfl, h1, k1⟩ := rowV_cons k0
  obtain ⟨c2, a2, rfl, h2, k2⟩ := rowV_cons k1
  obtain ⟨c3, a3, rfl, h3, k3⟩ := rowV_cons k2
  obtain ⟨c4, a4, rfl, h4, k4⟩ := rowV_cons k3
  obtain ⟨c5, a5, rfl, h5, k5⟩ := rowV_cons k4
  obtain ⟨c6, a6, rfl, h6, k6⟩ := rowV_cons k5
  obtain ⟨c7, a7, rfl, h7, k7⟩ := rowV_cons k6
  obtain ⟨l0, rfl, b0⟩ := cellV_bytes h0
  obtain ⟨l1, rfl, b1⟩ := cellV_bytes h1
  obtain ⟨l2, rfl, b2⟩ := cellV_bytes h2
  obtain ⟨l3, rfl, b3⟩ := cellV_ints h3
  obtain ⟨l4, rfl, b4⟩ := cellV_ints h4
  obtain ⟨n5, rfl, b5⟩ := cellV_i64 h5
  obtain ⟨n6, rfl, b6⟩ := cellV_i64 h6
  obtain ⟨n7, rfl, b7⟩ := cellV_i64 h7
  rw [rowV_nil k7]
  exact ⟨⟨l0, l1, l2, l3, l4, n5, n6, n7⟩, ⟨b0, b1, b2, b3, b4, b5, b6, b7⟩, rfl⟩
/-- The three arguments of a law of the placement. -/
theorem law_true {f : Nat} (hok : ∀ (x : RawP), x.By → ∀ (y : RawG), y.By → ∀ (z : Odd), z.By → FnEq Try.prog f [.agg (rawPC false x), .agg (rawGC false y), .agg (oddC false z)] (.bool true))
    {a b c : List PV} (ha : RowV rawT a) (hb : RowV gridT b) (hc : RowV oddT c) : FnEq Try.prog f [.agg a, .agg b, .agg c] (.bool true) := by
  obtain ⟨x, hx, rfl⟩ := rawP_of ha
  obtain ⟨y, hy, rfl⟩ := rawG_of hb
  obtain ⟨z, hz, rfl⟩ := odd_of hc
  refine FnOK.sub (hok x hx y hy z hz) ⟨Sub.aggL ?_, Sub.aggL ?_, Sub.aggL ?_, trivial⟩
  · exact ⟨.refl _, .refl _, .slp _ _ _ _ (fun h => by cases h), trivial⟩
  · exact ⟨.refl _, .refl _, .refl _, .refl _, .slp _ _ _ _ (fun h => by cases h), trivial⟩
  · exact ⟨.slp _ _ _ _ (fun h => by cases h), .slp _ _ _ _ (fun h => by cases h), .slp _ _ _ _ (fun h => by cases h), .slp _ _ _ _ (fun h => by cases h), .slp _ _ _ _ (fun h => by cases h), .refl _, .refl _, .refl _, trivial⟩
end Go.Proofs.Ytbdamnfkgdbidaa
/- PlacementLegal holds for every described packing, every described grid and all odd numbers: the row. -/
namespace Go.Proofs.Ytbdamnfkgdbidaa
open Go Go.ChangeShapes Go.WideShapes Go.ChangeAt Go.RowKit Go.Vc

theorem rawFlat : flatOk Try.prog 9 24 rawT = true := by kernel_rfl
theorem gridFlat : flatOk Try.prog 9 27 gridT = true := by kernel_rfl
theorem oddFlat : flatOk Try.prog 9 30 oddT = true := by kernel_rfl
theorem Try.own : ownKnob Try.prog.godebug = none := by kernel_rfl
theorem Try.laidOut : laidOutB Try.prog = true := by kernel_rfl
theorem boolU : Try.prog.underlying 4 = some .bool := by kernel_rfl
theorem paramsLegal : Try.f4.params = #[24, 27, 30] := by kernel_rfl

set_option maxRecDepth 100000 in
theorem legal_lifted (os : Os) (started : os.Started) (H : Type) (enc : TypeId × Value → H) :
    ReturnsInHanded {} Try.checked os 4 .any (Rows.placementLegalSpec.pre6 enc Try.prog Try.f4 Rows.placementLegalRow.domain false) (Rows.placementLegalSpec.post enc Try.prog Try.f4 false true false false) := by
  refine returnsInHanded_of_change (C := Try.checked) Try.own started (by kernel_rfl) Try.func4
    (ChangeSpec.witness6 (enc := enc) (C := Try.checked) false ⟨#[], #[.agg #[.int .u8 0, .int .u8 0, .slice none 0 0], .agg #[.int .u8 0, .int .u8 0, .int .u8 0, .int .u8 0, .slice none 0 0],
      .agg #[.slice none 0 0, .slice none 0 0, .slice none 0 0, .slice none 0 0, .slice none 0 0, .int .i64 0, .int .i64 0, .int .i64 0]], []⟩ 8 (by kernel_rfl) (by kernel_rfl) (by kernel_rfl) (by kernel_rfl)) ?_
  intro W base args ds gs before hval0 hW hcnd _
  have hval : ∀ (j : Nat) t v, Try.f4.params[j]? = some t → args[j]? = some v → Value.okWide Try.prog W .any base t v := hval0
  have hW' := hW
  obtain ⟨p, q, hA0, hV, rfl, hfz, hnd⟩ := hW
  have hA : DataW.TrodAll enc Try.prog W 0 (fun _ => true) true Try.f4.params.toList args.toList ds p := hA0
  rw [paramsLegal] at hA hval
  obtain ⟨v0, v1, v2, d0, d1, d2, p0, p1, p2, rfl, rfl, rfl, h0, h1, h2⟩ := trodAll_three hA
  obtain ⟨rfl, rfl⟩ := trodVars_none hV
  obtain ⟨a, ra, ta⟩ := argTy rawFlat (by kernel_rfl) (hval 0 _ v0 rfl rfl) h0
  obtain ⟨b, rb, tb⟩ := argTy gridFlat (by kernel_rfl) (hval 1 _ v1 rfl rfl) h1
  obtain ⟨c, rc, tc⟩ := argTy oddFlat (by kernel_rfl) (hval 2 _ v2 rfl rfl) h2
  have hlt : ∀ x ∈ p0 ++ p1 ++ p2, x.block < W.heap.size := fun x hx => hW'.lt x (by simpa using hx)
  refine (zw_call (law_true legal_ok ra rb rc) rfl fun j cc hj => ?_).mono fun e W' ⟨he, hb⟩ => ?_
  · match j with
    | 0 => simp at hj; subst hj; exact ta
    | 1 => simp at hj; subst hj; exact tb
    | 2 => simp at hj; subst hj; exact tc
    | j + 3 => simp at hj
  · refine ⟨_, he, _, _, _, [], _, [], hW', ?_, trodAll_mk3 (Below.trod Try.laidOut (by kernel_rfl) (of_decide_eq_true (by kernel_rfl)) h0 hb fun x hx => hlt x (by simp [hx])) (Below.trod Try.laidOut (by kernel_rfl) (of_decide_eq_true (by kernel_rfl)) h1 hb fun x hx => hlt x (by simp [hx]))
        (Below.trod Try.laidOut (by kernel_rfl) (of_decide_eq_true (by kernel_rfl)) h2 hb fun x hx => hlt x (by simp [hx])), rfl, hb.frame _, fun h => by cases h⟩
    exact trodAll_mk1 (shut_bool boolU true)
theorem legal_holds : Rows.PlacementLegalSaid :=
  OpenClaim.holds_of_wide 4 Try.f4 rfl rfl rfl rfl rfl rfl rfl ⟨rfl, rfl, rfl, rfl, rfl⟩ rfl rfl rfl rfl rfl (by kernel_rfl) Try.func4 (by kernel_rfl)
    (of_decide_eq_true (by kernel_rfl)) (by unfold Func.isWrapper; first | (rw [if_pos (by decide +kernel)]; kernel_rfl) | (rw [if_neg (by decide +kernel)]; exact ⟨rfl, rfl⟩))
    (fun os started H enc _ => legal_lifted os started H enc)
end Go.Proofs.Ytbdamnfkgdbidaa
