/- TxtG VV WW XX YY ZZ AB AD AE: lemmas for PRenumbers -/
import Derived.Test.YtbdamnfkgdbidaaPart05
import Derived.Test.YtbdamnfkgdbidaaChecked
import Derived.Test.YtbdamnfkgdbidaaPart11
import Derived.Test.YtbdamnfkgdbidaaPart12
import Derived.Test.YtbdamnfkgdbidaaPart07
import Derived.Test.YtbdamnfkgdbidaaPart10
set_option linter.unusedSimpArgs false
set_option linter.unusedVariables false
namespace Go.Proofs.Ytbdamnfkgdbidaa.Txt
open Go Go.Vc
set_option maxRecDepth 100000
def ac50g : AC :=
 (.seq (.reg [0, 39, 0, 1] [
 ⟨some 4, none, .mv (.c (.nil))⟩])
 (.seq (.reg [0, 39, 0, 1] [
 ⟨some 8, none, .bsl 1 3 [.sc (.int .i64 0)] 0 []⟩, ⟨some 5, none, .mv (.t 8)⟩])
 (.seq (.seq (.reg [0, 39, 0, 1, 5] [
 ⟨some 6, none, .mv (.c (.sc (.int .i64 0)))⟩])
 (.block 0
 (.loop [0, 39, 0, 1, 5, 6]
 (.seq (.seq (.reg [0, 39, 0, 1, 5, 6] [
 ⟨some 9, none, .mv (.t 6)⟩, ⟨some 10, none, .mv (.t 0)⟩, ⟨some 11, none, .cmp .lss .i64 (.t 9) (.t 10)⟩])
 (.cond (.t 11)
 .skip
 (.exit 0)))
 (.seq (.block 1
 (.seq (.reg [0, 39, 0, 1, 5, 6] [
 ⟨some 7, none, .mv (.c (.sc (.int .i64 0)))⟩])
 (.seq (.seq (.reg [0, 39, 0, 1, 5, 6, 7] [
 ⟨some 14, none, .mv (.t 6)⟩, ⟨some 15, none, .mv (.t 1)⟩, ⟨some 16, none, .len (.t 15)⟩, ⟨some 17, none, .cmp .lss .i64 (.t 14) (.t 16)⟩])
 (.cond (.t 17)
 (.reg [0, 39, 0, 1, 5, 6] [
 ⟨some 18, none, .mv (.t 1)⟩, ⟨some 19, none, .mv (.t 6)⟩, ⟨some 20, none, .ixs 1 (.t 18) (.t 19)⟩, ⟨some 21, none, .ld false 1 (.t 20)⟩, ⟨some 22, none, .cnv true .i64 (.t 21)⟩, ⟨some 23, none, .mv (.t 6)⟩, ⟨some 24, none, .ari .add true .i64 (.t 23) (.c (.sc (.int .i64 1)))⟩, ⟨some 25, none, .dvd .rem true .i64 (.t 22) (.t 24)⟩, ⟨some 7, none, .mv (.t 25)⟩])
 .skip))
 (.frz [5] (.wk (.drw [0, 39, 0, 1, 5, 6, 7] [
 ⟨⟨some 26, none, .bsl 1 3 [.sc (.int .i64 0)] 0 []⟩, [26], [32], true⟩, ⟨⟨some 27, none, .mv (.t 5)⟩, [], [26, 32], true⟩, ⟨⟨some 28, none, .mv (.t 7)⟩, [], [26, 32], true⟩, ⟨⟨some 29, none, .slc 1 (.t 27) none (some (.t 28))⟩, [], [26, 32], true⟩, ⟨⟨some 30, none, .app 1 3 8 (.t 26) (.t 29)⟩, [30, 26], [32], true⟩, ⟨⟨some 31, none, .mv (.t 6)⟩, [], [26, 30], true⟩, ⟨⟨some 32, none, .bsl 1 3 [.sc (.int .i64 0)] 1 [(0, (.t 31))]⟩, [32], [26, 30], true⟩, ⟨⟨some 33, none, .app 1 3 8 (.t 30) (.t 32)⟩, [33, 30, 26], [], true⟩, ⟨⟨some 34, none, .mv (.t 5)⟩, [], [26, 30, 32, 33], true⟩, ⟨⟨some 35, none, .mv (.t 7)⟩, [], [26, 30, 32, 33], true⟩, ⟨⟨some 36, none, .slc 1 (.t 34) (some (.t 35)) none⟩, [], [26, 30, 32, 33], true⟩, ⟨⟨some 37, none, .app 1 3 8 (.t 33) (.t 36)⟩, [], [], false⟩, ⟨⟨some 5, none, .mv (.t 37)⟩, [], [], false⟩]))))))
 (.reg [0, 39, 0, 1, 5, 6] [
 ⟨some 12, none, .mv (.t 6)⟩, ⟨some 13, none, .ari .add true .i64 (.t 12) (.c (.sc (.int .i64 1)))⟩, ⟨some 6, none, .mv (.t 13)⟩]))))))
 (.seq (.reg [0, 39, 5] [
 ⟨some 38, none, .mv (.t 5)⟩, ⟨some 4, none, .mv (.t 38)⟩])
 .ret))))
def rv50g : List RV := [.tmp 4]
theorem ok50g : fnOk Try.prog ac50g rv50g Try.f50 = true := by kernel_rfl

def ac81_1000g : AC :=
 (.seq (.reg [1000, 59, 1000, 1001, 1002, 1003, 1004] [
 ⟨some 1006, none, .mv (.c (.sc (.bool false)))⟩])
 (.seq (.seq (.reg [1000, 59, 1000, 1001, 1002, 1003, 1004] [
 ⟨some 1011, none, .ld false 1 (.t 1001)⟩, ⟨some 1012, none, .mv (.t 1000)⟩, ⟨some 1013, none, .ixs 1 (.t 1011) (.t 1012)⟩, ⟨some 1014, none, .ld false 1 (.t 1013)⟩])
 (.block 0
 (.seq (.reg [1000, 59, 1000, 1001, 1002, 1003, 1004, 1014] [
 ⟨some 1016, none, .cmp .eql .i64 (.t 1014) (.c (.sc (.int .i64 1)))⟩, ⟨some 1015, none, .mv (.t 1016)⟩])
 (.cond (.t 1015)
 (.seq (.reg [1000, 59] [
 ⟨some 1006, none, .mv (.c (.sc (.bool false)))⟩])
 .ret)
 (.seq (.reg [1000, 59, 1000, 1001, 1002, 1003, 1004, 1014] [
 ⟨some 1018, none, .cmp .eql .i64 (.t 1014) (.c (.sc (.int .i64 2)))⟩, ⟨some 1017, none, .mv (.t 1018)⟩])
 (.cond (.t 1017)
 (.seq (.reg [1000, 59] [
 ⟨some 1006, none, .mv (.c (.sc (.bool true)))⟩])
 .ret)
 .skip))))))
 (.seq (.reg [1000, 59, 1000, 1001, 1002, 1003, 1004] [
 ⟨some 1019, none, .ld false 1 (.t 1001)⟩, ⟨some 1020, none, .mv (.t 1000)⟩, ⟨some 1021, none, .ixs 1 (.t 1019) (.t 1020)⟩, ⟨none, none, .sto 1 (.t 1021) (.c (.sc (.int .i64 1)))⟩])
 (.seq (.seq (.reg [1000, 59, 1000, 1001, 1002, 1003, 1004] [
 ⟨some 1022, none, .fa 0 (.t 1002)⟩, ⟨some 1023, none, .fa 1 (.t 1022)⟩, ⟨some 1024, none, .ld false 1 (.t 1023)⟩, ⟨some 1025, none, .mv (.t 1000)⟩, ⟨some 1026, none, .ixs 5 (.t 1024) (.t 1025)⟩, ⟨some 1027, none, .fa 0 (.t 1026)⟩, ⟨some 1028, none, .ld false 1 (.t 1027)⟩, ⟨some 1029, none, .len (.t 1028)⟩, ⟨some 1030, none, .mv (.c (.sc (.int .i64 0)))⟩])
 (.block 1
 (.loop [1000, 59, 1000, 1001, 1002, 1003, 1004, 1028, 1029, 1030]
 (.seq (.reg [1000, 59, 1000, 1001, 1002, 1003, 1004, 1028, 1029, 1030] [
 ⟨some 1031, none, .cmp .lss .i64 (.t 1030) (.t 1029)⟩])
 (.seq (.cond (.t 1031)
 .skip
 (.exit 1))
 (.seq (.block 2
 (.seq (.reg [1000, 59, 1000, 1001, 1002, 1003, 1004, 1028, 1029, 1030] [
 ⟨some 1032, none, .ixs 1 (.t 1028) (.t 1030)⟩, ⟨some 1033, none, .ld false 1 (.t 1032)⟩, ⟨some 1008, none, .mv (.t 1033)⟩])
 (.seq (.reg [1000, 59, 1000, 1001, 1002, 1003, 1004, 1008, 1028, 1029, 1030] [
 ⟨some 1035, none, .ld true 4 (.t 1002)⟩, ⟨some 1036, none, .mv (.t 1008)⟩, ⟨some 1037, none, .cal 77 [(.t 1035), (.t 1036)]⟩, ⟨some 1034, none, .mv (.t 1037)⟩, ⟨some 1038, none, .ext (.t 1034) 0⟩, ⟨some 1039, none, .ext (.t 1034) 1⟩, ⟨some 1009, none, .mv (.t 1038)⟩, ⟨some 1010, none, .mv (.t 1039)⟩])
 (.seq (.reg [1000, 59, 1000, 1001, 1002, 1003, 1004, 1009, 1010, 1028, 1029, 1030] [
 ⟨some 1040, none, .mv (.t 1009)⟩, ⟨some 1041, none, .cmp .geq .i64 (.t 1040) (.c (.sc (.int .i64 0)))⟩, ⟨some 1042, none, .mv (.t 1041)⟩, ⟨some 1043, some (1042, true), .mv (.t 1010)⟩, ⟨some 1044, some (1042, true), .not (.t 1043)⟩, ⟨some 1045, none, .pick (.t 1042) (.t 1044) (.c (.sc (.bool false)))⟩, ⟨some 1046, none, .mv (.t 1045)⟩, ⟨some 1047, some (1046, true), .ld false 1 (.t 1003)⟩, ⟨some 1048, some (1046, true), .mv (.t 1009)⟩, ⟨some 1049, some (1046, true), .clv (.t 1047) [(.t 1048)]⟩, ⟨some 1050, some (1046, true), .not (.t 1049)⟩, ⟨some 1051, none, .pick (.t 1046) (.t 1050) (.c (.sc (.bool false)))⟩])
 (.cut [1000, 59, 1000, 1001, 1002, 1003, 1004, 1028, 1029, 1030, 1051] (.cond (.t 1051)
 (.seq (.reg [1000, 59] [
 ⟨some 1006, none, .mv (.c (.sc (.bool false)))⟩])
 .ret)
 .skip))))))
 (.reg [1000, 59, 1000, 1001, 1002, 1003, 1004, 1028, 1029, 1030] [
 ⟨some 1052, none, .ari .add true .i64 (.t 1030) (.c (.sc (.int .i64 1)))⟩, ⟨some 1030, none, .mv (.t 1052)⟩])))))))
 (.seq (.reg [1000, 59, 1000, 1001, 1004] [
 ⟨some 1053, none, .ld false 1 (.t 1001)⟩, ⟨some 1054, none, .mv (.t 1000)⟩, ⟨some 1055, none, .ixs 1 (.t 1053) (.t 1054)⟩, ⟨none, none, .sto 1 (.t 1055) (.c (.sc (.int .i64 2)))⟩])
 (.seq (.reg [1000, 59, 1000, 1004] [
 ⟨some 1056, none, .ld false 1 (.t 1004)⟩, ⟨some 1057, none, .mv (.t 1000)⟩, ⟨some 1058, none, .clv (.t 1056) [(.t 1057)]⟩])
 (.seq (.reg [1000, 59] [
 ⟨some 1006, none, .mv (.c (.sc (.bool true)))⟩])
 .ret)))))))
def rv81_1000g : List RV := [.tmp 1006]
theorem ok81_1000g : fnOkK Try.prog 1000 ac81_1000g rv81_1000g Try.f81 = true := by kernel_rfl
end Go.Proofs.Ytbdamnfkgdbidaa.Txt
namespace Go.Proofs.Ytbdamnfkgdbidaa
open Go Go.Vc Txt
def insF (l : List Int) (i : Nat) : Nat := if i < l.length then (l.getD i default % ((i : Int) + 1)).toNat else 0
def shufN (l : List Int) : Nat → List Int
  | 0 => []
  | i + 1 => (shufN l i).take (insF l i) ++ (i : Int) :: (shufN l i).drop (insF l i)
theorem insF_le (l : List Int) (i : Nat) : insF l i ≤ i := by
  unfold insF
  split
  · have h1 := Int.emod_nonneg (l.getD i default) (show (i : Int) + 1 ≠ 0 by omega)
    have h2 := Int.emod_lt_of_pos (l.getD i default) (show 0 < (i : Int) + 1 by omega)
    omega
  · omega
theorem shufN_len (l : List Int) : ∀ i, (shufN l i).length = i
  | 0 => rfl
  | i + 1 => by
    have h1 := shufN_len l i
    have h2 := insF_le l i
    simp only [shufN, List.length_append, List.length_take, List.length_cons, List.length_drop]
    omega
theorem shuf_ok (n : Nat) (hn : (n : Int) ≤ 1000000) (l : List Int) (hl : (l.length : Int) ≤ 1000000) (hb : ∀ x ∈ l, 0 ≤ x ∧ x ≤ 255) :
    FnEq Try.prog 50 [.int n, .sl false 1 (bytes8 l)] (.sl true 1 (ints (shufN l n))) := by
  refine FnEq.of_awp Try.func50 ok50g (by show 2 ≤ _; decide) (by simp only [push_cast, reduceIte, Nat.reduceEqDiff, Nat.reduceAdd, Nat.reduceSub, Nat.reduceMul, Nat.reduceBEq, Nat.reduceLT, Nat.reduceLeDiff, reduceCtorEq, Int.reduceToNat, Int.reduceNeg] <;> first | exact fun _ _ => trivial | simp) ?_
  simp only [ac50g, rv50g, push_cast, reduceIte, Nat.reduceEqDiff, Nat.reduceAdd, Nat.reduceSub, Nat.reduceMul, Nat.reduceBEq, Nat.reduceLT, Nat.reduceLeDiff, reduceCtorEq, Int.reduceToNat, Int.reduceNeg]
  have e0 : List.replicate 0 (0 : Int) = [] := rfl
  refine loop_of (fun m st => ∃ (i id : Nat), i ≤ n ∧ m = n - i ∧ (id = 8 ∨ id = 26) ∧
    st = ⟨[(0, .int n), (1, .sl false 1 (bytes8 l)), (5, .view id 0 i), (6, .int i)], [], [(id, ⟨1, 3, ints (shufN l i)⟩)], []⟩) n ?_ ?_
  · refine ⟨0, 8, by omega, by omega, .inl rfl, ?_⟩
    simp only [push_cast, reduceIte, Nat.reduceEqDiff, Nat.reduceAdd, Nat.reduceSub, Nat.reduceMul, Nat.reduceBEq, Nat.reduceLT, Nat.reduceLeDiff, reduceCtorEq, Int.reduceToNat, Int.reduceNeg]
    rfl
  · rintro m st ⟨i, id, hi, rfl, hid, rfl⟩
    have hlen := shufN_len l i
    have hko := insF_le l i
    have hs : shufN l (i + 1) = (shufN l i).take (insF l i) ++ (i : Int) :: (shufN l i).drop (insF l i) := rfl
    rcases hid with rfl | rfl <;> simp only [push_cast, reduceIte, Nat.reduceEqDiff, Nat.reduceAdd, Nat.reduceSub, Nat.reduceMul, Nat.reduceBEq, Nat.reduceLT, Nat.reduceLeDiff, reduceCtorEq, Int.reduceToNat, Int.reduceNeg]
    all_goals
      refine cond_dec (fun h => ?_) fun h => ?_
      · refine cond_dec (fun h1 => ?_) fun h1 => ?_
        · have hx := hb _ (show l.getD i default ∈ l by simp [List.getD_eq_getElem?_getD, show i < l.length by omega])
          have h3 := Int.emod_nonneg (l.getD i default) (show (i : Int) + 1 ≠ 0 by omega)
          have h4 := Int.emod_lt_of_pos (l.getD i default) (show 0 < (i : Int) + 1 by omega)
          have hk : l.getD i default % ((i : Int) + 1) = (insF l i : Int) := by rw [insF, if_pos (by omega)]; omega
          rw [hk]
          refine ⟨by omega, by omega, by omega, by omega, by omega, ?_⟩
          generalize insF l i = k at hko hs ⊢
          generalize shufN l i = o at hlen hs ⊢
          refine wk_of _ (Wk.refl _) ?_
          simp only [push_cast, reduceIte, Nat.reduceEqDiff, Nat.reduceAdd, Nat.reduceSub, Nat.reduceMul, Nat.reduceBEq, Nat.reduceLT, Nat.reduceLeDiff, reduceCtorEq, Int.reduceToNat, Int.reduceNeg]
          rw [List.take_of_length_le (by omega)]
          have htk : (o.take k).length = k := by simp; omega
          have hdk : (o.drop k).length = i - k := by simp; omega
          simp only [e0, List.nil_append, List.length_nil, Nat.zero_add, htk, hdk, List.length_append, List.length_cons]
          refine ⟨by omega, by omega, by simp, by simp; omega, by omega, by simp; omega, by omega, _, ?_, i + 1, 26, by omega, rfl, .inr rfl, ?_⟩
          · omega
          · rw [hs, show k + 1 + (i - k) = i + 1 by omega]
            simp
        · have hk : insF l i = 0 := by rw [insF, if_neg (by omega)]
          rw [hk] at hs hko
          refine wk_of _ (Wk.refl _) ?_
          simp only [push_cast, reduceIte, Nat.reduceEqDiff, Nat.reduceAdd, Nat.reduceSub, Nat.reduceMul, Nat.reduceBEq, Nat.reduceLT, Nat.reduceLeDiff, reduceCtorEq, Int.reduceToNat, Int.reduceNeg]
          rw [List.take_of_length_le (by omega)]
          generalize shufN l i = o at hlen hs ⊢
          simp only [e0, List.nil_append, List.length_nil, Nat.zero_add, List.take_zero, List.length_append, List.length_cons]
          refine ⟨by omega, by omega, by simp, by simp <;> omega, by omega, by simp <;> omega, by omega, _, ?_, i + 1, 26, by omega, rfl, .inr rfl, ?_⟩
          · omega
          · rw [hs, hlen, show 1 + i = i + 1 by omega]
            simp
      · have hin : i = n := by omega
        subst hin
        rw [List.take_of_length_le (by omega)]
        exact ⟨fun _ _ => trivial, .refl _⟩
theorem shuf28_ok (n : Nat) (hn : (n : Int) ≤ 1000000) (l : List Int) (hl : (l.length : Int) ≤ 1000000) (hb : ∀ x ∈ l, 0 ≤ x ∧ x ≤ 255) :
    FnEq Try.prog 32 [.int n, .sl false 1 (bytes8 l)] (.sl true 1 (ints (shufN l n))) := by
  refine FnEq.of_awp Try.func32 ok32 (by show 2 ≤ _; decide) (by simp only [push_cast, reduceIte, Nat.reduceEqDiff, Nat.reduceAdd, Nat.reduceSub, Nat.reduceMul, Nat.reduceBEq, Nat.reduceLT, Nat.reduceLeDiff, reduceCtorEq, Int.reduceToNat, Int.reduceNeg] <;> first | exact fun _ _ => trivial | simp) ?_
  simp only [ac32, rv32, push_cast, reduceIte, Nat.reduceEqDiff, Nat.reduceAdd, Nat.reduceSub, Nat.reduceMul, Nat.reduceBEq, Nat.reduceLT, Nat.reduceLeDiff, reduceCtorEq, Int.reduceToNat, Int.reduceNeg]
  refine cal_sub (shuf_ok n hn l hl hb) (by simp only [push_cast, reduceIte, Nat.reduceEqDiff, Nat.reduceAdd, Nat.reduceSub, Nat.reduceMul, Nat.reduceBEq, Nat.reduceLT, Nat.reduceLeDiff, reduceCtorEq, Int.reduceToNat, Int.reduceNeg]) ?_
  simp only [push_cast, reduceIte, Nat.reduceEqDiff, Nat.reduceAdd, Nat.reduceSub, Nat.reduceMul, Nat.reduceBEq, Nat.reduceLT, Nat.reduceLeDiff, reduceCtorEq, Int.reduceToNat, Int.reduceNeg]
  exact fun _ _ => trivial
theorem block_r (p : Packed) (h1 : (p.ins.length : Int) ≤ 1000000) (s : Int) (hs : 0 ≤ s ∧ s ≤ 1000000) :
    FnEq Try.prog 75 [.agg (packedC false p), .int s] (.int (if s < p.ins.length then -1 else (s - p.ins.length) / 2)) := by
  refine FnEq.of_awp Try.func75 ok75 (by show 2 ≤ _; decide) (by simp only [push_cast, reduceIte, Nat.reduceEqDiff, Nat.reduceAdd, Nat.reduceSub, Nat.reduceMul, Nat.reduceBEq, Nat.reduceLT, Nat.reduceLeDiff, reduceCtorEq, Int.reduceToNat, Int.reduceNeg] <;> first | exact fun _ _ => trivial | simp) ?_
  simp only [ac75, rv75, push_cast, reduceIte, Nat.reduceEqDiff, Nat.reduceAdd, Nat.reduceSub, Nat.reduceMul, Nat.reduceBEq, Nat.reduceLT, Nat.reduceLeDiff, reduceCtorEq, Int.reduceToNat, Int.reduceNeg]
  refine cond_dec (fun h => ?_) fun h => ?_
  · rw [if_pos h]
  · rw [if_neg h]
    exact ⟨by omega, by omega, rfl⟩
def renF (n : Int) (nums : List Int) (s : Int) : Int := if s < n then s else n + 2 * nums.getD ((s - n) / 2).toNat default + (s - n) % 2
theorem renamed_r (p : Packed) (h1 : (p.ins.length : Int) ≤ 1000) (h2 : (p.blocks.length : Int) ≤ 1000) (nums : List Int) (hl : nums.length = p.blocks.length) (hn : ∀ x ∈ nums, 0 ≤ x ∧ x < p.blocks.length) (s : Int) (hs : 0 ≤ s ∧ s < p.ins.length + 2 * p.blocks.length) :
    FnEq Try.prog 51 [.agg (packedC false p), .int s, .sl false 1 (ints nums)] (.int (renF p.ins.length nums s)) := by
  refine FnEq.of_awp Try.func51 ok51 (by show 3 ≤ _; decide) (by simp only [push_cast, reduceIte, Nat.reduceEqDiff, Nat.reduceAdd, Nat.reduceSub, Nat.reduceMul, Nat.reduceBEq, Nat.reduceLT, Nat.reduceLeDiff, reduceCtorEq, Int.reduceToNat, Int.reduceNeg] <;> first | exact fun _ _ => trivial | simp) ?_
  simp only [ac51, rv51, push_cast, reduceIte, Nat.reduceEqDiff, Nat.reduceAdd, Nat.reduceSub, Nat.reduceMul, Nat.reduceBEq, Nat.reduceLT, Nat.reduceLeDiff, reduceCtorEq, Int.reduceToNat, Int.reduceNeg]
  unfold renF
  refine cond_dec (fun h => ?_) fun h => ?_
  · rw [if_pos h]
  · rw [if_neg h]
    refine dcal_sub (block_r p (by omega) s (by omega)) (by simp only [push_cast, reduceIte, Nat.reduceEqDiff, Nat.reduceAdd, Nat.reduceSub, Nat.reduceMul, Nat.reduceBEq, Nat.reduceLT, Nat.reduceLeDiff, reduceCtorEq, Int.reduceToNat, Int.reduceNeg]) rfl ?_
    rw [if_neg h]
    have hk : ((s - p.ins.length) / 2).toNat < nums.length := by omega
    have hm := hn _ (show nums.getD ((s - p.ins.length) / 2).toNat default ∈ nums by simp [List.getD_eq_getElem?_getD, hk])
    simp only [push_cast, reduceIte, Nat.reduceEqDiff, Nat.reduceAdd, Nat.reduceSub, Nat.reduceMul, Nat.reduceBEq, Nat.reduceLT, Nat.reduceLeDiff, reduceCtorEq, Int.reduceToNat, Int.reduceNeg]
    exact ⟨by omega, hk, by omega, by omega, by omega, by omega⟩
end Go.Proofs.Ytbdamnfkgdbidaa
namespace Go.Proofs.Ytbdamnfkgdbidaa
open Go Go.Vc Txt
def optC : Option Block → List PV
  | none => [.nil, .int 0, .int 0, .int 0, .sc (.int .u64 0)]
  | some b => blockC true b
def movB (n : Int) (nums : List Int) (b : Block) : Block := ⟨b.ins.map (renF n nums), b.table, b.ram, b.reg, b.key⟩
structure Moved (p : Packed) (nums : List Int) (q : Packed) : Prop where
  ins : q.ins = p.ins
  out : q.out = p.out
  drive : q.drive = p.drive.map (renF p.ins.length nums)
  nb : q.blocks.length = p.blocks.length
  at_ : ∀ i : Nat, i < p.blocks.length → q.blocks.getD (nums.getD i default).toNat default = movB p.ins.length nums (p.blocks.getD i default)
structure IsPerm (nums : List Int) (n : Nat) : Prop where
  len : nums.length = n
  rng : ∀ x ∈ nums, 0 ≤ x ∧ x < n
  nodup : nums.Nodup
theorem IsPerm.surj {nums : List Int} {n : Nat} (h : IsPerm nums n) {t : Nat} (ht : t < n) : ∃ i : Nat, i < n ∧ nums.getD i default = t := by
  by_cases hm : (t : Int) ∈ nums
  · obtain ⟨i, hi, e⟩ := List.mem_iff_getElem.1 hm
    exact ⟨i, by rw [← h.len]; exact hi, by simp [hi, e]⟩
  · exfalso
    have := nodup_sub (l := (t : Int) :: nums) (m := (List.range n).map Int.ofNat) (List.nodup_cons.2 ⟨hm, h.nodup⟩) fun x hx => by
      rcases List.mem_cons.1 hx with rfl | hx
      · exact List.mem_map.2 ⟨t, List.mem_range.2 ht, rfl⟩
      · have h2 := h.rng x hx
        exact List.mem_map.2 ⟨x.toNat, List.mem_range.2 (by omega), by simp; omega⟩
    simp only [List.length_cons, List.length_map, List.length_range, h.len] at this
    omega
set_option maxHeartbeats 2000000 in
theorem moved_r (p : Packed) (h1 : (p.ins.length : Int) ≤ 1000) (h2 : (p.blocks.length : Int) ≤ 1000) (h3 : (p.drive.length : Int) ≤ 1000) (hin : ∀ b ∈ p.blocks, (b.ins.length : Int) ≤ 1000)
    (hsb : ∀ b ∈ p.blocks, ∀ s ∈ b.ins, 0 ≤ s ∧ s < p.ins.length + 2 * p.blocks.length) (hsd : ∀ s ∈ p.drive, 0 ≤ s ∧ s < p.ins.length + 2 * p.blocks.length) (nums : List Int) (hn : IsPerm nums p.blocks.length) :
    FnOK Try.prog 33 [.agg (packedC true p), .sl false 1 (ints nums)] (fun v => ∃ q, Moved p nums q ∧ Sub v (.agg (packedC true q))) := by
  refine FnOK.of_awp Try.func33 ok33 (by show 2 ≤ _; decide) ?_
  simp only [ac33, rv33, push_cast, reduceIte, Nat.reduceEqDiff, Nat.reduceAdd, Nat.reduceSub, Nat.reduceMul, Nat.reduceBEq, Nat.reduceLT, Nat.reduceLeDiff, reduceCtorEq, Int.reduceToNat, Int.reduceNeg]
  have hnl := hn.len
  have hnr := hn.rng
  refine ⟨by omega, ?_⟩
  refine loop_of (fun m st => ∃ (i : Nat) (L : List (Option Block)), i ≤ p.blocks.length ∧ m = p.blocks.length - i ∧ L.length = p.blocks.length ∧
    (∀ i' : Nat, i' < i → L.getD (nums.getD i' default).toNat none = some (movB p.ins.length nums (p.blocks.getD i' default))) ∧
    st = ⟨[(1, .sl false 1 (ints nums)), (2, .ptr 2 0), (4, .ptr 4 0), (5, .ptr 5 0), (6, .int i)], [(2, packedC true p), (4, [.nil, .nil, .nil, .nil]), (5, [.sl true 3 (rows wireC p.ins), .view 18 0 p.blocks.length, .sl true 3 (rows wireC p.out), .nil])], [(18, ⟨5, 71, rows optC L⟩)], []⟩) p.blocks.length ?_ ?_
  · refine ⟨0, List.replicate p.blocks.length none, by omega, by omega, by simp, fun i' h => by omega, ?_⟩
    simp only [push_cast, reduceIte, Nat.reduceEqDiff, Nat.reduceAdd, Nat.reduceSub, Nat.reduceMul, Nat.reduceBEq, Nat.reduceLT, Nat.reduceLeDiff, reduceCtorEq, Int.reduceToNat, Int.reduceNeg]
    simp [rows, optC]
  · rintro m st ⟨i, L, hi, rfl, hL, hLi, rfl⟩
    simp only [push_cast, reduceIte, Nat.reduceEqDiff, Nat.reduceAdd, Nat.reduceSub, Nat.reduceMul, Nat.reduceBEq, Nat.reduceLT, Nat.reduceLeDiff, reduceCtorEq, Int.reduceToNat, Int.reduceNeg]
    refine cond_dec (fun h => ?_) fun h => ?_
    · have hi' : i < p.blocks.length := by omega
      refine ⟨by omega, hi', ?_⟩
      obtain ⟨b, hb⟩ : ∃ b, p.blocks.getD i default = b := ⟨_, rfl⟩
      have hbm : b ∈ p.blocks := by rw [← hb]; simp [List.getD_eq_getElem?_getD, hi']
      have hbn := hin b hbm
      have hbs := hsb b hbm
      rw [hb]
      refine loop_of (fun m st => ∃ k : Nat, k ≤ b.ins.length ∧ m = b.ins.length - k ∧
        st = ⟨[(1, .sl false 1 (ints nums)), (2, .ptr 2 0), (4, .ptr 4 0), (5, .ptr 5 0), (6, .int i), (7, .ptr 7 0), (8, .view 32 0 k), (9, .int k)], [(2, packedC true p), (4, [.nil, .nil, .nil, .nil]), (5, [.sl true 3 (rows wireC p.ins), .view 18 0 p.blocks.length, .sl true 3 (rows wireC p.out), .nil]), (7, blockC true b)],
          [(18, ⟨5, 71, rows optC L⟩), (32, ⟨1, 3, ints ((b.ins.take k).map (renF p.ins.length nums))⟩)], []⟩) b.ins.length ?_ ?_
      · refine ⟨0, by omega, by omega, ?_⟩
        simp only [push_cast, reduceIte, Nat.reduceEqDiff, Nat.reduceAdd, Nat.reduceSub, Nat.reduceMul, Nat.reduceBEq, Nat.reduceLT, Nat.reduceLeDiff, reduceCtorEq, Int.reduceToNat, Int.reduceNeg]
        rfl
      · rintro m st ⟨k, hk, rfl, rfl⟩
        simp only [push_cast, reduceIte, Nat.reduceEqDiff, Nat.reduceAdd, Nat.reduceSub, Nat.reduceMul, Nat.reduceBEq, Nat.reduceLT, Nat.reduceLeDiff, reduceCtorEq, Int.reduceToNat, Int.reduceNeg]
        have hlk : ((b.ins.take k).map (renF p.ins.length nums)).length = k := by simp; omega
        refine cond_dec (fun h4 => ?_) fun h4 => ?_
        · have hk' : k < b.ins.length := by omega
          have hs := hbs (b.ins.getD k default) (getD_mem hk')
          refine ⟨by omega, hk', ?_⟩
          refine dcal_sub (renamed_r p (by omega) (by omega) nums hnl hnr _ hs) ⟨Sub.aggL (packedC_sub p), .refl _, .refl _, trivial⟩ rfl ?_
          simp only [push_cast, reduceIte, Nat.reduceEqDiff, Nat.reduceAdd, Nat.reduceSub, Nat.reduceMul, Nat.reduceBEq, Nat.reduceLT, Nat.reduceLeDiff, reduceCtorEq, Int.reduceToNat, Int.reduceNeg]
          refine ⟨by simp, ⟨by omega, by omega, by omega⟩, by omega, _, ?_, k + 1, by omega, rfl, ?_⟩
          · omega
          · rw [List.take_succ_eq_append_getElem hk', List.map_append]
            simp [hk']
        · have hkk : k = b.ins.length := by omega
          subst hkk
          rw [List.take_of_length_le (Nat.le_refl _)]
          have hni : i < nums.length := by omega
          have hx := hnr _ (getD_mem hni)
          refine ⟨by omega, hni, by omega, by omega, by omega, _, ?_, i + 1, L.set (nums.getD i default).toNat (some (movB p.ins.length nums b)), by omega, rfl, by simpa using hL, fun i' hi2 => ?_, ?_⟩
          · omega
          · by_cases e : i' = i
            · subst e
              rw [hb, List.getD_eq_getElem?_getD, List.getElem?_set_self (show (nums.getD i' default).toNat < L.length by omega)]
              rfl
            · have hne : (nums.getD i default).toNat ≠ (nums.getD i' default).toNat := fun e2 => e (by
                have h5 := hnr _ (getD_mem (show i' < nums.length by omega))
                have h6 : nums.getD i default = nums.getD i' default := by omega
                have e1 : nums.getD i default = nums[i] := by simp [hni]
                have e3 : nums.getD i' default = nums[i']'(by omega) := by simp [show i' < nums.length by omega]
                rw [e1, e3] at h6
                exact (nodup_inj hn.nodup hni (by omega) h6).symm)
              rw [← hLi i' (by omega)]
              simp only [List.getD_eq_getElem?_getD] at hne ⊢
              rw [List.getElem?_set_ne hne]
          · rw [List.take_of_length_le (by simp)]
            rw [show spl (optC (L.getD (nums.getD i default).toNat default)) 0 [PV.sl true 1 (rows intC (b.ins.map (renF p.ins.length nums))), .int b.table, .int b.ram, .int b.reg, .sc (.int .u64 b.key)] = optC (some (movB p.ins.length nums b)) from by
              cases L.getD (nums.getD i default).toNat default <;> rfl]
            simp only [rows, List.map_set]
            rfl
    · have hii : i = p.blocks.length := by omega
      subst hii
      have hall : ∀ t : Nat, t < p.blocks.length → ∃ b, L.getD t none = some b := fun t ht => by
        obtain ⟨i, hi, e⟩ := hn.surj ht
        have := hLi i hi
        rw [e, Int.toNat_natCast] at this
        exact ⟨_, this⟩
      obtain ⟨bs, hbs⟩ : ∃ bs : List Block, L.map (fun x => x.getD default) = bs := ⟨_, rfl⟩
      have hbl : bs.length = p.blocks.length := by rw [← hbs]; simpa using hL
      have hrows : rows optC L = rows (blockC true) bs := by
        rw [← hbs, rows, rows, List.map_map]
        refine List.map_congr_left fun x hx => ?_
        obtain ⟨t, ht, e⟩ := List.mem_iff_getElem.1 hx
        obtain ⟨b, hb⟩ := hall t (by omega)
        rw [List.getD_eq_getElem?_getD, List.getElem?_eq_getElem ht] at hb
        simp only [Option.getD_some] at hb
        rw [← e, hb]
        rfl
      have hat : ∀ i : Nat, i < p.blocks.length → bs.getD (nums.getD i default).toNat default = movB p.ins.length nums (p.blocks.getD i default) := fun i hi => by
        have h5 := hLi i hi
        have h6 := hnr _ (getD_mem (show i < nums.length by omega))
        rw [List.getD_eq_getElem?_getD, List.getElem?_eq_getElem (show (nums.getD i default).toNat < L.length by omega)] at h5
        simp only [Option.getD_some] at h5
        rw [← hbs, List.getD_eq_getElem?_getD, List.getElem?_map, List.getElem?_eq_getElem (show (nums.getD i default).toNat < L.length by omega), h5]
        rfl
      rw [hrows]
      clear hrows hLi hall hbs
      refine loop_of (fun m st => ∃ o : Nat, o ≤ p.drive.length ∧ m = p.drive.length - o ∧
        ((o = 0 ∧ st = ⟨[(1, .sl false 1 (ints nums)), (2, .ptr 2 0), (4, .ptr 4 0), (5, .ptr 5 0), (10, .int o)], [(2, packedC true p), (4, [.nil, .nil, .nil, .nil]), (5, [.sl true 3 (rows wireC p.ins), .view 18 0 p.blocks.length, .sl true 3 (rows wireC p.out), .nil])], [(18, ⟨5, 71, rows (blockC true) bs⟩)], []⟩) ∨
         (o ≠ 0 ∧ st = ⟨[(1, .sl false 1 (ints nums)), (2, .ptr 2 0), (4, .ptr 4 0), (5, .ptr 5 0), (10, .int o)], [(2, packedC true p), (4, [.nil, .nil, .nil, .nil]), (5, [.sl true 3 (rows wireC p.ins), .view 18 0 p.blocks.length, .sl true 3 (rows wireC p.out), .view 79 0 o])], [(18, ⟨5, 71, rows (blockC true) bs⟩), (79, ⟨1, 3, ints ((p.drive.take o).map (renF p.ins.length nums))⟩)], []⟩))) p.drive.length ?_ ?_
      · refine ⟨0, by omega, by omega, .inl ⟨rfl, ?_⟩⟩
        simp only [push_cast, reduceIte, Nat.reduceEqDiff, Nat.reduceAdd, Nat.reduceSub, Nat.reduceMul, Nat.reduceBEq, Nat.reduceLT, Nat.reduceLeDiff, reduceCtorEq, Int.reduceToNat, Int.reduceNeg]
      · rintro m st ⟨o, ho, rfl, ⟨rfl, rfl⟩ | ⟨ho0, rfl⟩⟩
        · simp only [push_cast, reduceIte, Nat.reduceEqDiff, Nat.reduceAdd, Nat.reduceSub, Nat.reduceMul, Nat.reduceBEq, Nat.reduceLT, Nat.reduceLeDiff, reduceCtorEq, Int.reduceToNat, Int.reduceNeg]
          refine cond_dec (fun h4 => ?_) fun h4 => ?_
          · have ho' : 0 < p.drive.length := by omega
            have hs := hsd (p.drive.getD 0 default) (getD_mem ho')
            refine ⟨by omega, ho', ?_⟩
            refine dcal_sub (renamed_r p (by omega) (by omega) nums hnl hnr _ hs) ⟨Sub.aggL (packedC_sub p), .refl _, .refl _, trivial⟩ rfl ?_
            simp only [push_cast, reduceIte, Nat.reduceEqDiff, Nat.reduceAdd, Nat.reduceSub, Nat.reduceMul, Nat.reduceBEq, Nat.reduceLT, Nat.reduceLeDiff, reduceCtorEq, Int.reduceToNat, Int.reduceNeg]
            refine ⟨by simp, by omega, _, ?_, 1, by omega, rfl, .inr ⟨by omega, ?_⟩⟩
            · omega
            · rw [List.take_succ_eq_append_getElem ho', List.take_zero]
              simp [ho', rows]
          · refine ⟨⟨fun _ _ => trivial, fun _ _ _ _ => trivial, fun _ _ => trivial⟩, ⟨p.ins, bs, p.out, []⟩, ⟨rfl, rfl, ?_, hbl, hat⟩, .refl _, ?_, .refl _, rfl⟩
            · rw [List.eq_nil_of_length_eq_zero (show p.drive.length = 0 by omega)]; rfl
            · rw [List.take_of_length_le (by omega)]; exact .refl _
        · simp only [push_cast, reduceIte, Nat.reduceEqDiff, Nat.reduceAdd, Nat.reduceSub, Nat.reduceMul, Nat.reduceBEq, Nat.reduceLT, Nat.reduceLeDiff, reduceCtorEq, Int.reduceToNat, Int.reduceNeg]
          refine cond_dec (fun h4 => ?_) fun h4 => ?_
          · have ho' : o < p.drive.length := by omega
            have hs := hsd (p.drive.getD o default) (getD_mem ho')
            refine ⟨by omega, ho', ?_⟩
            refine dcal_sub (renamed_r p (by omega) (by omega) nums hnl hnr _ hs) ⟨Sub.aggL (packedC_sub p), .refl _, .refl _, trivial⟩ rfl ?_
            simp only [push_cast, reduceIte, Nat.reduceEqDiff, Nat.reduceAdd, Nat.reduceSub, Nat.reduceMul, Nat.reduceBEq, Nat.reduceLT, Nat.reduceLeDiff, reduceCtorEq, Int.reduceToNat, Int.reduceNeg]
            refine ⟨by simp, ⟨by simp; omega, by omega, by omega⟩, by omega, _, ?_, o + 1, by omega, rfl, .inr ⟨by omega, ?_⟩⟩
            · omega
            · rw [List.take_succ_eq_append_getElem ho', List.map_append]
              simp [ho']
          · have hoo : o = p.drive.length := by omega
            subst hoo
            rw [List.take_of_length_le (Nat.le_refl p.drive.length), List.take_of_length_le (show (p.drive.map (renF p.ins.length nums)).length ≤ p.drive.length by simp), List.take_of_length_le (show bs.length ≤ p.blocks.length by omega)]
            exact ⟨⟨fun _ _ => trivial, fun _ _ _ _ => trivial, fun _ _ => trivial, fun _ _ => trivial⟩, ⟨p.ins, bs, p.out, p.drive.map (renF p.ins.length nums)⟩, ⟨rfl, rfl, rfl, hbl, hat⟩, .refl _, .refl _, .refl _, .refl _⟩
end Go.Proofs.Ytbdamnfkgdbidaa
namespace Go.Proofs.Ytbdamnfkgdbidaa
open Go Go.Vc Txt
theorem vblock_ok (p : Packed) (h1 : (p.ins.length : Int) ≤ 1000) (s : Int) (hs : 0 ≤ s ∧ s ≤ 1000000) :
    FnEq Try.prog 77 [.agg (packedC false p), .int s] (.tup [.int (if s < p.ins.length then -1 else (s - p.ins.length) / 2), .bool (decide (¬ s < p.ins.length ∧ (s - p.ins.length) % 2 = 1))]) := by
  refine FnEq.of_awp Try.func77 ok77 (by show 2 ≤ _; decide) (by simp only [push_cast, reduceIte, Nat.reduceEqDiff, Nat.reduceAdd, Nat.reduceSub, Nat.reduceMul, Nat.reduceBEq, Nat.reduceLT, Nat.reduceLeDiff, reduceCtorEq, Int.reduceToNat, Int.reduceNeg] <;> first | exact fun _ _ => trivial | simp) ?_
  simp only [ac77, rv77, push_cast, reduceIte, Nat.reduceEqDiff, Nat.reduceAdd, Nat.reduceSub, Nat.reduceMul, Nat.reduceBEq, Nat.reduceLT, Nat.reduceLeDiff, reduceCtorEq, Int.reduceToNat, Int.reduceNeg]
  refine cond_dec (fun h => ?_) fun h => ?_
  · rw [if_pos h]
    simp only [h, not_true, false_and, push_cast, reduceIte, Nat.reduceEqDiff, Nat.reduceAdd, Nat.reduceSub, Nat.reduceMul, Nat.reduceBEq, Nat.reduceLT, Nat.reduceLeDiff, reduceCtorEq, Int.reduceToNat, Int.reduceNeg]
  · rw [if_neg h]
    refine ⟨⟨by omega, by omega⟩, ⟨by omega, by omega, by omega⟩, ⟨by omega, by omega⟩, ⟨by omega, by omega, by omega⟩, ?_⟩
    simp only [h, not_false_iff, push_cast, reduceIte, Nat.reduceEqDiff, Nat.reduceAdd, Nat.reduceSub, Nat.reduceMul, Nat.reduceBEq, Nat.reduceLT, Nat.reduceLeDiff, reduceCtorEq, Int.reduceToNat, Int.reduceNeg]
    done
theorem visit_ok (b : Int) : FnEq Try.prog 61 [.int b] (.tup []) := by
  refine FnEq.of_awp Try.func61 ok61 (by show 1 ≤ _; decide) (by simp only [push_cast, reduceIte, Nat.reduceEqDiff, Nat.reduceAdd, Nat.reduceSub, Nat.reduceMul, Nat.reduceBEq, Nat.reduceLT, Nat.reduceLeDiff, reduceCtorEq, Int.reduceToNat, Int.reduceNeg] <;> first | exact fun _ _ => trivial | simp) ?_
  simp only [ac61, rv61, push_cast, reduceIte, Nat.reduceEqDiff, Nat.reduceAdd, Nat.reduceSub, Nat.reduceMul, Nat.reduceBEq, Nat.reduceLT, Nat.reduceLeDiff, reduceCtorEq, Int.reduceToNat, Int.reduceNeg]
  done
def Acyc (p : Packed) (rank : Nat → Nat) : Prop := ∀ b : Nat, b < p.blocks.length → ∀ s ∈ (p.blocks.getD b default).ins, (p.ins.length : Int) ≤ s → (s - p.ins.length) % 2 = 0 → rank ((s - p.ins.length) / 2).toNat < rank b
theorem lk_cons {α : Type} {k i : Nat} {u v : α} {r : List (Nat × α)} (h : lk ((k, v) :: r) i = some u) : (i = k ∧ u = v) ∨ lk r i = some u := by
  simp only [lk] at h
  split at h
  · rename_i e
    cases h
    exact .inl ⟨e.symm, rfl⟩
  · exact .inr h
def visF : PV := .sc (.func (.func 61) #[] #[])
@[push_cast] theorem visF_eq : visF = .sc (.func (.func 61) #[] #[]) := rfl
def stW (ls : List (Nat × List (List PV))) (p : Packed) (sts : List Int) : St :=
  ⟨[(0, stkC ls), (1, .ptr 5 0), (2, .ptr 2 0), (3, .ptr 6 0), (4, .ptr 3 0)], [(2, packedC false p), (3, [visF]), (5, [.view 12 0 p.blocks.length]), (6, [.clo 81 [5, 2, 6, 3]])], [(12, ⟨1, 3, ints sts⟩)], []⟩
theorem stW_eq (ls : List (Nat × List (List PV))) (p : Packed) (sts : List Int) : stW ls p sts =
  ⟨[(0, stkC ls), (1, .ptr 5 0), (2, .ptr 2 0), (3, .ptr 6 0), (4, .ptr 3 0)], [(2, packedC false p), (3, [visF]), (5, [.view 12 0 p.blocks.length]), (6, [.clo 81 [5, 2, 6, 3]])], [(12, ⟨1, 3, ints sts⟩)], []⟩ := rfl
set_option maxHeartbeats 2000000 in
theorem enter_ok (p : Packed) (h1 : (p.ins.length : Int) ≤ 1000) (h2 : (p.blocks.length : Int) ≤ 1000) (hin : ∀ b ∈ p.blocks, (b.ins.length : Int) ≤ 1000) (hsb : ∀ b ∈ p.blocks, ∀ s ∈ b.ins, 0 ≤ s ∧ s < p.ins.length + 2 * p.blocks.length) (rank : Nat → Nat) (hac : Acyc p rank) :
    ∀ (N b : Nat), rank b < N → b < p.blocks.length → ∀ (ls : List (Nat × List (List PV))) (sts : List Int), sts.length = p.blocks.length → (∀ c : Nat, sts.getD c default = 1 → rank b < rank c) →
      FnM (Env.of Try.prog) 81 [.int b, .ptr 5 0, .ptr 2 0, .ptr 6 0, .ptr 3 0] (stW ls p sts)
        (fun r st' => ∃ sts' : List Int, r = .bool true ∧ sts'.length = p.blocks.length ∧ sts'.getD b default = 2 ∧ (∀ c : Nat, sts'.getD c default = 1 ↔ sts.getD c default = 1) ∧ st' = stW ls p sts') := by
  intro N
  induction N with
  | zero => intro b hb; omega
  | succ N ih =>
    intro b hb hbn ls sts hl hpre
    rw [stW_eq]
    refine fnM_of 1000 Try.func81 ok81_1000g (by show 5 ≤ _; decide) rfl (by show 0 ≤ 1000; decide) ?_
    simp only [ac81_1000g, rv81_1000g, push_cast, reduceIte, Nat.reduceEqDiff, Nat.reduceAdd, Nat.reduceSub, Nat.reduceMul, Nat.reduceBEq, Nat.reduceLT, Nat.reduceLeDiff, reduceCtorEq, Int.reduceToNat, Int.reduceNeg]
    have hb1 : sts.getD b default ≠ 1 := fun e => Nat.lt_irrefl _ (hpre b e)
    refine ⟨by omega, by omega, ?_⟩
    refine cond_dec (fun h => absurd h hb1) fun _ => ?_
    refine cond_dec (fun h => ?_) fun h => ?_
    · exact ⟨sts, hl, h, fun c => Iff.rfl, rfl⟩
    · refine ⟨by omega, by omega, by omega, hbn, ?_⟩
      obtain ⟨l, hbl⟩ : ∃ l, (p.blocks.getD b default).ins = l := ⟨_, rfl⟩
      have hbm : p.blocks.getD b default ∈ p.blocks := by simp [List.getD_eq_getElem?_getD, hbn]
      have hln := hin _ hbm
      have hls := hsb _ hbm
      have hla := hac b hbn
      rw [hbl] at hln hls hla
      rw [hbl]
      refine loop_of (fun m st => ∃ (k : Nat) (sts1 : List Int), k ≤ l.length ∧ m = l.length - k ∧ sts1.length = p.blocks.length ∧ (∀ c : Nat, sts1.getD c default = 1 ↔ (sts.set b 1).getD c default = 1) ∧
        st = ⟨[(0, stkC ls), (1, .ptr 5 0), (2, .ptr 2 0), (3, .ptr 6 0), (4, .ptr 3 0), (1000, .int b), (1001, .ptr 5 0), (1002, .ptr 2 0), (1003, .ptr 6 0), (1004, .ptr 3 0), (1028, .sl false 1 (ints l)), (1029, .int l.length), (1030, .int k)],
          [(2, packedC false p), (3, [visF]), (5, [.view 12 0 p.blocks.length]), (6, [.clo 81 [5, 2, 6, 3]])], [(12, ⟨1, 3, ints sts1⟩)], []⟩) l.length ?_ ?_
      · refine ⟨0, sts.set b 1, by omega, by omega, by simpa using hl, fun c => Iff.rfl, ?_⟩
        simp only [push_cast, reduceIte, Nat.reduceEqDiff, Nat.reduceAdd, Nat.reduceSub, Nat.reduceMul, Nat.reduceBEq, Nat.reduceLT, Nat.reduceLeDiff, reduceCtorEq, Int.reduceToNat, Int.reduceNeg]
      · rintro m st ⟨k, sts1, hk, rfl, hl1, hs1, rfl⟩
        simp only [push_cast, reduceIte, Nat.reduceEqDiff, Nat.reduceAdd, Nat.reduceSub, Nat.reduceMul, Nat.reduceBEq, Nat.reduceLT, Nat.reduceLeDiff, reduceCtorEq, Int.reduceToNat, Int.reduceNeg]
        refine cond_dec (fun h3 => ?_) fun h3 => ?_
        · have hk' : k < l.length := by omega
          have hs := hls (l.getD k default) (getD_mem hk')
          have hla := hla (l.getD k default) (getD_mem hk')
          refine ⟨by omega, hk', ?_⟩
          refine cal_sub (vblock_ok p h1 (l.getD k default) (by omega)) (by simp only [push_cast, reduceIte, Nat.reduceEqDiff, Nat.reduceAdd, Nat.reduceSub, Nat.reduceMul, Nat.reduceBEq, Nat.reduceLT, Nat.reduceLeDiff, reduceCtorEq, Int.reduceToNat, Int.reduceNeg]) ?_
          generalize l.getD k default = s at hs hla ⊢
          have hdec : decide (¬ s < p.ins.length ∧ (s - p.ins.length) % 2 = 1) = decide (¬ s < p.ins.length ∧ (s - p.ins.length) % 2 = 1) := rfl
          by_cases hsn : s < p.ins.length
          · rw [if_pos hsn]
            simp only [push_cast, reduceIte, Nat.reduceEqDiff, Nat.reduceAdd, Nat.reduceSub, Nat.reduceMul, Nat.reduceBEq, Nat.reduceLT, Nat.reduceLeDiff, reduceCtorEq, Int.reduceToNat, Int.reduceNeg]
            refine grd_dec rfl (fun h4 => absurd h4 (by decide)) fun _ => ?_
            simp only [push_cast, reduceIte, Nat.reduceEqDiff, Nat.reduceAdd, Nat.reduceSub, Nat.reduceMul, Nat.reduceBEq, Nat.reduceLT, Nat.reduceLeDiff, reduceCtorEq, Int.reduceToNat, Int.reduceNeg]
            refine ⟨by omega, _, ?_, k + 1, sts1, by omega, rfl, hl1, hs1, ?_⟩
            · omega
            · simp
          · rw [if_neg hsn]
            simp only [push_cast, reduceIte, Nat.reduceEqDiff, Nat.reduceAdd, Nat.reduceSub, Nat.reduceMul, Nat.reduceBEq, Nat.reduceLT, Nat.reduceLeDiff, reduceCtorEq, Int.reduceToNat, Int.reduceNeg]
            refine grd_dec rfl (fun _ => ?_) fun h4 => absurd (by omega) h4
            by_cases hfl : (s - p.ins.length) % 2 = 1
            · rw [decide_eq_true (show ¬ s < p.ins.length ∧ (s - p.ins.length) % 2 = 1 from ⟨hsn, hfl⟩)]
              simp only [push_cast, reduceIte, Nat.reduceEqDiff, Nat.reduceAdd, Nat.reduceSub, Nat.reduceMul, Nat.reduceBEq, Nat.reduceLT, Nat.reduceLeDiff, reduceCtorEq, Int.reduceToNat, Int.reduceNeg]
              refine ⟨by omega, _, ?_, k + 1, sts1, by omega, rfl, hl1, hs1, ?_⟩
              · omega
              · simp
            · rw [decide_eq_false (show ¬ (¬ s < p.ins.length ∧ (s - p.ins.length) % 2 = 1) from fun h => hfl h.2)]
              simp only [push_cast, reduceIte, Nat.reduceEqDiff, Nat.reduceAdd, Nat.reduceSub, Nat.reduceMul, Nat.reduceBEq, Nat.reduceLT, Nat.reduceLeDiff, reduceCtorEq, Int.reduceToNat, Int.reduceNeg]
              obtain ⟨c, hc⟩ : ∃ c : Nat, (s - p.ins.length) / 2 = c := ⟨((s - p.ins.length) / 2).toNat, by omega⟩
              have hrk := hla (by omega) (by omega)
              rw [hc, Int.toNat_natCast] at hrk
              rw [hc]
              have hpre1 : ∀ d : Nat, sts1.getD d default = 1 → rank c < rank d := fun d hd => by
                have h5 := (hs1 d).1 hd
                by_cases e : b = d
                · subst e; exact hrk
                · rw [getD_set_ne e] at h5
                  exact Nat.lt_trans hrk (hpre d h5)
              refine clm_of (Q := fun r st' => ∃ sts2 : List Int, r = .bool true ∧ sts2.length = p.blocks.length ∧ (∀ d : Nat, sts2.getD d default = 1 ↔ sts1.getD d default = 1) ∧
                st' = ⟨[(0, stkC ls), (1, .ptr 5 0), (2, .ptr 2 0), (3, .ptr 6 0), (4, .ptr 3 0), (1000, .int b), (1001, .ptr 5 0), (1002, .ptr 2 0), (1003, .ptr 6 0), (1004, .ptr 3 0), (1028, .sl false 1 (ints l)), (1029, .int l.length), (1030, .int k), (1046, .bool true)], [(2, packedC false p), (3, [visF]), (5, [.view 12 0 p.blocks.length]), (6, [.clo 81 [5, 2, 6, 3]])], [(12, ⟨1, 3, ints sts2⟩)], []⟩)
                (FnM.stk (ps := [(1, .ptr 5 0), (2, .ptr 2 0), (3, .ptr 6 0), (4, .ptr 3 0)]) (t := [(0, stkC ls), (1, .ptr 5 0), (2, .ptr 2 0), (3, .ptr 6 0), (4, .ptr 3 0), (1000, .int b), (1001, .ptr 5 0), (1002, .ptr 2 0), (1003, .ptr 6 0), (1004, .ptr 3 0), (1028, .sl false 1 (ints l)), (1029, .int l.length), (1030, .int k), (1046, .bool true)]) ls (1, ints l) 1028 rfl rfl ?_ ?_
                  (FnM.mono (ih c (by omega) (by omega) ((1, ints l) :: ls) sts1 hl1 hpre1) fun r st' hq => ?_)) ?_
              · intro i v hl
                rcases lk_cons hl with ⟨rfl, rfl⟩ | hl
                · exact ⟨by decide, _, rfl⟩
                rcases lk_cons hl with ⟨rfl, rfl⟩ | hl
                · exact ⟨by decide, _, rfl⟩
                rcases lk_cons hl with ⟨rfl, rfl⟩ | hl
                · exact ⟨by decide, _, rfl⟩
                rcases lk_cons hl with ⟨rfl, rfl⟩ | hl
                · exact ⟨by decide, _, rfl⟩
                cases hl
              · intro i v hl
                rcases lk_cons hl with ⟨rfl, rfl⟩ | hl
                · exact ⟨rfl, .inr (.inl rfl)⟩
                rcases lk_cons hl with ⟨rfl, rfl⟩ | hl
                · exact ⟨rfl, .inr (.inr (.inr ⟨_, 1, rfl, rfl⟩))⟩
                rcases lk_cons hl with ⟨rfl, rfl⟩ | hl
                · exact ⟨rfl, .inr (.inr (.inr ⟨_, 2, rfl, rfl⟩))⟩
                rcases lk_cons hl with ⟨rfl, rfl⟩ | hl
                · exact ⟨rfl, .inr (.inr (.inr ⟨_, 3, rfl, rfl⟩))⟩
                rcases lk_cons hl with ⟨rfl, rfl⟩ | hl
                · exact ⟨rfl, .inr (.inr (.inr ⟨_, 4, rfl, rfl⟩))⟩
                rcases lk_cons hl with ⟨rfl, rfl⟩ | hl
                · exact ⟨rfl, .inl ⟨_, rfl⟩⟩
                rcases lk_cons hl with ⟨rfl, rfl⟩ | hl
                · exact ⟨rfl, .inr (.inr (.inr ⟨_, 1, rfl, rfl⟩))⟩
                rcases lk_cons hl with ⟨rfl, rfl⟩ | hl
                · exact ⟨rfl, .inr (.inr (.inr ⟨_, 2, rfl, rfl⟩))⟩
                rcases lk_cons hl with ⟨rfl, rfl⟩ | hl
                · exact ⟨rfl, .inr (.inr (.inr ⟨_, 3, rfl, rfl⟩))⟩
                rcases lk_cons hl with ⟨rfl, rfl⟩ | hl
                · exact ⟨rfl, .inr (.inr (.inr ⟨_, 4, rfl, rfl⟩))⟩
                rcases lk_cons hl with ⟨rfl, rfl⟩ | hl
                · exact ⟨rfl, .inr (.inr (.inl rfl))⟩
                rcases lk_cons hl with ⟨rfl, rfl⟩ | hl
                · exact ⟨rfl, .inl ⟨_, rfl⟩⟩
                rcases lk_cons hl with ⟨rfl, rfl⟩ | hl
                · exact ⟨rfl, .inl ⟨_, rfl⟩⟩
                rcases lk_cons hl with ⟨rfl, rfl⟩ | hl
                · exact ⟨rfl, .inl ⟨_, rfl⟩⟩
                cases hl
              · obtain ⟨sts2, rfl, q1, q2, q3, rfl⟩ := hq
                exact ⟨_, _, _, rfl, sts2, rfl, q1, q3, rfl⟩
              · rintro r st' ⟨sts2, rfl, q1, q3, rfl⟩
                simp only [push_cast, reduceIte, Nat.reduceEqDiff, Nat.reduceAdd, Nat.reduceSub, Nat.reduceMul, Nat.reduceBEq, Nat.reduceLT, Nat.reduceLeDiff, reduceCtorEq, Int.reduceToNat, Int.reduceNeg]
                refine ⟨by omega, _, ?_, k + 1, sts2, by omega, rfl, q1, fun d => (q3 d).trans (hs1 d), ?_⟩
                · omega
                · simp
        · refine ⟨by omega, by omega, ?_⟩
          have hkk : k = l.length := by omega
          refine clm_eq (FnM.of_ok (by kernel_rfl) (visit_ok b) fun r hr => ⟨hr, rfl⟩) ?_
          simp only [push_cast, reduceIte, Nat.reduceEqDiff, Nat.reduceAdd, Nat.reduceSub, Nat.reduceMul, Nat.reduceBEq, Nat.reduceLT, Nat.reduceLeDiff, reduceCtorEq, Int.reduceToNat, Int.reduceNeg]
          refine ⟨sts1.set b 2, by simpa using hl1, getD_set_eq (by omega) 2, fun c => ?_, rfl⟩
          by_cases e : b = c
          · subst e
            rw [getD_set_eq (by omega)]
            exact ⟨fun h => absurd h (by decide), fun h => absurd h hb1⟩
          · rw [getD_set_ne e, hs1, getD_set_ne e]
set_option maxHeartbeats 2000000 in
theorem walk_ok (p : Packed) (h1 : (p.ins.length : Int) ≤ 1000) (h2 : (p.blocks.length : Int) ≤ 1000) (hin : ∀ b ∈ p.blocks, (b.ins.length : Int) ≤ 1000) (hsb : ∀ b ∈ p.blocks, ∀ s ∈ b.ins, 0 ≤ s ∧ s < p.ins.length + 2 * p.blocks.length) (rank : Nat → Nat) (hac : Acyc p rank) :
    FnEq Try.prog 60 [.agg (packedC false p), visF] (.bool true) := by
  refine FnEq.of_awp Try.func60 ok60 (by show 2 ≤ _; decide) (by simp only [push_cast, reduceIte, Nat.reduceEqDiff, Nat.reduceAdd, Nat.reduceSub, Nat.reduceMul, Nat.reduceBEq, Nat.reduceLT, Nat.reduceLeDiff, reduceCtorEq, Int.reduceToNat, Int.reduceNeg] <;> first | exact fun _ _ => trivial | simp) ?_
  simp only [ac60, rv60, push_cast, reduceIte, Nat.reduceEqDiff, Nat.reduceAdd, Nat.reduceSub, Nat.reduceMul, Nat.reduceBEq, Nat.reduceLT, Nat.reduceLeDiff, reduceCtorEq, Int.reduceToNat, Int.reduceNeg]
  refine ⟨by omega, ?_⟩
  refine loop_of (fun m st => ∃ (b : Nat) (sts : List Int), b ≤ p.blocks.length ∧ m = p.blocks.length - b ∧ sts.length = p.blocks.length ∧ (∀ c : Nat, sts.getD c default ≠ 1) ∧
    st = ⟨[(6, .ptr 6 0), (17, .int p.blocks.length), (18, .int b)], [(2, packedC false p), (3, [visF]), (5, [.view 12 0 p.blocks.length]), (6, [.clo 81 [5, 2, 6, 3]])], [(12, ⟨1, 3, ints sts⟩)], []⟩) p.blocks.length ?_ ?_
  · refine ⟨0, List.replicate p.blocks.length 0, by omega, by omega, by simp, fun c => ?_, ?_⟩
    · by_cases hc : c < p.blocks.length
      · simp [List.getD_eq_getElem?_getD, hc]
      · simp [List.getD_eq_getElem?_getD, hc]
    · simp only [push_cast, reduceIte, Nat.reduceEqDiff, Nat.reduceAdd, Nat.reduceSub, Nat.reduceMul, Nat.reduceBEq, Nat.reduceLT, Nat.reduceLeDiff, reduceCtorEq, Int.reduceToNat, Int.reduceNeg]
      rw [List.length_replicate]
  · rintro m st ⟨b, sts, hb, rfl, hl, hs, rfl⟩
    simp only [push_cast, reduceIte, Nat.reduceEqDiff, Nat.reduceAdd, Nat.reduceSub, Nat.reduceMul, Nat.reduceBEq, Nat.reduceLT, Nat.reduceLeDiff, reduceCtorEq, Int.reduceToNat, Int.reduceNeg]
    refine cond_dec (fun h => ?_) fun h => ?_
    · have hb' : b < p.blocks.length := by omega
      refine clm_of (Q := fun r st' => ∃ sts2 : List Int, r = .bool true ∧ sts2.length = p.blocks.length ∧ (∀ c : Nat, sts2.getD c default ≠ 1) ∧
        st' = ⟨[(6, .ptr 6 0), (17, .int p.blocks.length), (18, .int b)], [(2, packedC false p), (3, [visF]), (5, [.view 12 0 p.blocks.length]), (6, [.clo 81 [5, 2, 6, 3]])], [(12, ⟨1, 3, ints sts2⟩)], []⟩)
        (FnM.stk0 (ps := [(1, .ptr 5 0), (2, .ptr 2 0), (3, .ptr 6 0), (4, .ptr 3 0)]) (t := [(6, .ptr 6 0), (17, .int p.blocks.length), (18, .int b)]) ?_ ?_
          (FnM.mono (enter_ok p h1 h2 hin hsb rank hac (rank b + 1) b (by omega) hb' [] sts hl fun c hc => absurd hc (hs c)) fun r st' hq => ?_)) ?_
      · intro i v hl
        rcases lk_cons hl with ⟨rfl, rfl⟩ | hl
        · exact ⟨by decide, _, rfl⟩
        rcases lk_cons hl with ⟨rfl, rfl⟩ | hl
        · exact ⟨by decide, _, rfl⟩
        rcases lk_cons hl with ⟨rfl, rfl⟩ | hl
        · exact ⟨by decide, _, rfl⟩
        rcases lk_cons hl with ⟨rfl, rfl⟩ | hl
        · exact ⟨by decide, _, rfl⟩
        cases hl
      · intro i v hl
        rcases lk_cons hl with ⟨rfl, rfl⟩ | hl
        · exact ⟨rfl, .inr ⟨_, 3, rfl, rfl⟩⟩
        rcases lk_cons hl with ⟨rfl, rfl⟩ | hl
        · exact ⟨rfl, .inl ⟨_, rfl⟩⟩
        rcases lk_cons hl with ⟨rfl, rfl⟩ | hl
        · exact ⟨rfl, .inl ⟨_, rfl⟩⟩
        cases hl
      · obtain ⟨sts2, rfl, q1, q2, q3, rfl⟩ := hq
        exact ⟨_, _, _, rfl, sts2, rfl, q1, fun c hc => hs c ((q3 c).1 hc), rfl⟩
      · rintro r st' ⟨sts2, rfl, q1, q3, rfl⟩
        simp only [push_cast, reduceIte, Nat.reduceEqDiff, Nat.reduceAdd, Nat.reduceSub, Nat.reduceMul, Nat.reduceBEq, Nat.reduceLT, Nat.reduceLeDiff, reduceCtorEq, Int.reduceToNat, Int.reduceNeg]
        refine ⟨by omega, _, ?_, b + 1, sts2, by omega, rfl, q1, q3, ?_⟩
        · omega
        · simp
    · trivial
end Go.Proofs.Ytbdamnfkgdbidaa
namespace Go.Proofs.Ytbdamnfkgdbidaa
open Go Go.Vc Txt
def Us (p : Packed) (s : Int) : Prop := (0 ≤ s ∧ s < p.ins.length + 2 * p.blocks.length) ∧ ((p.ins.length : Int) ≤ s → (s - p.ins.length) % 2 = 1 → 0 ≤ (p.blocks.getD ((s - p.ins.length) / 2).toNat default).reg)
theorem signals_v (p : Packed) (h1 : (p.ins.length : Int) ≤ 1000) (h2 : (p.blocks.length : Int) ≤ 1000) : FnEq Try.prog 76 [.agg (packedC false p)] (.int (p.ins.length + 2 * p.blocks.length)) := by
  refine FnEq.of_awp Try.func76 ok76 (by show 1 ≤ _; decide) (by simp only [push_cast, reduceIte, Nat.reduceEqDiff, Nat.reduceAdd, Nat.reduceSub, Nat.reduceMul, Nat.reduceBEq, Nat.reduceLT, Nat.reduceLeDiff, reduceCtorEq, Int.reduceToNat, Int.reduceNeg] <;> first | exact fun _ _ => trivial | simp) ?_
  simp only [ac76, rv76, push_cast, reduceIte, Nat.reduceEqDiff, Nat.reduceAdd, Nat.reduceSub, Nat.reduceMul, Nat.reduceBEq, Nat.reduceLT, Nat.reduceLeDiff, reduceCtorEq, Int.reduceToNat, Int.reduceNeg]
  refine ⟨⟨by omega, by omega⟩, by omega, by omega⟩
theorem usable_ok (p : Packed) (h1 : (p.ins.length : Int) ≤ 1000) (h2 : (p.blocks.length : Int) ≤ 1000) (s : Int) (hs : Us p s) : FnEq Try.prog 53 [.agg (packedC false p), .int s] (.bool true) := by
  obtain ⟨⟨s1, s2⟩, s3⟩ := hs
  refine FnEq.of_awp Try.func53 ok53 (by show 2 ≤ _; decide) (by simp only [push_cast, reduceIte, Nat.reduceEqDiff, Nat.reduceAdd, Nat.reduceSub, Nat.reduceMul, Nat.reduceBEq, Nat.reduceLT, Nat.reduceLeDiff, reduceCtorEq, Int.reduceToNat, Int.reduceNeg] <;> first | exact fun _ _ => trivial | simp) ?_
  simp only [ac53, rv53, push_cast, reduceIte, Nat.reduceEqDiff, Nat.reduceAdd, Nat.reduceSub, Nat.reduceMul, Nat.reduceBEq, Nat.reduceLT, Nat.reduceLeDiff, reduceCtorEq, Int.reduceToNat, Int.reduceNeg]
  refine cut_of ⟨[(1, .int s), (2, .ptr 2 0), (14, .bool false)], [(2, packedC false p)], [], []⟩ ?_ ?_
  · refine grd_decf rfl (fun h => absurd h (by omega)) fun _ => ?_
    simp only [push_cast, reduceIte, Nat.reduceEqDiff, Nat.reduceAdd, Nat.reduceSub, Nat.reduceMul, Nat.reduceBEq, Nat.reduceLT, Nat.reduceLeDiff, reduceCtorEq, Int.reduceToNat, Int.reduceNeg]
    refine cal_sub (signals_v p h1 h2) (by simp only [push_cast, reduceIte, Nat.reduceEqDiff, Nat.reduceAdd, Nat.reduceSub, Nat.reduceMul, Nat.reduceBEq, Nat.reduceLT, Nat.reduceLeDiff, reduceCtorEq, Int.reduceToNat, Int.reduceNeg]) ?_
    simp only [push_cast, reduceIte, Nat.reduceEqDiff, Nat.reduceAdd, Nat.reduceSub, Nat.reduceMul, Nat.reduceBEq, Nat.reduceLT, Nat.reduceLeDiff, reduceCtorEq, Int.reduceToNat, Int.reduceNeg]
    rw [decide_eq_false (by omega)]
  · simp only [push_cast, reduceIte, Nat.reduceEqDiff, Nat.reduceAdd, Nat.reduceSub, Nat.reduceMul, Nat.reduceBEq, Nat.reduceLT, Nat.reduceLeDiff, reduceCtorEq, Int.reduceToNat, Int.reduceNeg]
    refine cal_sub (vblock_ok p h1 s (by omega)) (by simp only [push_cast, reduceIte, Nat.reduceEqDiff, Nat.reduceAdd, Nat.reduceSub, Nat.reduceMul, Nat.reduceBEq, Nat.reduceLT, Nat.reduceLeDiff, reduceCtorEq, Int.reduceToNat, Int.reduceNeg]) ?_
    by_cases hn : s < p.ins.length
    · rw [if_pos hn, decide_eq_false (fun h => h.1 hn)]
      simp only [push_cast, reduceIte, Nat.reduceEqDiff, Nat.reduceAdd, Nat.reduceSub, Nat.reduceMul, Nat.reduceBEq, Nat.reduceLT, Nat.reduceLeDiff, reduceCtorEq, Int.reduceToNat, Int.reduceNeg]
    · rw [if_neg hn]
      by_cases hf : (s - p.ins.length) % 2 = 1
      · rw [decide_eq_true ⟨hn, hf⟩]
        have hr := s3 (by omega) hf
        simp only [push_cast, reduceIte, Nat.reduceEqDiff, Nat.reduceAdd, Nat.reduceSub, Nat.reduceMul, Nat.reduceBEq, Nat.reduceLT, Nat.reduceLeDiff, reduceCtorEq, Int.reduceToNat, Int.reduceNeg]
        refine ⟨by omega, by omega, ?_⟩
        rw [decide_eq_true hr]
      · rw [decide_eq_false (fun h => hf h.2)]
        simp only [push_cast, reduceIte, Nat.reduceEqDiff, Nat.reduceAdd, Nat.reduceSub, Nat.reduceMul, Nat.reduceBEq, Nat.reduceLT, Nat.reduceLeDiff, reduceCtorEq, Int.reduceToNat, Int.reduceNeg]
theorem unusable_ok (p : Packed) (h1 : (p.ins.length : Int) ≤ 1000) (h2 : (p.blocks.length : Int) ≤ 1000) (s : Int) (hs : Us p s) : FnEq Try.prog 52 [.int s, .iptr false (packedC false p) 0] (.bool false) := by
  refine FnEq.of_awp Try.func52 ok52 (by show 2 ≤ _; decide) (by simp only [push_cast, reduceIte, Nat.reduceEqDiff, Nat.reduceAdd, Nat.reduceSub, Nat.reduceMul, Nat.reduceBEq, Nat.reduceLT, Nat.reduceLeDiff, reduceCtorEq, Int.reduceToNat, Int.reduceNeg] <;> first | exact fun _ _ => trivial | simp) ?_
  simp only [ac52, rv52, push_cast, reduceIte, Nat.reduceEqDiff, Nat.reduceAdd, Nat.reduceSub, Nat.reduceMul, Nat.reduceBEq, Nat.reduceLT, Nat.reduceLeDiff, reduceCtorEq, Int.reduceToNat, Int.reduceNeg]
  refine cal_sub (usable_ok p h1 h2 s hs) (by simp only [push_cast, reduceIte, Nat.reduceEqDiff, Nat.reduceAdd, Nat.reduceSub, Nat.reduceMul, Nat.reduceBEq, Nat.reduceLT, Nat.reduceLeDiff, reduceCtorEq, Int.reduceToNat, Int.reduceNeg]) ?_
  simp only [push_cast, reduceIte, Nat.reduceEqDiff, Nat.reduceAdd, Nat.reduceSub, Nat.reduceMul, Nat.reduceBEq, Nat.reduceLT, Nat.reduceLeDiff, reduceCtorEq, Int.reduceToNat, Int.reduceNeg]
  done
def Wd (lo hi : Int) (w : Wire) : Prop := lo ≤ w.kind ∧ w.kind ≤ hi ∧ 0 ≤ w.i ∧ 0 ≤ w.bit ∧ w.bit < 8
theorem wired_ok (w : Wire) (lo hi : Int) (h : Wd lo hi w) : FnEq Try.prog 57 [.agg (wireC w), .int lo, .int hi] (.bool true) := by
  obtain ⟨w1, w2, w3, w4, w5⟩ := h
  refine FnEq.of_awp Try.func57 ok57 (by show 3 ≤ _; decide) (by simp only [push_cast, reduceIte, Nat.reduceEqDiff, Nat.reduceAdd, Nat.reduceSub, Nat.reduceMul, Nat.reduceBEq, Nat.reduceLT, Nat.reduceLeDiff, reduceCtorEq, Int.reduceToNat, Int.reduceNeg] <;> first | exact fun _ _ => trivial | simp) ?_
  simp only [ac57, rv57, push_cast, reduceIte, Nat.reduceEqDiff, Nat.reduceAdd, Nat.reduceSub, Nat.reduceMul, Nat.reduceBEq, Nat.reduceLT, Nat.reduceLeDiff, reduceCtorEq, Int.reduceToNat, Int.reduceNeg]
  iterate 4 (refine grd_dec rfl (fun _ => ?_) fun h => absurd (by omega) h; simp only [push_cast, reduceIte, Nat.reduceEqDiff, Nat.reduceAdd, Nat.reduceSub, Nat.reduceMul, Nat.reduceBEq, Nat.reduceLT, Nat.reduceLeDiff, reduceCtorEq, Int.reduceToNat, Int.reduceNeg])
  rw [decide_eq_true w5]
theorem wiredIn_ok (w : Wire) (h : Wd 2 4 w) : FnEq Try.prog 56 [.agg (wireC w)] (.bool false) := by
  refine FnEq.of_awp Try.func56 ok56 (by show 1 ≤ _; decide) (by simp only [push_cast, reduceIte, Nat.reduceEqDiff, Nat.reduceAdd, Nat.reduceSub, Nat.reduceMul, Nat.reduceBEq, Nat.reduceLT, Nat.reduceLeDiff, reduceCtorEq, Int.reduceToNat, Int.reduceNeg] <;> first | exact fun _ _ => trivial | simp) ?_
  simp only [ac56, rv56, push_cast, reduceIte, Nat.reduceEqDiff, Nat.reduceAdd, Nat.reduceSub, Nat.reduceMul, Nat.reduceBEq, Nat.reduceLT, Nat.reduceLeDiff, reduceCtorEq, Int.reduceToNat, Int.reduceNeg]
  refine cal_sub (wired_ok w 2 4 h) (by simp only [push_cast, reduceIte, Nat.reduceEqDiff, Nat.reduceAdd, Nat.reduceSub, Nat.reduceMul, Nat.reduceBEq, Nat.reduceLT, Nat.reduceLeDiff, reduceCtorEq, Int.reduceToNat, Int.reduceNeg]) ?_
  simp only [push_cast, reduceIte, Nat.reduceEqDiff, Nat.reduceAdd, Nat.reduceSub, Nat.reduceMul, Nat.reduceBEq, Nat.reduceLT, Nat.reduceLeDiff, reduceCtorEq, Int.reduceToNat, Int.reduceNeg]
  done
theorem wiredOut_ok (w : Wire) (h : Wd 5 10 w) : FnEq Try.prog 58 [.agg (wireC w)] (.bool false) := by
  refine FnEq.of_awp Try.func58 ok58 (by show 1 ≤ _; decide) (by simp only [push_cast, reduceIte, Nat.reduceEqDiff, Nat.reduceAdd, Nat.reduceSub, Nat.reduceMul, Nat.reduceBEq, Nat.reduceLT, Nat.reduceLeDiff, reduceCtorEq, Int.reduceToNat, Int.reduceNeg] <;> first | exact fun _ _ => trivial | simp) ?_
  simp only [ac58, rv58, push_cast, reduceIte, Nat.reduceEqDiff, Nat.reduceAdd, Nat.reduceSub, Nat.reduceMul, Nat.reduceBEq, Nat.reduceLT, Nat.reduceLeDiff, reduceCtorEq, Int.reduceToNat, Int.reduceNeg]
  refine cal_sub (wired_ok w 5 10 h) (by simp only [push_cast, reduceIte, Nat.reduceEqDiff, Nat.reduceAdd, Nat.reduceSub, Nat.reduceMul, Nat.reduceBEq, Nat.reduceLT, Nat.reduceLeDiff, reduceCtorEq, Int.reduceToNat, Int.reduceNeg]) ?_
  simp only [push_cast, reduceIte, Nat.reduceEqDiff, Nat.reduceAdd, Nat.reduceSub, Nat.reduceMul, Nat.reduceBEq, Nat.reduceLT, Nat.reduceLeDiff, reduceCtorEq, Int.reduceToNat, Int.reduceNeg]
  done
theorem indexWire_ok (l : List Wire) (f : Nat) (hf : funOk Try.prog f = true) (hp : ∀ x ∈ l, FnEq Try.prog f [.agg (wireC x)] (.bool false)) (hl : (l.length : Int) ≤ 1000000) :
    FnEq Try.prog 79 [.sl false 3 (rows wireC l), .sc (.func (.func f) #[] #[])] (.int (-1)) := by
  refine FnEq.of_awp Try.func79 ok79 (by show 2 ≤ _; decide) (by simp only [push_cast, reduceIte, Nat.reduceEqDiff, Nat.reduceAdd, Nat.reduceSub, Nat.reduceMul, Nat.reduceBEq, Nat.reduceLT, Nat.reduceLeDiff, reduceCtorEq, Int.reduceToNat, Int.reduceNeg] <;> first | exact fun _ _ => trivial | simp) ?_
  simp only [ac79, rv79, push_cast, reduceIte, Nat.reduceEqDiff, Nat.reduceAdd, Nat.reduceSub, Nat.reduceMul, Nat.reduceBEq, Nat.reduceLT, Nat.reduceLeDiff, reduceCtorEq, Int.reduceToNat, Int.reduceNeg]
  refine loop_of (fun m st => ∃ k : Nat, k ≤ l.length ∧ m = l.length - k ∧ st = ⟨[(0, .sl false 3 (rows wireC l)), (1, .sc (.func (.func f) #[] #[])), (7, .int l.length), (8, .int k)], [], [], []⟩) l.length ?_ ?_
  · refine ⟨0, by omega, by omega, ?_⟩
    simp only [push_cast, reduceIte, Nat.reduceEqDiff, Nat.reduceAdd, Nat.reduceSub, Nat.reduceMul, Nat.reduceBEq, Nat.reduceLT, Nat.reduceLeDiff, reduceCtorEq, Int.reduceToNat, Int.reduceNeg]
  · rintro m st ⟨k, hk, rfl, rfl⟩
    simp only [push_cast, reduceIte, Nat.reduceEqDiff, Nat.reduceAdd, Nat.reduceSub, Nat.reduceMul, Nat.reduceBEq, Nat.reduceLT, Nat.reduceLeDiff, reduceCtorEq, Int.reduceToNat, Int.reduceNeg]
    refine cond_dec (fun h => ?_) fun h => ?_
    · have hk' : k < l.length := by omega
      refine ⟨by omega, hk', ?_⟩
      have hw := hp (l.getD k default) (by simp [List.getD_eq_getElem?_getD, hk'])
      refine clm_eq (FnM.of_ok hf hw fun r hr => ⟨hr, rfl⟩) ?_
      simp only [push_cast, reduceIte, Nat.reduceEqDiff, Nat.reduceAdd, Nat.reduceSub, Nat.reduceMul, Nat.reduceBEq, Nat.reduceLT, Nat.reduceLeDiff, reduceCtorEq, Int.reduceToNat, Int.reduceNeg]
      refine ⟨by omega, _, ?_, k + 1, by omega, rfl, ?_⟩
      · omega
      · simp
    · trivial
theorem containsWire_ok (l : List Wire) (f : Nat) (hf : funOk Try.prog f = true) (hp : ∀ x ∈ l, FnEq Try.prog f [.agg (wireC x)] (.bool false)) (hl : (l.length : Int) ≤ 1000000) :
    FnEq Try.prog 55 [.sl false 3 (rows wireC l), .sc (.func (.func f) #[] #[])] (.bool false) := by
  refine FnEq.of_awp Try.func55 ok55 (by show 2 ≤ _; decide) (by simp only [push_cast, reduceIte, Nat.reduceEqDiff, Nat.reduceAdd, Nat.reduceSub, Nat.reduceMul, Nat.reduceBEq, Nat.reduceLT, Nat.reduceLeDiff, reduceCtorEq, Int.reduceToNat, Int.reduceNeg] <;> first | exact fun _ _ => trivial | simp) ?_
  simp only [ac55, rv55, push_cast, reduceIte, Nat.reduceEqDiff, Nat.reduceAdd, Nat.reduceSub, Nat.reduceMul, Nat.reduceBEq, Nat.reduceLT, Nat.reduceLeDiff, reduceCtorEq, Int.reduceToNat, Int.reduceNeg]
  refine cal_sub (indexWire_ok l f hf hp hl) (by simp only [push_cast, reduceIte, Nat.reduceEqDiff, Nat.reduceAdd, Nat.reduceSub, Nat.reduceMul, Nat.reduceBEq, Nat.reduceLT, Nat.reduceLeDiff, reduceCtorEq, Int.reduceToNat, Int.reduceNeg]) ?_
  simp only [push_cast, reduceIte, Nat.reduceEqDiff, Nat.reduceAdd, Nat.reduceSub, Nat.reduceMul, Nat.reduceBEq, Nat.reduceLT, Nat.reduceLeDiff, reduceCtorEq, Int.reduceToNat, Int.reduceNeg]
  rfl
theorem within_ok (n lo hi : Int) (h : lo ≤ n ∧ n ≤ hi) : FnEq Try.prog 80 [.int n, .int lo, .int hi] (.bool true) := by
  refine FnEq.of_awp Try.func80 ok80 (by show 3 ≤ _; decide) (by simp only [push_cast, reduceIte, Nat.reduceEqDiff, Nat.reduceAdd, Nat.reduceSub, Nat.reduceMul, Nat.reduceBEq, Nat.reduceLT, Nat.reduceLeDiff, reduceCtorEq, Int.reduceToNat, Int.reduceNeg] <;> first | exact fun _ _ => trivial | simp) ?_
  simp only [ac80, rv80, push_cast, reduceIte, Nat.reduceEqDiff, Nat.reduceAdd, Nat.reduceSub, Nat.reduceMul, Nat.reduceBEq, Nat.reduceLT, Nat.reduceLeDiff, reduceCtorEq, Int.reduceToNat, Int.reduceNeg]
  refine grd_dec rfl (fun _ => ?_) fun h2 => absurd h.1 h2
  simp only [push_cast, reduceIte, Nat.reduceEqDiff, Nat.reduceAdd, Nat.reduceSub, Nat.reduceMul, Nat.reduceBEq, Nat.reduceLT, Nat.reduceLeDiff, reduceCtorEq, Int.reduceToNat, Int.reduceNeg]
  rw [decide_eq_true h.2]
structure Fmd (b : Block) : Prop where
  nin : b.ins.length ≤ 4
  ram : -1 ≤ b.ram ∧ b.ram ≤ 63
  reg : -1 ≤ b.reg ∧ b.reg ≤ 255
  table : 0 ≤ b.table ∧ b.table < shfF .shl .i64 1 (shfF .shl .u64 1 b.ins.length)
  rd : b.ram < 0 ∨ (b.reg < 0 ∧ b.ins.length ≤ 3 ∧ b.table = 0)
theorem tab_bd {k : Nat} (h : k ≤ 4) : shfF .shl .i64 1 (shfF .shl .u64 1 k) ≤ 65536 := by
  have : k = 0 ∨ k = 1 ∨ k = 2 ∨ k = 3 ∨ k = 4 := by omega
  rcases this with rfl | rfl | rfl | rfl | rfl <;> decide
theorem formed_ok (b : Block) (h : Fmd b) : FnEq Try.prog 59 [.agg (blockC false b)] (.bool true) := by
  obtain ⟨h1, h2, h3, h4, h5⟩ := h
  have hsh := shl_ok h1
  have htb := tab_bd h1
  refine FnEq.of_awp Try.func59 ok59 (by show 1 ≤ _; decide) (by simp only [push_cast, reduceIte, Nat.reduceEqDiff, Nat.reduceAdd, Nat.reduceSub, Nat.reduceMul, Nat.reduceBEq, Nat.reduceLT, Nat.reduceLeDiff, reduceCtorEq, Int.reduceToNat, Int.reduceNeg] <;> first | exact fun _ _ => trivial | simp) ?_
  simp only [ac59, rv59, push_cast, reduceIte, Nat.reduceEqDiff, Nat.reduceAdd, Nat.reduceSub, Nat.reduceMul, Nat.reduceBEq, Nat.reduceLT, Nat.reduceLeDiff, reduceCtorEq, Int.reduceToNat, Int.reduceNeg]
  generalize hk : b.ins.length = k at h1 h4 h5 hsh htb ⊢
  refine grd_decf rfl (fun h => absurd h (by omega)) fun _ => ?_
  simp only [push_cast, reduceIte, Nat.reduceEqDiff, Nat.reduceAdd, Nat.reduceSub, Nat.reduceMul, Nat.reduceBEq, Nat.reduceLT, Nat.reduceLeDiff, reduceCtorEq, Int.reduceToNat, Int.reduceNeg]
  refine cal_sub (within_ok b.ram (-1) 63 h2) (by simp only [push_cast, reduceIte, Nat.reduceEqDiff, Nat.reduceAdd, Nat.reduceSub, Nat.reduceMul, Nat.reduceBEq, Nat.reduceLT, Nat.reduceLeDiff, reduceCtorEq, Int.reduceToNat, Int.reduceNeg]) ?_
  simp only [push_cast, reduceIte, Nat.reduceEqDiff, Nat.reduceAdd, Nat.reduceSub, Nat.reduceMul, Nat.reduceBEq, Nat.reduceLT, Nat.reduceLeDiff, reduceCtorEq, Int.reduceToNat, Int.reduceNeg]
  refine cal_sub (within_ok b.reg (-1) 255 h3) (by simp only [push_cast, reduceIte, Nat.reduceEqDiff, Nat.reduceAdd, Nat.reduceSub, Nat.reduceMul, Nat.reduceBEq, Nat.reduceLT, Nat.reduceLeDiff, reduceCtorEq, Int.reduceToNat, Int.reduceNeg]) ?_
  simp only [push_cast, reduceIte, Nat.reduceEqDiff, Nat.reduceAdd, Nat.reduceSub, Nat.reduceMul, Nat.reduceBEq, Nat.reduceLT, Nat.reduceLeDiff, reduceCtorEq, Int.reduceToNat, Int.reduceNeg]
  refine ⟨by omega, hsh.1, by omega, ?_⟩
  refine cal_sub (within_ok b.table 0 (shfF .shl .i64 1 (shfF .shl .u64 1 k) - 1) ⟨h4.1, by omega⟩) (by simp only [push_cast, reduceIte, Nat.reduceEqDiff, Nat.reduceAdd, Nat.reduceSub, Nat.reduceMul, Nat.reduceBEq, Nat.reduceLT, Nat.reduceLeDiff, reduceCtorEq, Int.reduceToNat, Int.reduceNeg]) ?_
  simp only [push_cast, reduceIte, Nat.reduceEqDiff, Nat.reduceAdd, Nat.reduceSub, Nat.reduceMul, Nat.reduceBEq, Nat.reduceLT, Nat.reduceLeDiff, reduceCtorEq, Int.reduceToNat, Int.reduceNeg]
  refine grd_decf rfl (fun _ => ?_) fun h6 => ?_
  · simp only [push_cast, reduceIte, Nat.reduceEqDiff, Nat.reduceAdd, Nat.reduceSub, Nat.reduceMul, Nat.reduceBEq, Nat.reduceLT, Nat.reduceLeDiff, reduceCtorEq, Int.reduceToNat, Int.reduceNeg]
    done
  · obtain ⟨r1, r2, r3⟩ := h5.resolve_left h6
    simp only [push_cast, reduceIte, Nat.reduceEqDiff, Nat.reduceAdd, Nat.reduceSub, Nat.reduceMul, Nat.reduceBEq, Nat.reduceLT, Nat.reduceLeDiff, reduceCtorEq, Int.reduceToNat, Int.reduceNeg]
    refine grd_dec rfl (fun _ => ?_) fun h7 => absurd r1 h7
    simp only [push_cast, reduceIte, Nat.reduceEqDiff, Nat.reduceAdd, Nat.reduceSub, Nat.reduceMul, Nat.reduceBEq, Nat.reduceLT, Nat.reduceLeDiff, reduceCtorEq, Int.reduceToNat, Int.reduceNeg]
    refine grd_dec rfl (fun _ => ?_) fun h7 => absurd (by omega) h7
    simp only [push_cast, reduceIte, Nat.reduceEqDiff, Nat.reduceAdd, Nat.reduceSub, Nat.reduceMul, Nat.reduceBEq, Nat.reduceLT, Nat.reduceLeDiff, reduceCtorEq, Int.reduceToNat, Int.reduceNeg]
    rw [decide_eq_true r3]
end Go.Proofs.Ytbdamnfkgdbidaa
namespace Go.Proofs.Ytbdamnfkgdbidaa
open Go Go.Vc Txt
def rput : List Int → Int → List Int
  | [], x => [x]
  | k :: r, x => if k = x then k :: r else k :: rput r x
def regC (x : Int) : Value × PV := (.int .i64 x, .bool true)
def regsC (l : List Int) : List (Value × PV) := l.map regC
theorem mget_reg (l : List Int) (s : Int) : mget (regsC l) (.int .i64 s) = if s ∈ l then some (.bool true) else none := by
  induction l with
  | nil => simp [regsC, mget]
  | cons k r ih =>
    simp only [regsC, List.map_cons, regC, mget, vEq_int, decide_eq_true_eq] at ih ⊢
    by_cases h : k = s
    · subst h; simp
    · rw [if_neg h, ih]
      have : s ≠ k := fun e => h e.symm
      simp [this]
theorem mput_reg (l : List Int) (s : Int) : mput (regsC l) (.int .i64 s) (.bool true) = regsC (rput l s) := by
  induction l with
  | nil => rfl
  | cons k r ih =>
    simp only [regsC, List.map_cons, regC, mput, rput, vEq_int, decide_eq_true_eq] at ih ⊢
    split
    · rfl
    · simp only [List.map_cons, regC]; exact congrArg _ ih
theorem mem_rput {l : List Int} {s x : Int} : x ∈ rput l s ↔ x ∈ l ∨ x = s := by
  induction l with
  | nil => simp [rput]
  | cons k r ih =>
    simp only [rput]
    split
    · rename_i h
      subst h
      simp only [List.mem_cons]
      constructor
      · exact .inl
      · rintro (h | h)
        · exact h
        · exact .inl h
    · simp only [List.mem_cons, ih, or_assoc]
theorem rput_len (l : List Int) (s : Int) : (rput l s).length ≤ l.length + 1 := by
  induction l with
  | nil => simp [rput]
  | cons k r ih =>
    simp only [rput]
    split
    · simp
    · simp only [List.length_cons]; omega
structure PValid (p : Packed) (rank : Nat → Nat) : Prop where
  ni : (p.ins.length : Int) ≤ 600
  nb : (p.blocks.length : Int) ≤ 600
  nd : (p.drive.length : Int) ≤ 600
  od : p.drive.length = p.out.length
  us : ∀ s ∈ p.drive, Us p s
  wi : ∀ w ∈ p.ins, Wd 2 4 w
  wo : ∀ w ∈ p.out, Wd 5 10 w
  fmd : ∀ b ∈ p.blocks, Fmd b
  ub : ∀ b ∈ p.blocks, ∀ s ∈ b.ins, Us p s
  rg : ∀ i k : Nat, i < p.blocks.length → k < p.blocks.length → (p.blocks.getD i default).reg = (p.blocks.getD k default).reg → 0 ≤ (p.blocks.getD i default).reg → i = k
  ac : Acyc p rank
set_option maxHeartbeats 2000000 in
theorem valid_ok (p : Packed) (rank : Nat → Nat) (hv : PValid p rank) : FnEq Try.prog 34 [.agg (packedC false p)] (.bool true) := by
  obtain ⟨v1, v2, v3, v4, v5, v6, v7, v8, v9, v10, v11⟩ := hv
  have huf : funOk Try.prog 52 = true := by kernel_rfl
  have hany : ∀ l : List Int, l.any (fun _ => false) = false := fun l => by simp
  have hcd : FnEq Try.prog 54 [.sl false 1 (ints p.drive), .pcl 52 [.iptr false (packedC false p) 0]] (.bool false) := by
    have := containsFunc_ok p.drive (fun _ => false) 52 [.iptr false (packedC false p) 0] huf (fun x hx => unusable_ok p (by omega) (by omega) x (v5 x hx)) (by omega)
    rwa [hany] at this
  refine FnEq.of_awp Try.func34 ok34 (by show 1 ≤ _; decide) (by simp only [push_cast, reduceIte, Nat.reduceEqDiff, Nat.reduceAdd, Nat.reduceSub, Nat.reduceMul, Nat.reduceBEq, Nat.reduceLT, Nat.reduceLeDiff, reduceCtorEq, Int.reduceToNat, Int.reduceNeg] <;> first | exact fun _ _ => trivial | simp) ?_
  simp only [ac34, rv34, push_cast, reduceIte, Nat.reduceEqDiff, Nat.reduceAdd, Nat.reduceSub, Nat.reduceMul, Nat.reduceBEq, Nat.reduceLT, Nat.reduceLeDiff, reduceCtorEq, Int.reduceToNat, Int.reduceNeg]
  refine cut_of ⟨[(1, .ptr 1 0), (3, .ptr 3 0), (4, .clo 52 [3]), (29, .bool false)], [(1, packedC false p), (3, packedC false p)], [], []⟩ ?_ ?_
  · refine grd_decf rfl (fun h => absurd h (by omega)) fun _ => ?_
    simp only [push_cast, reduceIte, Nat.reduceEqDiff, Nat.reduceAdd, Nat.reduceSub, Nat.reduceMul, Nat.reduceBEq, Nat.reduceLT, Nat.reduceLeDiff, reduceCtorEq, Int.reduceToNat, Int.reduceNeg]
    refine grd_decf rfl (fun h => absurd h (by omega)) fun _ => ?_
    simp only [push_cast, reduceIte, Nat.reduceEqDiff, Nat.reduceAdd, Nat.reduceSub, Nat.reduceMul, Nat.reduceBEq, Nat.reduceLT, Nat.reduceLeDiff, reduceCtorEq, Int.reduceToNat, Int.reduceNeg]
    refine cal_sub hcd (by simp only [push_cast, reduceIte, Nat.reduceEqDiff, Nat.reduceAdd, Nat.reduceSub, Nat.reduceMul, Nat.reduceBEq, Nat.reduceLT, Nat.reduceLeDiff, reduceCtorEq, Int.reduceToNat, Int.reduceNeg]) ?_
    simp only [push_cast, reduceIte, Nat.reduceEqDiff, Nat.reduceAdd, Nat.reduceSub, Nat.reduceMul, Nat.reduceBEq, Nat.reduceLT, Nat.reduceLeDiff, reduceCtorEq, Int.reduceToNat, Int.reduceNeg]
  · simp only [push_cast, reduceIte, Nat.reduceEqDiff, Nat.reduceAdd, Nat.reduceSub, Nat.reduceMul, Nat.reduceBEq, Nat.reduceLT, Nat.reduceLeDiff, reduceCtorEq, Int.reduceToNat, Int.reduceNeg]
    refine cal_sub (containsWire_ok p.ins 56 (by kernel_rfl) (fun x hx => wiredIn_ok x (v6 x hx)) (by omega)) (by simp only [push_cast, reduceIte, Nat.reduceEqDiff, Nat.reduceAdd, Nat.reduceSub, Nat.reduceMul, Nat.reduceBEq, Nat.reduceLT, Nat.reduceLeDiff, reduceCtorEq, Int.reduceToNat, Int.reduceNeg]) ?_
    simp only [push_cast, reduceIte, Nat.reduceEqDiff, Nat.reduceAdd, Nat.reduceSub, Nat.reduceMul, Nat.reduceBEq, Nat.reduceLT, Nat.reduceLeDiff, reduceCtorEq, Int.reduceToNat, Int.reduceNeg]
    refine cal_sub (containsWire_ok p.out 58 (by kernel_rfl) (fun x hx => wiredOut_ok x (v7 x hx)) (by omega)) (by simp only [push_cast, reduceIte, Nat.reduceEqDiff, Nat.reduceAdd, Nat.reduceSub, Nat.reduceMul, Nat.reduceBEq, Nat.reduceLT, Nat.reduceLeDiff, reduceCtorEq, Int.reduceToNat, Int.reduceNeg]) ?_
    simp only [push_cast, reduceIte, Nat.reduceEqDiff, Nat.reduceAdd, Nat.reduceSub, Nat.reduceMul, Nat.reduceBEq, Nat.reduceLT, Nat.reduceLeDiff, reduceCtorEq, Int.reduceToNat, Int.reduceNeg]
    refine loop_of (fun m st => ∃ (i : Nat) (L : List Int), i ≤ p.blocks.length ∧ m = p.blocks.length - i ∧ L.length ≤ i ∧ (∀ x ∈ L, ∃ k : Nat, k < i ∧ x = (p.blocks.getD k default).reg) ∧
      st = ⟨[(3, .ptr 3 0), (4, .clo 52 [3]), (5, .mp 38), (40, .sl false 5 (rows (blockC false) p.blocks)), (41, .int p.blocks.length), (42, .int i)], [(3, packedC false p)], [], [(38, ⟨.int .i64, regsC L, none⟩)]⟩) p.blocks.length ?_ ?_
    · refine ⟨0, [], by omega, by omega, by simp, fun x hx => (by cases hx), ?_⟩
      simp only [push_cast, reduceIte, Nat.reduceEqDiff, Nat.reduceAdd, Nat.reduceSub, Nat.reduceMul, Nat.reduceBEq, Nat.reduceLT, Nat.reduceLeDiff, reduceCtorEq, Int.reduceToNat, Int.reduceNeg]
      rfl
    · rintro m st ⟨i, L, hi, rfl, hLl, hLr, rfl⟩
      simp only [push_cast, reduceIte, Nat.reduceEqDiff, Nat.reduceAdd, Nat.reduceSub, Nat.reduceMul, Nat.reduceBEq, Nat.reduceLT, Nat.reduceLeDiff, reduceCtorEq, Int.reduceToNat, Int.reduceNeg]
      refine cond_dec (fun h => ?_) fun h => ?_
      · have hi' : i < p.blocks.length := by omega
        obtain ⟨b, hb⟩ : ∃ b, p.blocks.getD i default = b := ⟨_, rfl⟩
        have hbm : b ∈ p.blocks := by rw [← hb]; simp [List.getD_eq_getElem?_getD, hi']
        have hcb : FnEq Try.prog 54 [.sl false 1 (ints b.ins), .pcl 52 [.iptr false (packedC false p) 0]] (.bool false) := by
          have := containsFunc_ok b.ins (fun _ => false) 52 [.iptr false (packedC false p) 0] huf (fun x hx => unusable_ok p (by omega) (by omega) x (v9 b hbm x hx)) (by have := (v8 b hbm).nin; omega)
          rwa [hany] at this
        have hrg : 0 ≤ b.reg → b.reg ∉ L := fun h0 hm => by
          obtain ⟨k, hk, e⟩ := hLr _ hm
          have := v10 i k hi' (by omega) (by rw [hb]; exact e) (by rw [hb]; exact h0)
          omega
        simp only [hb]
        refine ⟨by omega, hi', ?_⟩
        refine cal_sub (formed_ok b (v8 b hbm)) (by simp only [push_cast, reduceIte, Nat.reduceEqDiff, Nat.reduceAdd, Nat.reduceSub, Nat.reduceMul, Nat.reduceBEq, Nat.reduceLT, Nat.reduceLeDiff, reduceCtorEq, Int.reduceToNat, Int.reduceNeg]) ?_
        simp only [push_cast, reduceIte, Nat.reduceEqDiff, Nat.reduceAdd, Nat.reduceSub, Nat.reduceMul, Nat.reduceBEq, Nat.reduceLT, Nat.reduceLeDiff, reduceCtorEq, Int.reduceToNat, Int.reduceNeg]
        refine cal_sub hcb (by simp only [push_cast, reduceIte, Nat.reduceEqDiff, Nat.reduceAdd, Nat.reduceSub, Nat.reduceMul, Nat.reduceBEq, Nat.reduceLT, Nat.reduceLeDiff, reduceCtorEq, Int.reduceToNat, Int.reduceNeg]) ?_
        simp only [push_cast, reduceIte, Nat.reduceEqDiff, Nat.reduceAdd, Nat.reduceSub, Nat.reduceMul, Nat.reduceBEq, Nat.reduceLT, Nat.reduceLeDiff, reduceCtorEq, Int.reduceToNat, Int.reduceNeg]
        refine cut_of ⟨[(3, .ptr 3 0), (4, .clo 52 [3]), (5, .mp 38), (7, .ptr 7 0), (40, .sl false 5 (rows (blockC false) p.blocks)), (41, .int p.blocks.length), (42, .int i), (65, .bool false)], [(3, packedC false p), (7, blockC false b)], [], [(38, ⟨.int .i64, regsC L, none⟩)]⟩ ?_ ?_
        · refine grd_dec rfl (fun h3 => ?_) fun h3 => ?_ <;> simp only [push_cast, reduceIte, Nat.reduceEqDiff, Nat.reduceAdd, Nat.reduceSub, Nat.reduceMul, Nat.reduceBEq, Nat.reduceLT, Nat.reduceLeDiff, reduceCtorEq, Int.reduceToNat, Int.reduceNeg]
          · rw [mget_reg, if_neg (hrg h3)]
            rfl
        · simp only [push_cast, reduceIte, Nat.reduceEqDiff, Nat.reduceAdd, Nat.reduceSub, Nat.reduceMul, Nat.reduceBEq, Nat.reduceLT, Nat.reduceLeDiff, reduceCtorEq, Int.reduceToNat, Int.reduceNeg]
          rw [mput_reg]
          have hrl := rput_len L b.reg
          refine ⟨by omega, _, ?_, i + 1, rput L b.reg, by omega, rfl, by omega, fun x hx => ?_, ?_⟩
          · omega
          · rcases mem_rput.1 hx with hx | rfl
            · obtain ⟨k, hk, e⟩ := hLr x hx
              exact ⟨k, by omega, e⟩
            · exact ⟨i, by omega, by rw [hb]⟩
          · simp
      · refine cal_sub (walk_ok p (by omega) (by omega) (fun b hb => by have := (v8 b hb).nin; omega) (fun b hb s hs => (v9 b hb s hs).1) rank v11) (by simp only [push_cast, reduceIte, Nat.reduceEqDiff, Nat.reduceAdd, Nat.reduceSub, Nat.reduceMul, Nat.reduceBEq, Nat.reduceLT, Nat.reduceLeDiff, reduceCtorEq, Int.reduceToNat, Int.reduceNeg]) ?_
        simp only [push_cast, reduceIte, Nat.reduceEqDiff, Nat.reduceAdd, Nat.reduceSub, Nat.reduceMul, Nat.reduceBEq, Nat.reduceLT, Nat.reduceLeDiff, reduceCtorEq, Int.reduceToNat, Int.reduceNeg]
        done
end Go.Proofs.Ytbdamnfkgdbidaa
namespace Go.Proofs.Ytbdamnfkgdbidaa
open Go Go.Vc Txt
theorem sum_perm {f : Int → Int} {l m : List Int} (h : l.Perm m) : (l.map f).sum = (m.map f).sum := by
  induction h with
  | nil => rfl
  | cons x _ ih => simp only [List.map_cons, List.sum_cons, ih]
  | swap x y l => simp only [List.map_cons, List.sum_cons]; omega
  | trans _ _ ih1 ih2 => exact ih1.trans ih2
def upto (n : Nat) : List Int := (List.range n).map Int.ofNat
theorem upto_nodup (n : Nat) : (upto n).Nodup := ofNat_nodup n
theorem mem_upto {n : Nat} {x : Int} : x ∈ upto n ↔ 0 ≤ x ∧ x < n := by
  unfold upto
  constructor
  · intro h
    obtain ⟨y, hy, rfl⟩ := List.mem_map.1 h
    have := List.mem_range.1 hy
    show (0 : Int) ≤ (y : Int) ∧ (y : Int) < n
    omega
  · intro h
    exact List.mem_map.2 ⟨x.toNat, List.mem_range.2 (by omega), by show ((x.toNat : Nat) : Int) = x; omega⟩
theorem sumF_list (f : Int → Int) : ∀ n : Nat, sumF f n = ((upto n).map f).sum
  | 0 => rfl
  | n + 1 => by
    rw [sumF, sumF_list f n]
    simp [upto, List.range_succ]
theorem map_nodup {f : Int → Int} : ∀ {l : List Int}, l.Nodup → (∀ x ∈ l, ∀ y ∈ l, f x = f y → x = y) → (l.map f).Nodup
  | [], _, _ => List.nodup_nil
  | a :: l, h, hf => by
    rw [List.nodup_cons] at h
    rw [List.map_cons, List.nodup_cons]
    refine ⟨fun hm => ?_, map_nodup h.2 fun x hx y hy => hf x (List.mem_cons_of_mem _ hx) y (List.mem_cons_of_mem _ hy)⟩
    obtain ⟨y, hy, e⟩ := List.mem_map.1 hm
    exact h.1 (hf y (List.mem_cons_of_mem _ hy) a List.mem_cons_self e ▸ hy)
theorem upto_perm {e : Int → Int} {n : Nat} (hr : ∀ x : Int, 0 ≤ x ∧ x < n → 0 ≤ e x ∧ e x < n) (hi : ∀ x y : Int, 0 ≤ x ∧ x < n → 0 ≤ y ∧ y < n → e x = e y → x = y) : ((upto n).map e).Perm (upto n) := by
  have hnd : ((upto n).map e).Nodup := map_nodup (upto_nodup n) fun x hx y hy => hi x y (mem_upto.1 hx) (mem_upto.1 hy)
  refine (List.perm_ext_iff_of_nodup hnd (upto_nodup n)).2 fun a => ⟨fun h => ?_, fun h => ?_⟩
  · obtain ⟨y, hy, rfl⟩ := List.mem_map.1 h
    exact mem_upto.2 (hr y (mem_upto.1 hy))
  · apply Classical.byContradiction
    intro hn
    have := nodup_sub (l := a :: (upto n).map e) (m := upto n) (List.nodup_cons.2 ⟨hn, hnd⟩) fun x hx => by
      rcases List.mem_cons.1 hx with rfl | hx
      · exact h
      · obtain ⟨y, hy, rfl⟩ := List.mem_map.1 hx
        exact mem_upto.2 (hr y (mem_upto.1 hy))
    rw [List.length_cons, List.length_map] at this
    omega
theorem sumF_perm {f e : Int → Int} {n : Nat} (hr : ∀ x : Int, 0 ≤ x ∧ x < n → 0 ≤ e x ∧ e x < n) (hi : ∀ x y : Int, 0 ≤ x ∧ x < n → 0 ≤ y ∧ y < n → e x = e y → x = y) : sumF (fun s => f (e s)) n = sumF f n := by
  rw [sumF_list, sumF_list f, ← sum_perm (f := f) (upto_perm hr hi), List.map_map]
  rfl
theorem IsPerm.at_ {nums : List Int} {n : Nat} (h : IsPerm nums n) {i : Nat} (hi : i < n) : ∃ t : Nat, t < n ∧ nums.getD i default = t := by
  have := h.rng (nums.getD i default) (by rw [List.getD_eq_getElem?_getD, List.getElem?_eq_getElem (by rw [h.len]; exact hi)]; exact List.getElem_mem _)
  exact ⟨(nums.getD i default).toNat, by omega, by omega⟩
theorem IsPerm.inj {nums : List Int} {n : Nat} (h : IsPerm nums n) {i k : Nat} (hi : i < n) (hk : k < n) (e : nums.getD i default = nums.getD k default) : i = k := by
  rw [← h.len] at hi hk
  refine nodup_inj h.nodup hi hk ?_
  simpa [List.getD_eq_getElem?_getD, hi, hk] using e
theorem renF_cases {n : Nat} {nums : List Int} {c : Nat} (h : IsPerm nums c) {s : Int} (hs : 0 ≤ s ∧ s < n + 2 * c) :
    (s < n ∧ renF n nums s = s) ∨ ∃ i t : Nat, i < c ∧ t < c ∧ nums.getD i default = t ∧ (s - n) / 2 = i ∧ n ≤ s ∧ renF n nums s = n + 2 * t + (s - n) % 2 := by
  unfold renF
  by_cases h1 : s < n
  · exact .inl ⟨h1, if_pos h1⟩
  · rw [if_neg h1]
    obtain ⟨i, hi⟩ : ∃ i : Nat, (s - n) / 2 = i := ⟨((s - n) / 2).toNat, by omega⟩
    obtain ⟨t, ht, e⟩ := h.at_ (show i < c by omega)
    refine .inr ⟨i, t, by omega, ht, e, hi, by omega, ?_⟩
    rw [hi, Int.toNat_natCast, e]
theorem renF_rng {n : Nat} {nums : List Int} {c : Nat} (h : IsPerm nums c) {s : Int} (hs : 0 ≤ s ∧ s < n + 2 * c) : 0 ≤ renF n nums s ∧ renF n nums s < n + 2 * c := by
  rcases renF_cases h hs with ⟨h1, h2⟩ | ⟨i, t, h1, h2, h3, h4, h5, h6⟩ <;> omega
theorem renF_inj {n : Nat} {nums : List Int} {c : Nat} (h : IsPerm nums c) {s r : Int} (hs : 0 ≤ s ∧ s < n + 2 * c) (hr : 0 ≤ r ∧ r < n + 2 * c) (e : renF n nums s = renF n nums r) : s = r := by
  rcases renF_cases h hs with ⟨h1, h2⟩ | ⟨i, t, h1, h2, h3, h4, h5, h6⟩
  · rcases renF_cases h hr with ⟨k1, k2⟩ | ⟨i', t', k1, k2, k3, k4, k5, k6⟩ <;> omega
  · rcases renF_cases h hr with ⟨k1, k2⟩ | ⟨i', t', k1, k2, k3, k4, k5, k6⟩
    · omega
    · have ht : t = t' := by omega
      subst ht
      have := h.inj h1 k1 (h3.trans k3.symm)
      omega
theorem mem_sinkBx {j : Job} {a : List Int} {s : Int} {p : Int × Int} : ∀ k, p ∈ sinkB j a s k ↔ ∃ i : Nat, i < k ∧ s ∈ (j.p.blocks.getD i default).ins ∧ p = spotF j (a.getD i default)
  | 0 => ⟨fun h => (by cases h), fun ⟨i, h, _⟩ => absurd h (Nat.not_lt_zero i)⟩
  | k + 1 => by
    rw [sinkB, List.mem_append, mem_sinkBx k]
    constructor
    · rintro (⟨i, h1, h2⟩ | h)
      · exact ⟨i, by omega, h2⟩
      · split at h
        · rename_i hm
          exact ⟨k, by omega, hm, List.mem_singleton.1 h⟩
        · cases h
    · rintro ⟨i, h1, h2, h3⟩
      by_cases e : i = k
      · subst e
        rw [if_pos h2]
        exact .inr (List.mem_singleton.2 h3)
      · exact .inl ⟨i, by omega, h2, h3⟩
theorem mem_sinkDx {j : Job} {s : Int} {p : Int × Int} : ∀ k, p ∈ sinkD j s k ↔ ∃ o : Nat, o < k ∧ j.p.drive.getD o default = s ∧ p = (j.g.w, (o : Int) % j.g.h)
  | 0 => ⟨fun h => (by cases h), fun ⟨i, h, _⟩ => absurd h (Nat.not_lt_zero i)⟩
  | k + 1 => by
    rw [sinkD, List.mem_append, mem_sinkDx k]
    constructor
    · rintro (⟨i, h1, h2⟩ | h)
      · exact ⟨i, by omega, h2⟩
      · split at h
        · rename_i hm
          exact ⟨k, by omega, hm, List.mem_singleton.1 h⟩
        · cases h
    · rintro ⟨i, h1, h2, h3⟩
      by_cases e : i = k
      · subst e
        rw [if_pos h2]
        exact .inr (List.mem_singleton.2 h3)
      · exact .inl ⟨i, by omega, h2, h3⟩
theorem bb_list {l : List (Int × Int)} (h0 : 0 < l.length) : BB ⟨(loF l l.length).1, (loF l l.length).2, (hiF l l.length).1, (hiF l l.length).2⟩ fun p => p ∈ l := by
  refine (lo_bb h0 _ (Nat.le_refl _)).iff fun p => ?_
  rw [List.take_length]
  refine ⟨fun h => h.elim (fun h => ?_) fun h => h, .inr⟩
  rw [h, List.getD_eq_getElem?_getD, List.getElem?_eq_getElem h0]
  exact List.getElem_mem h0
theorem lengthF_mem {l m : List (Int × Int)} (h : ∀ p, p ∈ l ↔ p ∈ m) : lengthF l = lengthF m := by
  by_cases h0 : l = []
  · have : m = [] := List.eq_nil_iff_forall_not_mem.2 fun p hp => by rw [← h, h0] at hp; cases hp
    rw [h0, this]
  · have h1 : m ≠ [] := fun e => h0 (List.eq_nil_iff_forall_not_mem.2 fun p hp => by rw [h, e] at hp; cases hp)
    have l0 : 0 < l.length := List.length_pos_iff.2 h0
    have l1 : 0 < m.length := List.length_pos_iff.2 h1
    rw [lengthF, lengthF, if_neg (by omega), if_neg (by omega)]
    exact (bb_list l0).len (bb_list l1) h
structure MovedAt (nums a b : List Int) (c : Nat) : Prop where
  la : a.length = c
  lb : b.length = c
  at_ : ∀ i : Nat, i < c → b.getD (nums.getD i default).toNat default = a.getD i default
section
variable {j : Job} {q : Packed} {nums a b : List Int}
theorem moved_src (hn : IsPerm nums j.p.blocks.length) (hm : Moved j.p nums q) (hb : MovedAt nums a b j.p.blocks.length) {s : Int} (hs : 0 ≤ s ∧ s < j.p.ins.length + 2 * j.p.blocks.length) :
    srcF ⟨q, j.g, j.bad⟩ b (renF j.p.ins.length nums s) = srcF j a s := by
  have hi : q.ins.length = j.p.ins.length := by rw [hm.ins]
  unfold srcF
  rcases renF_cases hn hs with ⟨h1, h2⟩ | ⟨i, t, h1, h2, h3, h4, h5, h6⟩
  · rw [h2, if_neg (by show ¬ (q.ins.length : Int) ≤ s; omega), if_neg (by omega)]
  · rw [h6, if_pos (by show (q.ins.length : Int) ≤ _; omega), if_pos h5, h4, Int.toNat_natCast, ← hb.at_ i h1, h3]
    show spotF j _ = spotF j _
    congr 2
    show ((_ - (q.ins.length : Int)) / 2).toNat = _
    omega
theorem moved_mem (hj : j.Ok) (hn : IsPerm nums j.p.blocks.length) (hm : Moved j.p nums q) {i : Nat} (hi : i < j.p.blocks.length) {s : Int} (hs : 0 ≤ s ∧ s < j.p.ins.length + 2 * j.p.blocks.length) :
    renF j.p.ins.length nums s ∈ (q.blocks.getD (nums.getD i default).toNat default).ins ↔ s ∈ (j.p.blocks.getD i default).ins := by
  rw [hm.at_ i hi]
  show _ ∈ List.map _ _ ↔ _
  rw [List.mem_map]
  constructor
  · rintro ⟨r, hr, e⟩
    have := hj.sb (j.p.blocks.getD i default) (by simp [List.getD_eq_getElem?_getD, hi]) r hr
    rw [← renF_inj hn this hs e]
    exact hr
  · exact fun h => ⟨s, h, rfl⟩
theorem moved_sinks (hj : j.Ok) (hn : IsPerm nums j.p.blocks.length) (hm : Moved j.p nums q) (hb : MovedAt nums a b j.p.blocks.length) {s : Int} (hs : 0 ≤ s ∧ s < j.p.ins.length + 2 * j.p.blocks.length) (p : Int × Int) :
    p ∈ sinksF ⟨q, j.g, j.bad⟩ b (renF j.p.ins.length nums s) ↔ p ∈ sinksF j a s := by
  unfold sinksF
  rw [List.mem_append, List.mem_append, mem_sinkBx, mem_sinkBx, mem_sinkDx, mem_sinkDx]
  refine or_congr ⟨?_, ?_⟩ ⟨?_, ?_⟩
  · rintro ⟨t, h1, h2, h3⟩
    have h1 : t < q.blocks.length := h1
    rw [hm.nb] at h1
    obtain ⟨i, hi, e⟩ := hn.surj h1
    have e2 : t = (nums.getD i default).toNat := by omega
    subst e2
    refine ⟨i, hi, (moved_mem hj hn hm hi hs).1 h2, ?_⟩
    rw [h3, hb.at_ i hi]
    rfl
  · rintro ⟨i, hi, h2, h3⟩
    obtain ⟨t, ht, e⟩ := hn.at_ hi
    refine ⟨(nums.getD i default).toNat, by show _ < q.blocks.length; rw [hm.nb]; omega, (moved_mem hj hn hm hi hs).2 h2, ?_⟩
    rw [h3, hb.at_ i hi]
    rfl
  · rintro ⟨o, h1, h2, h3⟩
    have h1 : o < q.drive.length := h1
    have h2 : q.drive.getD o default = _ := h2
    rw [hm.drive] at h1 h2
    rw [List.length_map] at h1
    refine ⟨o, h1, ?_, h3⟩
    have h4 : (j.p.drive.map (renF j.p.ins.length nums)).getD o default = renF j.p.ins.length nums (j.p.drive.getD o default) := by
      simp [List.getD_eq_getElem?_getD, h1]
    rw [h4] at h2
    exact renF_inj hn (hj.sd _ (by simp [List.getD_eq_getElem?_getD, h1])) hs h2
  · rintro ⟨o, h1, h2, h3⟩
    refine ⟨o, by show o < q.drive.length; rw [hm.drive, List.length_map]; exact h1, ?_, h3⟩
    show q.drive.getD o default = _
    rw [hm.drive, ← h2]
    simp [List.getD_eq_getElem?_getD, h1]
theorem moved_length (hj : j.Ok) (hn : IsPerm nums j.p.blocks.length) (hm : Moved j.p nums q) (hb : MovedAt nums a b j.p.blocks.length) {s : Int} (hs : 0 ≤ s ∧ s < j.p.ins.length + 2 * j.p.blocks.length) :
    lengthF (endsF ⟨q, j.g, j.bad⟩ b (renF j.p.ins.length nums s)) = lengthF (endsF j a s) := by
  have hk := moved_sinks hj hn hm hb hs
  have hs2 := moved_src hn hm hb hs
  have he : (sinksF ⟨q, j.g, j.bad⟩ b (renF j.p.ins.length nums s)).length = 0 ↔ (sinksF j a s).length = 0 := by
    rw [List.length_eq_zero_iff, List.length_eq_zero_iff, List.eq_nil_iff_forall_not_mem, List.eq_nil_iff_forall_not_mem]
    exact forall_congr' fun p => not_congr (hk p)
  refine lengthF_mem fun p => ?_
  unfold endsF
  by_cases h0 : (sinksF j a s).length = 0
  · rw [if_pos h0, if_pos (he.2 h0)]
  · rw [if_neg h0, if_neg (fun h => h0 (he.1 h)), List.mem_append, List.mem_append, hk, hs2]
theorem moved_costR (hj : j.Ok) (hn : IsPerm nums j.p.blocks.length) (hm : Moved j.p nums q) (hb : MovedAt nums a b j.p.blocks.length) : costR ⟨q, j.g, j.bad⟩ b = costR j a := by
  have hi : q.ins.length = j.p.ins.length := by rw [hm.ins]
  rw [costR, costR, costRN_sum, costRN_sum]
  show sumF _ (q.ins.length + 2 * q.blocks.length) = _
  rw [hi, hm.nb, ← sumF_perm (e := renF j.p.ins.length nums) (fun x hx => by have := renF_rng hn (s := x) (n := j.p.ins.length) (by omega); omega) fun x y hx hy e => renF_inj hn (by omega) (by omega) e]
  exact sumF_congr _ fun k hk => moved_length hj hn hm hb (by omega)
theorem isPl_iff {j : Job} {a : List Int} : IsPl j a ↔ a.length = j.p.blocks.length ∧ (∀ i : Nat, i < a.length → 0 ≤ a.getD i default ∧ a.getD i default < j.g.w * j.g.h) ∧ ∀ i k : Nat, i < a.length → k < a.length → a.getD i default = a.getD k default → i = k := by
  refine and_congr_right fun hl => and_congr ⟨fun h i hi => h _ (by simp [List.getD_eq_getElem?_getD, hi]), fun h x hx => ?_⟩ ⟨fun h i k hi hk e => ?_, fun h => List.pairwise_iff_getElem.2 fun i k hi hk hik e => ?_⟩
  · obtain ⟨i, hi, rfl⟩ := List.mem_iff_getElem.1 hx
    have := h i hi
    rwa [List.getD_eq_getElem?_getD, List.getElem?_eq_getElem hi, Option.getD_some] at this
  · exact nodup_inj h hi hk (by simpa [List.getD_eq_getElem?_getD, hi, hk] using e)
  · have := h i k hi hk (by simpa [List.getD_eq_getElem?_getD, hi, hk] using e)
    omega
theorem moved_isPl (hn : IsPerm nums j.p.blocks.length) (hm : Moved j.p nums q) (hb : MovedAt nums a b j.p.blocks.length) : IsPl ⟨q, j.g, j.bad⟩ b ↔ IsPl j a := by
  have la := hb.la
  have lb := hb.lb
  rw [isPl_iff, isPl_iff]
  show (b.length = q.blocks.length ∧ _) ↔ _
  rw [hm.nb, la, lb]
  refine and_congr_right fun _ => and_congr ⟨fun h i hi => ?_, fun h t ht => ?_⟩ ⟨fun h i k hi hk e => ?_, fun h t u ht hu e => ?_⟩
  · obtain ⟨t, ht, e⟩ := hn.at_ hi
    rw [← hb.at_ i hi]
    exact h _ (by omega)
  · obtain ⟨i, hi, e⟩ := hn.surj ht
    have := h i hi
    rw [← hb.at_ i hi, e, Int.toNat_natCast] at this
    exact this
  · obtain ⟨t, ht, e1⟩ := hn.at_ hi
    obtain ⟨u, hu, e2⟩ := hn.at_ hk
    rw [← hb.at_ i hi, ← hb.at_ k hk] at e
    have := h _ _ (by omega) (by omega) e
    exact hn.inj hi hk (by omega)
  · obtain ⟨i, hi, e1⟩ := hn.surj ht
    obtain ⟨k, hk, e2⟩ := hn.surj hu
    have h1 := hb.at_ i hi
    have h2 := hb.at_ k hk
    rw [e1, Int.toNat_natCast] at h1
    rw [e2, Int.toNat_natCast] at h2
    rw [h1, h2] at e
    have := h i k hi hk e
    subst this
    omega
theorem moved_ok (hj : j.Ok) (hn : IsPerm nums j.p.blocks.length) (hm : Moved j.p nums q) : (⟨q, j.g, j.bad⟩ : Job).Ok := by
  have hi : q.ins.length = j.p.ins.length := by rw [hm.ins]
  have ho : q.out.length = j.p.out.length := by rw [hm.out]
  have hd : q.drive.length = j.p.drive.length := by rw [hm.drive, List.length_map]
  have hbl : ∀ b ∈ q.blocks, ∃ b0 ∈ j.p.blocks, b = movB j.p.ins.length nums b0 := fun b hb => by
    obtain ⟨t, ht, rfl⟩ := List.mem_iff_getElem.1 hb
    obtain ⟨i, hi, e⟩ := hn.surj (show t < j.p.blocks.length by rw [← hm.nb]; exact ht)
    refine ⟨j.p.blocks.getD i default, by simp [List.getD_eq_getElem?_getD, hi], ?_⟩
    rw [← hm.at_ i hi, e, Int.toNat_natCast]
    simp [List.getD_eq_getElem?_getD, ht]
  refine ⟨hj.wh, hj.tr, hj.kind, by show (q.blocks.length : Int) ≤ 1000; rw [hm.nb]; exact hj.nb, fun b hb => ?_, by show (q.ins.length : Int) ≤ _; rw [hi]; exact hj.ins, by show (q.out.length : Int) ≤ _; rw [ho]; exact hj.outs, hj.tiles, hj.nodes, hj.nr, hj.w, hj.h, by show (q.drive.length : Int) ≤ _; rw [hd]; exact hj.nd, fun b hb s hs => ?_, fun s hs => ?_⟩
  · obtain ⟨b0, hb0, rfl⟩ := hbl b hb
    show ((List.map _ _).length : Int) ≤ _
    rw [List.length_map]
    exact hj.nin b0 hb0
  · obtain ⟨b0, hb0, rfl⟩ := hbl b hb
    obtain ⟨r, hr, rfl⟩ := List.mem_map.1 (show s ∈ List.map _ _ from hs)
    show _ ∧ _ < (q.ins.length : Int) + 2 * (q.blocks.length : Nat)
    rw [hi, hm.nb]
    exact renF_rng hn (hj.sb b0 hb0 r hr)
  · have hs : s ∈ q.drive := hs
    rw [hm.drive] at hs
    obtain ⟨r, hr, rfl⟩ := List.mem_map.1 hs
    show _ ∧ _ < (q.ins.length : Int) + 2 * (q.blocks.length : Nat)
    rw [hi, hm.nb]
    exact renF_rng hn (hj.sd r hr)
theorem moved_cost (hj : j.Ok) (hn : IsPerm nums j.p.blocks.length) (hm : Moved j.p nums q) (hb : MovedAt nums a b j.p.blocks.length) : cost1F ⟨q, j.g, j.bad⟩ b = cost1F j a := by
  have h := moved_isPl hn hm hb
  unfold cost1F
  by_cases hp : IsPl j a
  · rw [if_pos hp, if_pos (h.2 hp), ← costR_eq hj hp, ← costR_eq (moved_ok hj hn hm) (h.2 hp), moved_costR hj hn hm hb]
  · rw [if_neg hp, if_neg (fun e => hp (h.1 e))]
theorem moved_suits (hn : IsPerm nums j.p.blocks.length) (hm : Moved j.p nums q) {i : Nat} (hi : i < j.p.blocks.length) (t : Int) : suitsR ⟨q, j.g, j.bad⟩ (nums.getD i default) t = suitsR j i t := by
  obtain ⟨u, hu, e⟩ := hn.at_ hi
  have hb := hm.at_ i hi
  rw [e, Int.toNat_natCast] at hb
  unfold suitsR
  rw [e]
  simp only [hm.nb, Int.toNat_natCast, hb, movB, List.length_map]
  have c1 : ((u : Int) < 0 ∨ (j.p.blocks.length : Int) ≤ u ∨ t < 0 ∨ j.g.w * j.g.h ≤ t) ↔ ((i : Int) < 0 ∨ (j.p.blocks.length : Int) ≤ i ∨ t < 0 ∨ j.g.w * j.g.h ≤ t) := by omega
  simp only [c1]
theorem moved_check (hn : IsPerm nums j.p.blocks.length) (hm : Moved j.p nums q) (hb : MovedAt nums a b j.p.blocks.length) : checkF ⟨q, j.g, j.bad⟩ b = checkF j a := by
  have h1 := moved_isPl hn hm hb
  have hf : Fits ⟨q, j.g, j.bad⟩ ↔ Fits j := by
    show ((q.ins.length : Int) ≤ _ ∧ (q.out.length : Int) ≤ _) ↔ _
    rw [hm.ins, hm.out]
    exact Iff.rfl
  have ha : (List.range b.length).all (fun k => suitsR ⟨q, j.g, j.bad⟩ k (b.getD k default)) = true ↔ (List.range a.length).all (fun k => suitsR j k (a.getD k default)) = true := by
    rw [List.all_eq_true, List.all_eq_true, hb.la, hb.lb]
    constructor
    · intro h i hi
      have hi := List.mem_range.1 hi
      obtain ⟨t, ht, e⟩ := hn.at_ hi
      have := h t (List.mem_range.2 ht)
      have e2 := hb.at_ i hi
      rw [e, Int.toNat_natCast] at e2
      rw [← e, e2, moved_suits hn hm hi] at this
      exact this
    · intro h t ht
      obtain ⟨i, hi, e⟩ := hn.surj (List.mem_range.1 ht)
      have e2 := hb.at_ i hi
      rw [e, Int.toNat_natCast] at e2
      rw [← e, e2, moved_suits hn hm hi]
      exact h i (List.mem_range.2 hi)
  unfold checkF
  have hall := and_congr hf (and_congr h1 ha)
  split
  · rename_i h
    rw [if_pos (hall.1 h)]
  · rename_i h
    rw [if_neg (fun e => h (hall.2 e))]
end
end Go.Proofs.Ytbdamnfkgdbidaa
namespace Go.Proofs.Ytbdamnfkgdbidaa
open Go Go.Vc Txt
theorem shufN_perm (l : List Int) : ∀ n, (∀ x ∈ shufN l n, 0 ≤ x ∧ x < n) ∧ (shufN l n).Nodup
  | 0 => ⟨fun x hx => (by cases hx), List.nodup_nil⟩
  | n + 1 => by
    obtain ⟨h1, h2⟩ := shufN_perm l n
    have hp : (shufN l (n + 1)).Perm ((n : Int) :: shufN l n) := by
      show (List.take _ _ ++ (n : Int) :: List.drop _ _).Perm _
      refine List.perm_middle.trans ?_
      rw [List.take_append_drop]
    refine ⟨fun x hx => ?_, hp.nodup_iff.2 (List.nodup_cons.2 ⟨fun h => ?_, h2⟩)⟩
    · rcases List.mem_cons.1 (hp.mem_iff.1 hx) with rfl | hx
      · omega
      · have := h1 x hx; omega
    · have := h1 _ h; omega
theorem shufN_isPerm (l : List Int) (n : Nat) : IsPerm (shufN l n) n := ⟨shufN_len l n, (shufN_perm l n).1, (shufN_perm l n).2⟩
theorem gen_us {x : RawP} {p : Packed} (hp : p.Gen x) {i : Nat} (hi : i ≤ p.blocks.length) {s : Int} (h : GS x p.ins.length i s) : Us p s := by
  have hn := hp.nb
  rcases h with h | ⟨c, h1, h2, rfl⟩ | ⟨c, h1, rfl⟩
  · exact ⟨by omega, fun h1 => by omega⟩
  · refine ⟨by omega, fun _ _ => ?_⟩
    have e : ((p.ins.length : Int) + 2 * c + 1 - p.ins.length) / 2 = c := by omega
    rw [e, Int.toNat_natCast, (hp.gb c (by omega)).reg, if_pos h2]
    omega
  · exact ⟨by omega, fun _ h => by omega⟩
theorem GB.fmd {x : RawP} {k i : Nat} {b : Block} (h : GB x k i b) (hi : i ≤ 9) : Fmd b := by
  obtain ⟨h1, h2, h3, h4⟩ := h
  have hr : -1 ≤ b.reg ∧ b.reg ≤ 255 := by
    rw [h3]; split <;> omega
  rcases h4 with ⟨r1, r2, r3⟩ | ⟨r1, r2, r3, r4, r5⟩
  · exact ⟨h1, by omega, hr, ⟨r2, r3⟩, .inl (by omega)⟩
  · exact ⟨h1, by omega, hr, by rw [r4]; exact ⟨by omega, (shl_ok (kk := b.ins.length) (by omega)).2⟩, .inr ⟨by omega, r3, r4⟩⟩
theorem gen_valid {x : RawP} (hx : x.Ok) {p : Packed} (hp : p.Gen x) : PValid p _root_.id := by
  have h1 := hp.ins
  have h2 := hp.nb
  have h3 := hp.out
  have h4 := hp.drive
  have hi := hx.ins
  have ho := hx.out
  have hbm : ∀ b ∈ p.blocks, ∃ i : Nat, i < p.blocks.length ∧ p.blocks.getD i default = b := fun b hb => by
    obtain ⟨i, hi, rfl⟩ := List.mem_iff_getElem.1 hb
    exact ⟨i, hi, by simp [List.getD_eq_getElem?_getD, hi]⟩
  have hreg : ∀ i k : Nat, i < p.blocks.length → k < p.blocks.length → (p.blocks.getD i default).reg = (p.blocks.getD k default).reg → 0 ≤ (p.blocks.getD i default).reg → i = k := fun i k hi hk e h0 => by
    rw [(hp.gb i hi).reg] at e h0
    rw [(hp.gb k hk).reg] at e
    split at e <;> split at e <;> omega
  refine ⟨by omega, by omega, by omega, h4, fun s hs => gen_us hp (Nat.le_refl _) (hp.gd s hs), fun w hw => ?_, fun w hw => ?_, fun b hb => ?_, fun b hb s hs => ?_, hreg, fun b hb s hs hn h0 => ?_⟩
  · obtain ⟨w1, w2, w3⟩ := hp.wi w hw
    unfold Wd; omega
  · obtain ⟨w1, w2, w3⟩ := hp.wo w hw
    unfold Wd; omega
  · obtain ⟨i, hi, rfl⟩ := hbm b hb
    exact (hp.gb i hi).fmd (by omega)
  · obtain ⟨i, hi, rfl⟩ := hbm b hb
    exact gen_us hp (by omega) ((hp.gb i hi).sig s hs)
  · rcases (hp.gb b hb).sig s hs with h | ⟨c, _, _, rfl⟩ | ⟨c, hc, rfl⟩
    · omega
    · omega
    · show (((p.ins.length : Int) + 2 * c - p.ins.length) / 2).toNat < b
      omega
noncomputable def rankM (nums : List Int) (rank : Nat → Nat) (c t : Nat) : Nat := by
  classical exact if h : ∃ i : Nat, i < c ∧ nums.getD i default = t then rank h.choose else 0
theorem rankM_at {nums : List Int} {rank : Nat → Nat} {c : Nat} (hn : IsPerm nums c) {i : Nat} (hi : i < c) {t : Nat} (h : nums.getD i default = t) : rankM nums rank c t = rank i := by
  have he : ∃ i : Nat, i < c ∧ nums.getD i default = t := ⟨i, hi, h⟩
  unfold rankM
  rw [dif_pos he]
  congr 1
  exact hn.inj he.choose_spec.1 hi (he.choose_spec.2.trans h.symm)
theorem moved_us {p q : Packed} {nums : List Int} (hn : IsPerm nums p.blocks.length) (hm : Moved p nums q) {s : Int} (h : Us p s) : Us q (renF p.ins.length nums s) := by
  obtain ⟨h1, h2⟩ := h
  have hi : q.ins.length = p.ins.length := by rw [hm.ins]
  unfold Us
  rw [hi, hm.nb]
  refine ⟨renF_rng hn h1, fun k1 k2 => ?_⟩
  rcases renF_cases hn h1 with ⟨a1, a2⟩ | ⟨i, t, a1, a2, a3, a4, a5, a6⟩
  · omega
  · have := h2 a5 (by omega)
    rw [a4, Int.toNat_natCast] at this
    have e : (renF p.ins.length nums s - p.ins.length) / 2 = t := by omega
    have hb := hm.at_ i a1
    rw [a3, Int.toNat_natCast] at hb
    rw [e, Int.toNat_natCast, hb]
    exact this
theorem moved_valid {p q : Packed} {rank : Nat → Nat} (h : PValid p rank) {nums : List Int} (hn : IsPerm nums p.blocks.length) (hm : Moved p nums q) : PValid q (rankM nums rank p.blocks.length) := by
  obtain ⟨v1, v2, v3, v4, v5, v6, v7, v8, v9, v10, v11⟩ := h
  have hi : q.ins.length = p.ins.length := by rw [hm.ins]
  have ho : q.out.length = p.out.length := by rw [hm.out]
  have hd : q.drive.length = p.drive.length := by rw [hm.drive, List.length_map]
  have hat : ∀ t : Nat, t < p.blocks.length → ∃ i : Nat, i < p.blocks.length ∧ nums.getD i default = t ∧ q.blocks.getD t default = movB p.ins.length nums (p.blocks.getD i default) := fun t ht => by
    obtain ⟨i, hi, e⟩ := hn.surj ht
    refine ⟨i, hi, e, ?_⟩
    have := hm.at_ i hi
    rwa [e, Int.toNat_natCast] at this
  have hbl : ∀ b ∈ q.blocks, ∃ b0 ∈ p.blocks, b = movB p.ins.length nums b0 := fun b hb => by
    obtain ⟨t, ht, rfl⟩ := List.mem_iff_getElem.1 hb
    obtain ⟨i, hi, e, e2⟩ := hat t (by rw [← hm.nb]; exact ht)
    refine ⟨p.blocks.getD i default, by simp [List.getD_eq_getElem?_getD, hi], ?_⟩
    rw [← e2]
    simp [List.getD_eq_getElem?_getD, ht]
  refine ⟨by rw [hi]; exact v1, by rw [hm.nb]; exact v2, by rw [hd]; exact v3, by rw [hd, ho]; exact v4, fun s hs => ?_, by rw [hm.ins]; exact v6, by rw [hm.out]; exact v7, fun b hb => ?_, fun b hb s hs => ?_, fun t u ht hu e h0 => ?_, fun t ht s hs k1 k2 => ?_⟩
  · rw [hm.drive] at hs
    obtain ⟨r, hr, rfl⟩ := List.mem_map.1 hs
    exact moved_us hn hm (v5 r hr)
  · obtain ⟨b0, hb0, rfl⟩ := hbl b hb
    obtain ⟨f1, f2, f3, f4, f5⟩ := v8 b0 hb0
    have hl : (movB p.ins.length nums b0).ins.length = b0.ins.length := List.length_map _
    exact ⟨by rw [hl]; exact f1, f2, f3, by rw [hl]; exact f4, by rw [hl]; exact f5⟩
  · obtain ⟨b0, hb0, rfl⟩ := hbl b hb
    obtain ⟨r, hr, rfl⟩ := List.mem_map.1 (show s ∈ List.map _ _ from hs)
    exact moved_us hn hm (v9 b0 hb0 r hr)
  · rw [hm.nb] at ht hu
    obtain ⟨i, hi, e1, e2⟩ := hat t ht
    obtain ⟨k, hk, e3, e4⟩ := hat u hu
    rw [e2, e4] at e
    rw [e2] at h0
    have := v10 i k hi hk e h0
    subst this
    omega
  · rw [hm.nb] at ht
    obtain ⟨i, hii, e1, e2⟩ := hat t ht
    rw [e2] at hs
    obtain ⟨r, hr, rfl⟩ := List.mem_map.1 (show s ∈ List.map _ _ from hs)
    rw [hi] at k1 k2 ⊢
    have hu := (v9 (p.blocks.getD i default) (by simp [List.getD_eq_getElem?_getD, hii]) r hr).1
    rcases renF_cases hn hu with ⟨a1, a2⟩ | ⟨k, w, a1, a2, a3, a4, a5, a6⟩
    · omega
    · have e : (renF p.ins.length nums r - p.ins.length) / 2 = w := by omega
      rw [e, Int.toNat_natCast, rankM_at hn a1 a3, rankM_at hn hii e1]
      have := v11 i hii r hr a5 (by omega)
      rwa [a4, Int.toNat_natCast] at this
end Go.Proofs.Ytbdamnfkgdbidaa
namespace Go.Proofs.Ytbdamnfkgdbidaa
open Go Go.Vc Txt
theorem moved_ag (p : Packed) (h1 : (p.ins.length : Int) ≤ 1000) (h2 : (p.blocks.length : Int) ≤ 1000) (h3 : (p.drive.length : Int) ≤ 1000) (hin : ∀ b ∈ p.blocks, (b.ins.length : Int) ≤ 1000)
    (hsb : ∀ b ∈ p.blocks, ∀ s ∈ b.ins, 0 ≤ s ∧ s < p.ins.length + 2 * p.blocks.length) (hsd : ∀ s ∈ p.drive, 0 ≤ s ∧ s < p.ins.length + 2 * p.blocks.length) (nums : List Int) (hn : IsPerm nums p.blocks.length) :
    FnOK Try.prog 33 [.agg (packedC true p), .sl false 1 (ints nums)] (fun v => ∃ q, Moved p nums q ∧ v = .agg (packedC true q)) :=
  FnOK.res (FnOK.mono (moved_r p h1 h2 h3 hin hsb hsd nums hn) fun _ ⟨q, hq, hs⟩ => ⟨_, hs, by simp only [push_cast, reduceIte, Nat.reduceEqDiff, Nat.reduceAdd, Nat.reduceSub, Nat.reduceMul, Nat.reduceBEq, Nat.reduceLT, Nat.reduceLeDiff, reduceCtorEq, Int.reduceToNat, Int.reduceNeg] <;> simp, q, hq, rfl⟩)
set_option maxHeartbeats 2000000 in
theorem renumbers_ok (x : RawP) (hx : x.By) (y : RawG) (hy : y.By) (z : Odd) (hz : z.By) :
    FnEq Try.prog 8 [.agg (rawPC false x), .agg (rawGC false y), .agg (oddC false z)] (.bool true) := by
  refine FnEq.of_awp Try.func8 ok8 (by show 3 ≤ _; decide) (by simp only [push_cast, reduceIte, Nat.reduceEqDiff, Nat.reduceAdd, Nat.reduceSub, Nat.reduceMul, Nat.reduceBEq, Nat.reduceLT, Nat.reduceLeDiff, reduceCtorEq, Int.reduceToNat, Int.reduceNeg] <;> first | exact fun _ _ => trivial | simp) ?_
  simp only [ac8, rv8, push_cast, reduceIte, Nat.reduceEqDiff, Nat.reduceAdd, Nat.reduceSub, Nat.reduceMul, Nat.reduceBEq, Nat.reduceLT, Nat.reduceLeDiff, reduceCtorEq, Int.reduceToNat, Int.reduceNeg]
  refine cal_sub examples_ok (by simp only [push_cast, reduceIte, Nat.reduceEqDiff, Nat.reduceAdd, Nat.reduceSub, Nat.reduceMul, Nat.reduceBEq, Nat.reduceLT, Nat.reduceLeDiff, reduceCtorEq, Int.reduceToNat, Int.reduceNeg]) ?_
  simp only [push_cast, reduceIte, Nat.reduceEqDiff, Nat.reduceAdd, Nat.reduceSub, Nat.reduceMul, Nat.reduceBEq, Nat.reduceLT, Nat.reduceLeDiff, reduceCtorEq, Int.reduceToNat, Int.reduceNeg]
  refine cal_sub (small_ok x y z) (by simp only [push_cast, reduceIte, Nat.reduceEqDiff, Nat.reduceAdd, Nat.reduceSub, Nat.reduceMul, Nat.reduceBEq, Nat.reduceLT, Nat.reduceLeDiff, reduceCtorEq, Int.reduceToNat, Int.reduceNeg]) ?_
  simp only [push_cast, reduceIte, Nat.reduceEqDiff, Nat.reduceAdd, Nat.reduceSub, Nat.reduceMul, Nat.reduceBEq, Nat.reduceLT, Nat.reduceLeDiff, reduceCtorEq, Int.reduceToNat, Int.reduceNeg]
  refine cond_of (fun h => ?_) fun h => ?_
  · simp only [push_cast, reduceIte, Nat.reduceEqDiff, Nat.reduceAdd, Nat.reduceSub, Nat.reduceMul, Nat.reduceBEq, Nat.reduceLT, Nat.reduceLeDiff, reduceCtorEq, Int.reduceToNat, Int.reduceNeg]
    done
  have hs : Small x y z := by simpa using h
  have hx := hx.ok hs.1
  have hy := hy.ok hs.2.1
  obtain ⟨_, _, s3, s4, s5, _⟩ := hs
  refine cal_subO (lmade_ok x hx y hy z (by omega) hz.bad) (by simp only [push_cast, reduceIte, Nat.reduceEqDiff, Nat.reduceAdd, Nat.reduceSub, Nat.reduceMul, Nat.reduceBEq, Nat.reduceLT, Nat.reduceLeDiff, reduceCtorEq, Int.reduceToNat, Int.reduceNeg]) ?_
  rintro _ ⟨p, hp, rfl⟩
  have hj := job_ok hx hp hy z.bad
  have hv := gen_valid hx hp
  generalize hj0 : (⟨p, gridF y, badF (gridF y) z.bad⟩ : Job) = j at hj ⊢
  have hv : PValid j.p _root_.id := by rw [← hj0]; exact hv
  clear hj0
  simp only [push_cast, reduceIte, Nat.reduceEqDiff, Nat.reduceAdd, Nat.reduceSub, Nat.reduceMul, Nat.reduceBEq, Nat.reduceLT, Nat.reduceLeDiff, reduceCtorEq, Int.reduceToNat, Int.reduceNeg]
  refine cal_sub (rtiles_ok j hj z.at_ (by omega) hz.at_) ⟨Sub.aggL (jobC_sub j), .refl _, trivial⟩ ?_
  have hal : (tilesF j z.at_).length = j.p.blocks.length := tilesN_len _ _ _
  generalize tilesF j z.at_ = a at hal ⊢
  simp only [push_cast, reduceIte, Nat.reduceEqDiff, Nat.reduceAdd, Nat.reduceSub, Nat.reduceMul, Nat.reduceBEq, Nat.reduceLT, Nat.reduceLeDiff, reduceCtorEq, Int.reduceToNat, Int.reduceNeg]
  rw [hal]
  have hnb := hj.nb
  have hni := hv.ni
  refine cal_sub (shuf28_ok j.p.blocks.length (by omega) z.fixed (by omega) hz.fixed) (by simp only [push_cast, reduceIte, Nat.reduceEqDiff, Nat.reduceAdd, Nat.reduceSub, Nat.reduceMul, Nat.reduceBEq, Nat.reduceLT, Nat.reduceLeDiff, reduceCtorEq, Int.reduceToNat, Int.reduceNeg]) ?_
  have hn := shufN_isPerm z.fixed j.p.blocks.length
  generalize shufN z.fixed j.p.blocks.length = nums at hn ⊢
  simp only [push_cast, reduceIte, Nat.reduceEqDiff, Nat.reduceAdd, Nat.reduceSub, Nat.reduceMul, Nat.reduceBEq, Nat.reduceLT, Nat.reduceLeDiff, reduceCtorEq, Int.reduceToNat, Int.reduceNeg]
  refine cal_subO (moved_ag j.p (by omega) hnb hj.nd hj.nin hj.sb hj.sd nums hn) (by simp only [push_cast, reduceIte, Nat.reduceEqDiff, Nat.reduceAdd, Nat.reduceSub, Nat.reduceMul, Nat.reduceBEq, Nat.reduceLT, Nat.reduceLeDiff, reduceCtorEq, Int.reduceToNat, Int.reduceNeg]) ?_
  rintro _ ⟨q, hq, rfl⟩
  simp only [push_cast, reduceIte, Nat.reduceEqDiff, Nat.reduceAdd, Nat.reduceSub, Nat.reduceMul, Nat.reduceBEq, Nat.reduceLT, Nat.reduceLeDiff, reduceCtorEq, Int.reduceToNat, Int.reduceNeg]
  rw [hal]
  refine ⟨by omega, ?_⟩
  refine loop_of (fun m st => ∃ (i : Nat) (b : List Int), i ≤ j.p.blocks.length ∧ m = j.p.blocks.length - i ∧ b.length = j.p.blocks.length ∧ (∀ t : Nat, t < i → b.getD (nums.getD t default).toNat default = a.getD t default) ∧
    st = ⟨[(7, .bool true), (8, .ptr 8 0), (9, .sl true 1 (ints a)), (10, .sl true 1 (ints nums)), (11, .ptr 11 0), (12, .view 46 0 j.p.blocks.length), (13, .int i)], [(8, jobC true j), (11, jobC true ⟨q, j.g, j.bad⟩)], [(46, ⟨1, 3, ints b⟩)], []⟩) j.p.blocks.length ?_ ?_
  · refine ⟨0, List.replicate j.p.blocks.length 0, by omega, by omega, by simp, fun t ht => absurd ht (Nat.not_lt_zero t), ?_⟩
    simp only [push_cast, reduceIte, Nat.reduceEqDiff, Nat.reduceAdd, Nat.reduceSub, Nat.reduceMul, Nat.reduceBEq, Nat.reduceLT, Nat.reduceLeDiff, reduceCtorEq, Int.reduceToNat, Int.reduceNeg]
    rw [List.length_replicate]
  · rintro m st ⟨i, b, hi, rfl, hbl, hba, rfl⟩
    simp only [push_cast, reduceIte, Nat.reduceEqDiff, Nat.reduceAdd, Nat.reduceSub, Nat.reduceMul, Nat.reduceBEq, Nat.reduceLT, Nat.reduceLeDiff, reduceCtorEq, Int.reduceToNat, Int.reduceNeg]
    refine cond_dec (fun h => ?_) fun h => ?_
    · have hi' : i < j.p.blocks.length := by omega
      obtain ⟨t, ht, e⟩ := hn.at_ hi'
      have hnl := hn.len
      rw [e]
      refine ⟨by omega, by omega, by omega, by omega, by omega, by omega, by omega, _, ?_, i + 1, b.set t (a.getD i default), by omega, rfl, by simpa using hbl, fun k hk => ?_, ?_⟩
      · omega
      · by_cases ek : k = i
        · subst ek
          rw [e, Int.toNat_natCast, getD_set_eq (by omega)]
        · obtain ⟨u, hu, e2⟩ := hn.at_ (show k < j.p.blocks.length by omega)
          rw [e2, Int.toNat_natCast, getD_set_ne (fun e3 => ek (hn.inj (by omega) hi' (by omega)))]
          have := hba k (by omega)
          rwa [e2, Int.toNat_natCast] at this
      · simp
    · have hin : i = j.p.blocks.length := by omega
      have hb : MovedAt nums a b j.p.blocks.length := ⟨hal, hbl, fun t ht => hba t (by omega)⟩
      have hk := moved_ok hj hn hq
      have e1 := moved_check hn hq hb
      have e2 := moved_cost hj hn hq hb
      refine cal_sub (valid_ok j.p _ hv) ⟨Sub.aggL (packedC_sub _), trivial⟩ ?_
      simp only [push_cast, reduceIte, Nat.reduceEqDiff, Nat.reduceAdd, Nat.reduceSub, Nat.reduceMul, Nat.reduceBEq, Nat.reduceLT, Nat.reduceLeDiff, reduceCtorEq, Int.reduceToNat, Int.reduceNeg]
      refine cal_sub (valid_ok q _ (moved_valid hv hn hq)) ⟨Sub.aggL (packedC_sub _), trivial⟩ ?_
      simp only [push_cast, reduceIte, Nat.reduceEqDiff, Nat.reduceAdd, Nat.reduceSub, Nat.reduceMul, Nat.reduceBEq, Nat.reduceLT, Nat.reduceLeDiff, reduceCtorEq, Int.reduceToNat, Int.reduceNeg]
      refine dcal_sub (lcheck_ok j hj a (by omega)) ⟨Sub.aggL (jobC_sub j), .slp _ _ _ _ (fun h => by cases h), trivial⟩ rfl ?_
      simp only [push_cast, reduceIte, Nat.reduceEqDiff, Nat.reduceAdd, Nat.reduceSub, Nat.reduceMul, Nat.reduceBEq, Nat.reduceLT, Nat.reduceLeDiff, reduceCtorEq, Int.reduceToNat, Int.reduceNeg]
      refine cal_sub (lcheck_ok ⟨q, j.g, j.bad⟩ hk b (by omega)) ⟨Sub.aggL (jobC_sub ⟨q, j.g, j.bad⟩), by rw [List.take_of_length_le (by omega)]; exact .slp _ _ _ _ (fun h => by cases h), trivial⟩ ?_
      rw [e1]
      simp only [push_cast, reduceIte, Nat.reduceEqDiff, Nat.reduceAdd, Nat.reduceSub, Nat.reduceMul, Nat.reduceBEq, Nat.reduceLT, Nat.reduceLeDiff, reduceCtorEq, Int.reduceToNat, Int.reduceNeg]
      refine dcal_sub (lcost_ok j hj a (by omega)) ⟨Sub.aggL (jobC_sub j), .slp _ _ _ _ (fun h => by cases h), trivial⟩ rfl ?_
      simp only [push_cast, reduceIte, Nat.reduceEqDiff, Nat.reduceAdd, Nat.reduceSub, Nat.reduceMul, Nat.reduceBEq, Nat.reduceLT, Nat.reduceLeDiff, reduceCtorEq, Int.reduceToNat, Int.reduceNeg]
      refine cal_sub (lcost_ok ⟨q, j.g, j.bad⟩ hk b (by omega)) ⟨Sub.aggL (jobC_sub ⟨q, j.g, j.bad⟩), by rw [List.take_of_length_le (by omega)]; exact .slp _ _ _ _ (fun h => by cases h), trivial⟩ ?_
      rw [e2]
      simp only [push_cast, reduceIte, Nat.reduceEqDiff, Nat.reduceAdd, Nat.reduceSub, Nat.reduceMul, Nat.reduceBEq, Nat.reduceLT, Nat.reduceLeDiff, reduceCtorEq, Int.reduceToNat, Int.reduceNeg]
end Go.Proofs.Ytbdamnfkgdbidaa
