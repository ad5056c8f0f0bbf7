/- DD TxtG T U TxtI V: lemmas for PLoops -/
import Derived.Test.YtledbjkolidhkaaPart11
import Derived.Test.YtledbjkolidhkaaPart05
import Derived.Test.YtledbjkolidhkaaChecked
set_option linter.unusedSimpArgs false
set_option linter.unusedVariables false
namespace Go.Proofs.Ytledbjkolidhkaa
open Go Go.Vc Txt
theorem adj_no {g : Grid} {w : Spot} {x y : Int} (h : w.kind ≠ 4) (h2 : w.kind ≠ 5) : ¬ Adj g w x y := by unfold Adj; omega
theorem adj_wire {g : Grid} {d : Spot} {x y : Int} : Adj g d x y ↔ WireAt g d x y := by
  obtain ⟨k, dx, dy, i⟩ := d
  simp only [Adj, WireAt]
  refine and_congr_right fun _ => ?_
  omega
def Can2 (g : Grid) (a b : Spot) : Prop := (a.kind = 1 ∧ (Adj g b a.x a.y ∨ (b.kind = 3 ∧ b.i = 3 ∧ b.x = a.x ∧ b.y = a.y + 1))) ∨ (a.kind = 2 ∧ Adj g b a.x a.y) ∨ (a.kind = 6 ∧ Adj g b 0 a.y) ∨
  ((a.kind = 4 ∨ a.kind = 5) ∧ (b.kind = 4 ∨ b.kind = 5) ∧ a ≠ b ∧ a.i = b.i ∧ Meet g a b) ∨ ((a.kind = 4 ∨ a.kind = 5) ∧ b.kind = 3 ∧ Adj g a b.x b.y) ∨ ((a.kind = 4 ∨ a.kind = 5) ∧ b.kind = 7 ∧ Adj g a (g.w - 1) b.y)
theorem canD_eq (g : Grid) (a b : Spot) : CanD g a b ↔ Can2 g a b := by
  unfold CanD Can2
  by_cases h1 : a.kind = 1
  · simp [h1]
  by_cases h2 : a.kind = 2
  · simp [h2]
  by_cases h6 : a.kind = 6
  · simp [h6]
  by_cases h4 : a.kind = 4 ∨ a.kind = 5
  · rw [if_neg h1, if_neg h2, if_neg h6, if_pos h4]
    simp only [h1, h2, h6, h4, false_and, false_or, true_and]
    split
    · rename_i hb
      have h3 : ¬ b.kind = 3 := by omega
      have h7 : ¬ b.kind = 7 := by omega
      simp [hb, h3, h7]
    · rename_i hb
      simp [hb]
  · rw [if_neg h1, if_neg h2, if_neg h6, if_neg h4]
    simp [h1, h2, h6, h4]
section
variable {g : Grid} (hg : GOk g)
include hg
theorem raw_pin (s : Spot) (hs : DOk g s) (k3 : s.kind = 3) (n : Int) (hn : Rng g n) : (n ∈ rawD g s ∧ descF g n ≠ s) ↔ CanD g (descF g n) s := by
  have hd := (desc_all hg hn).1
  have e1 : n ∈ rawD g s ↔ WireAt g (descF g n) s.x s.y ∨ (s.i = 3 ∧ (descF g n).kind = 1 ∧ (descF g n).x = s.x ∧ (descF g n).y = s.y - 1) := by
    rw [rawD, if_pos k3]
    split
    · rename_i h3
      rw [addF_mem hg, allF_mem hg, spot_ext]
      refine or_congr ⟨fun h => h.2, fun h => ⟨hn, h⟩⟩ ⟨fun h => ⟨h3, h.2.1, h.2.2.1, h.2.2.2.1⟩, fun h => ⟨hn, h.2.1, h.2.2.1, h.2.2.2, hd.i0 (by omega)⟩⟩
    · rename_i h3
      rw [allF_mem hg]
      exact ⟨fun h => .inl h.2, fun h => h.elim (fun h => ⟨hn, h⟩) fun h => absurd h.1 h3⟩
  have n1 : ∀ x y, ¬ Adj g s x y := fun x y => adj_no (by omega) (by omega)
  rw [e1, canD_eq, Can2]
  simp only [n1, adj_wire, k3, true_and, false_or, and_false, show ¬ ((3 : Int) = 4 ∨ (3 : Int) = 5) by decide, show ¬ (3 : Int) = 7 by decide, false_and, or_false]
  generalize descF g n = d at *
  constructor
  · rintro ⟨h | h, _⟩
    · refine .inr ⟨?_, h⟩
      unfold WireAt at h; omega
    · exact .inl ⟨h.2.1, h.1, h.2.2.1.symm, by omega⟩
  · rintro (h | h)
    · exact ⟨.inr ⟨h.2.1, h.1, h.2.2.1.symm, by omega⟩, fun e => by rw [e] at h; omega⟩
    · exact ⟨.inl h.2, fun e => by rw [e] at h; omega⟩
theorem raw_out (s : Spot) (hs : DOk g s) (k7 : s.kind = 7) (n : Int) (hn : Rng g n) : (n ∈ rawD g s ∧ descF g n ≠ s) ↔ CanD g (descF g n) s := by
  have e1 : n ∈ rawD g s ↔ WireAt g (descF g n) (g.w - 1) s.y := by
    rw [rawD, if_neg (by omega), if_pos k7, allF_mem hg]
    exact ⟨fun h => h.2, fun h => ⟨hn, h⟩⟩
  have n1 : ∀ x y, ¬ Adj g s x y := fun x y => adj_no (by omega) (by omega)
  rw [e1, canD_eq, Can2]
  simp only [n1, adj_wire, k7, true_and, false_or, and_false, show ¬ ((7 : Int) = 4 ∨ (7 : Int) = 5) by decide, show ¬ (7 : Int) = 3 by decide, false_and, or_false]
  generalize descF g n = d at *
  constructor
  · rintro ⟨h, _⟩
    refine ⟨?_, h⟩
    unfold WireAt at h; omega
  · rintro h
    exact ⟨h.2, fun e => by rw [e] at h; omega⟩
omit hg in
theorem raw_none (s : Spot) (k : s.kind = 1 ∨ s.kind = 2 ∨ s.kind = 6) (n : Int) : (n ∈ rawD g s ∧ descF g n ≠ s) ↔ CanD g (descF g n) s := by
  have e1 : rawD g s = [] := by rw [rawD, if_neg (by omega), if_neg (by omega), if_neg (by omega)]
  have n1 : ∀ x y, ¬ Adj g s x y := fun x y => adj_no (by omega) (by omega)
  rw [e1, canD_eq, Can2]
  simp only [n1, List.not_mem_nil, false_and, false_or, and_false, show ¬ (s.kind = 4 ∨ s.kind = 5) by omega, show ¬ s.kind = 3 by omega, show ¬ s.kind = 7 by omega, or_false]
end
theorem meet_wire {g : Grid} (d s : Spot) (hs : s.kind = 4 ∨ s.kind = 5) (hsx : (0 ≤ s.x ∧ s.x < g.w) ∧ (0 ≤ s.y ∧ s.y < g.h)) (hdx : (0 ≤ d.x ∧ d.x < g.w) ∧ (0 ≤ d.y ∧ d.y < g.h)) (hd : d.kind = 4 ∨ d.kind = 5) :
    Meet g d s ↔ WireAt g d s.x s.y ∨ (s.kind = 4 ∧ s.x + 1 < g.w ∧ WireAt g d (s.x + 1) s.y) ∨ (s.kind = 5 ∧ s.y + 1 < g.h ∧ WireAt g d s.x (s.y + 1)) := by
  obtain ⟨k, x, y, i⟩ := d
  obtain ⟨k', x', y', i'⟩ := s
  simp only [Meet, Adj, WireAt] at *
  rcases hs with rfl | rfl <;> rcases hd with rfl | rfl <;> simp only [show ¬ (4 : Int) = 5 by decide, show ¬ (5 : Int) = 4 by decide, or_false, false_or, true_or, or_true, true_and, false_and] <;> omega
section
variable {g : Grid} (hg : GOk g)
include hg
theorem raw_wire (s : Spot) (hs : DOk g s) (k : s.kind = 4 ∨ s.kind = 5) (n : Int) (hn : Rng g n) : (n ∈ rawD g s ∧ descF g n ≠ s) ↔ CanD g (descF g n) s := by
  have hd := (desc_all hg hn).1
  obtain ⟨sx, sy⟩ := hs.pos (by omega)
  have hw := hg.w
  have hh := hg.h
  have e1 : n ∈ rawD g s ↔ n ∈ endsF2 g s (endF g s [] s.x s.y) := by
    rw [rawD, if_neg (by omega), if_neg (by omega), if_pos k]; rfl
  have hsk3 : ¬ s.kind = 3 := by omega
  have hsk7 : ¬ s.kind = 7 := by omega
  have hh0 : 0 < g.h := by omega
  let E : Int → Int → Prop := fun x y => ((descF g n).kind = 1 ∧ (descF g n).x = x ∧ (descF g n).y = y) ∨ ((descF g n).kind = 2 ∧ (descF g n).x = x ∧ (descF g n).y = y) ∨ ((descF g n).i = s.i ∧ WireAt g (descF g n) x y) ∨ (x = 0 ∧ (descF g n).kind = 6 ∧ (descF g n).y = y)
  have e2 : n ∈ endsF2 g s (endF g s [] s.x s.y) ↔ E s.x s.y ∨ (s.kind = 4 ∧ s.x + 1 < g.w ∧ E (s.x + 1) s.y) ∨ (s.kind = 5 ∧ s.y + 1 < g.h ∧ E s.x (s.y + 1)) := by
    have m1 : n ∈ endF g s [] s.x s.y ↔ E s.x s.y := by
      rw [endF_mem hg _ _ _ _ _ sy]
      simp only [List.not_mem_nil, false_or, hn, true_and]
      rfl
    rw [endsF2]
    split
    · rename_i k4
      have h5 : ¬ s.kind = 5 := by omega
      simp only [k4, show ¬ (4 : Int) = 5 by decide, false_and, or_false, true_and]
      split
      · rename_i hh2
        rw [endF_mem hg _ _ _ _ _ sy, m1]
        exact or_congr_right ⟨fun h => ⟨hh2.1, h.2⟩, fun h => ⟨hn, h.2⟩⟩
      · rename_i hh2
        rw [m1]
        exact ⟨.inl, fun h => h.elim _root_.id fun h => absurd ⟨h.1, sy.2⟩ hh2⟩
    · rename_i k4
      have h5 : s.kind = 5 := by omega
      simp only [h5, show ¬ (5 : Int) = 4 by decide, false_and, false_or, true_and]
      split
      · rename_i hh2
        rw [endF_mem hg _ _ _ _ _ (by omega), m1]
        exact or_congr_right ⟨fun h => ⟨hh2.2, h.2⟩, fun h => ⟨hn, h.2⟩⟩
      · rename_i hh2
        rw [m1]
        exact ⟨.inl, fun h => h.elim _root_.id fun h => absurd ⟨sx.2, h.1⟩ hh2⟩
  rw [e1, e2, canD_eq, Can2]
  show ((((descF g n).kind = 1 ∧ _ ∧ _) ∨ _) ∨ _) ∧ _ ↔ _
  have dpos := hd.pos
  have d6 := hd.k6
  have hmw := meet_wire (g := g) (descF g n) s k ⟨sx, sy⟩
  have dk := hd.kind
  have dy : (descF g n).kind = 6 → 0 ≤ (descF g n).y ∧ (descF g n).y < g.h := fun h => by
    obtain ⟨_, e, _⟩ := d6 h
    rw [e]
    exact ⟨Int.emod_nonneg _ (fun e => by rw [e] at hh0; exact absurd hh0 (by decide)), Int.emod_lt_of_pos _ hh0⟩
  simp only [E]
  clear e1 e2 E hs hd d6
  generalize descF g n = d at *
  have hne : ¬ (d.kind = 4 ∨ d.kind = 5) → d ≠ s := fun h e => by rw [e] at h; exact h k
  have hwn : ¬ (d.kind = 4 ∨ d.kind = 5) → ∀ x y, ¬ WireAt g d x y := fun h x y hW => h (hW.2.elim (fun z => .inl z.1) fun z => .inr z.1)
  by_cases k45 : d.kind = 4 ∨ d.kind = 5
  · have m := hmw (dpos (by rcases k45 with h | h <;> rw [h] <;> decide)) k45
    have a1 : ¬ d.kind = 1 := fun e => by rw [e] at k45; exact absurd k45 (by decide)
    have a2 : ¬ d.kind = 2 := fun e => by rw [e] at k45; exact absurd k45 (by decide)
    have a6 : ¬ d.kind = 6 := fun e => by rw [e] at k45; exact absurd k45 (by decide)
    simp only [a1, a2, a6, hsk3, hsk7, k45, k, m, false_and, and_false, or_false, false_or, true_and]
    constructor
    · rintro ⟨h | ⟨b, c, h⟩ | ⟨b, c, h⟩, h2⟩
      · exact ⟨h2, h.1, .inl h.2⟩
      · exact ⟨h2, h.1, .inr (.inl ⟨b, c, h.2⟩)⟩
      · exact ⟨h2, h.1, .inr (.inr ⟨b, c, h.2⟩)⟩
    · rintro ⟨h2, h1, h | ⟨b, c, h⟩ | ⟨b, c, h⟩⟩
      · exact ⟨.inl ⟨h1, h⟩, h2⟩
      · exact ⟨.inr (.inl ⟨b, c, h1, h⟩), h2⟩
      · exact ⟨.inr (.inr ⟨b, c, h1, h⟩), h2⟩
  · have hn2 := hne k45
    have hw2 := hwn k45
    clear hne hwn hmw
    simp only [hw2, hn2, k45, hsk3, hsk7, and_false, false_and, or_false, false_or, ne_eq, not_false_eq_true, and_true]
    by_cases a1 : d.kind = 1
    · have dp := dpos (by rw [a1]; decide)
      clear dpos dy hw2
      simp only [a1, true_and, show ¬ (1 : Int) = 2 by decide, show ¬ (1 : Int) = 6 by decide, false_and, and_false, or_false, Adj, k, true_and]
      omega
    by_cases a2 : d.kind = 2
    · have dp := dpos (by rw [a2]; decide)
      clear dpos dy hw2
      simp only [a2, true_and, show ¬ (2 : Int) = 1 by decide, show ¬ (2 : Int) = 6 by decide, false_and, and_false, or_false, false_or, Adj, k, true_and]
      omega
    by_cases a6 : d.kind = 6
    · have dp := dy a6
      clear dpos dy hw2
      simp only [a6, true_and, show ¬ (6 : Int) = 1 by decide, show ¬ (6 : Int) = 2 by decide, false_and, and_false, or_false, false_or, and_true, Adj, k]
      omega
    · simp only [a1, a2, a6, false_and, and_false, or_false]
theorem raw_can (s : Spot) (hs : DOk g s) (n : Int) (hn : Rng g n) : (n ∈ rawD g s ∧ descF g n ≠ s) ↔ CanD g (descF g n) s := by
  have h1 := hs.kind
  by_cases k3 : s.kind = 3
  · exact raw_pin hg s hs k3 n hn
  by_cases k7 : s.kind = 7
  · exact raw_out hg s hs k7 n hn
  by_cases k4 : s.kind = 4 ∨ s.kind = 5
  · exact raw_wire hg s hs k4 n hn
  · exact raw_none s (by omega) n
theorem raw_rng (s : Spot) (hs : DOk g s) (n : Int) (h : n ∈ rawD g s) : Rng g n := by
  have hE : ∀ (x y : Int) (l : List Int), (n ∈ l → Rng g n) → 0 ≤ y ∧ y < g.h → n ∈ endF g s l x y → Rng g n := fun x y l hl hy hm => by
    rw [endF_mem hg _ _ _ _ _ hy] at hm
    exact hm.elim hl fun h => h.1
  rw [rawD] at h
  split at h
  · split at h
    · rw [addF_mem hg, allF_mem hg] at h
      exact h.elim (fun h => h.1) fun h => h.1
    · rw [allF_mem hg] at h
      exact h.1
  · split at h
    · rw [allF_mem hg] at h
      exact h.1
    · split at h
      · rename_i k
        obtain ⟨sx, sy⟩ := hs.pos (by omega)
        have h0 := hE s.x s.y [] (fun h => by cases h) sy
        simp only [endsF] at h
        split at h
        · split at h
          · exact hE _ _ _ h0 sy h
          · exact h0 h
        · split at h
          · exact hE _ _ _ h0 (by omega) h
          · exact h0 h
      · cases h
end
theorem pair_eq : ∀ {l1 l2 : List Int}, l1.Pairwise (· < ·) → l2.Pairwise (· < ·) → (∀ x, x ∈ l1 ↔ x ∈ l2) → l1 = l2
  | [], [], _, _, _ => rfl
  | [], y :: r, _, _, h => by have := (h y).2 List.mem_cons_self; cases this
  | x :: r, [], _, _, h => by have := (h x).1 List.mem_cons_self; cases this
  | x :: r, y :: s, h1, h2, h => by
    have e : x = y := by
      have a := (h x).1 List.mem_cons_self
      have b := (h y).2 List.mem_cons_self
      rcases List.mem_cons.1 a with a | a
      · exact a
      rcases List.mem_cons.1 b with b | b
      · exact b.symm
      have c := (List.pairwise_cons.1 h2).1 x a
      have d := (List.pairwise_cons.1 h1).1 y b
      omega
    subst e
    rw [pair_eq (List.pairwise_cons.1 h1).2 (List.pairwise_cons.1 h2).2 fun z => ⟨fun hz => ?_, fun hz => ?_⟩]
    · have := (h z).1 (List.mem_cons_of_mem _ hz)
      rcases List.mem_cons.1 this with e | e
      · subst e
        have := (List.pairwise_cons.1 h1).1 z hz
        omega
      · exact e
    · have := (h z).2 (List.mem_cons_of_mem _ hz)
      rcases List.mem_cons.1 this with e | e
      · subst e
        have := (List.pairwise_cons.1 h2).1 z hz
        omega
      · exact e
theorem candN_ord (g : Grid) (s : Spot) : ∀ k : Nat, (candN g s k).Pairwise (· < ·) ∧ ∀ x, x ∈ candN g s k ↔ (0 ≤ x ∧ x < k) ∧ CanD g (descF g x) s
  | 0 => ⟨.nil, fun x => by simp [candN]; omega⟩
  | k + 1 => by
    obtain ⟨h1, h2⟩ := candN_ord g s k
    have hm : ∀ x, x ∈ candN g s (k + 1) ↔ (0 ≤ x ∧ x < ((k + 1 : Nat) : Int)) ∧ CanD g (descF g x) s := fun x => by
      rw [candN, List.mem_append, h2 x]
      split
      · rename_i hc
        rw [List.mem_singleton]
        constructor
        · rintro (h | h)
          · exact ⟨by omega, h.2⟩
          · subst h; exact ⟨by omega, hc⟩
        · rintro ⟨h, h3⟩
          by_cases e : x = k
          · exact .inr e
          · exact .inl ⟨by omega, h3⟩
      · rename_i hc
        simp only [List.not_mem_nil, or_false]
        constructor
        · exact fun h => ⟨by omega, h.2⟩
        · rintro ⟨h, h3⟩
          by_cases e : x = k
          · subst e; exact absurd h3 hc
          · exact ⟨by omega, h3⟩
    refine ⟨?_, hm⟩
    rw [candN]
    split
    · refine List.pairwise_append.2 ⟨h1, List.pairwise_singleton _ _, fun x hx y hy => ?_⟩
      rw [List.mem_singleton] at hy
      have := ((h2 x).1 hx).1
      omega
    · simpa using h1
theorem drivers_eq {g : Grid} (hg : GOk g) (n : Int) : driversF g n = rdrF g n := by
  have hc := hg.count
  rw [rdrF]
  split
  · rename_i h
    have hr := descE_err h
    have he := descE_rng hr
    refine pair_eq (driversF_ord g n) (candN_ord g _ _).1 fun x => ?_
    rw [driversF_mem, (candN_ord g _ _).2 x, he]
    simp only [true_and]
    obtain ⟨hd, hN⟩ := desc_all hg hr
    constructor
    · rintro ⟨h1, h2⟩
      have hx := raw_rng hg _ hd x h1
      refine ⟨by unfold Rng at hx; omega, (raw_can hg _ hd x hx).1 ⟨h1, fun e => h2 ?_⟩⟩
      rw [← (desc_all hg hx).2, e, hN]
    · rintro ⟨h1, h2⟩
      have hx : Rng g x := by unfold Rng; omega
      have := (raw_can hg _ hd x hx).2 h2
      exact ⟨this.1, fun e => this.2 (by rw [e])⟩
  · rename_i h
    rw [driversF, if_neg h]
end Go.Proofs.Ytledbjkolidhkaa
namespace Go.Proofs.Ytledbjkolidhkaa.Txt
open Go Go.Vc
set_option maxRecDepth 100000
def ac13 : AC :=
 (.seq (.reg [0, 18, 0] [
 ⟨some 1, none, .box (.t 0)⟩, ⟨some 2, none, .alc [.nil, .nil, .nil, .nil, .sc (.int .i64 0)]⟩])
 (.seq (.reg [0, 18, 1, 2] [
 ⟨some 6, none, .fa 5 (.t 1)⟩, ⟨some 7, none, .ld true 4 (.t 6)⟩, ⟨some 8, none, .fa 0 (.t 1)⟩, ⟨some 9, none, .ld true 5 (.t 8)⟩, ⟨some 10, none, .fa 9 (.t 1)⟩, ⟨some 11, none, .ld true 2 (.t 10)⟩, ⟨some 12, none, .cal 36 [(.t 7), (.t 9), (.t 11)]⟩, ⟨some 5, none, .mv (.t 12)⟩, ⟨some 13, none, .ext (.t 5) 0⟩, ⟨some 14, none, .ext (.t 5) 1⟩, ⟨some 3, none, .alc [.nil, .nil, .nil, .nil]⟩, ⟨none, none, .sto 4 (.t 3) (.t 13)⟩, ⟨some 4, none, .mv (.t 14)⟩])
 (.seq (.reg [0, 18, 2, 3, 4] [
 ⟨some 15, none, .ld true 4 (.t 3)⟩, ⟨some 16, none, .mv (.t 4)⟩, ⟨some 17, none, .bld [.nil, .nil, .nil, .nil, .sc (.int .i64 0)] [(0, 4, (.t 15)), (4, 1, (.t 16))]⟩, ⟨none, none, .sto 5 (.t 2) (.t 17)⟩])
 .ret)))
def rv13 : List RV := [.cell 2 true 5]
theorem ok13 : fnOk Try.prog ac13 rv13 Try.f13 = true := by kernel_rfl

def ac15 : AC :=
 (.seq (.reg [0, 31, 0, 1] [
 ⟨some 2, none, .box (.t 0)⟩, ⟨some 3, none, .box (.t 1)⟩, ⟨some 4, none, .mv (.c (.sc (.bool false)))⟩])
 (.seq (.reg [0, 31, 2, 3] [
 ⟨some 5, none, .fa 0 (.t 2)⟩, ⟨some 6, none, .ld false 1 (.t 5)⟩, ⟨some 7, none, .fa 0 (.t 3)⟩, ⟨some 8, none, .ld false 1 (.t 7)⟩, ⟨some 9, none, .cal 25 [(.t 6), (.t 8)]⟩, ⟨some 10, none, .mv (.t 9)⟩, ⟨some 11, some (10, true), .fa 1 (.t 2)⟩, ⟨some 12, some (10, true), .ld false 1 (.t 11)⟩, ⟨some 13, some (10, true), .fa 1 (.t 3)⟩, ⟨some 14, some (10, true), .ld false 1 (.t 13)⟩, ⟨some 15, some (10, true), .cal 25 [(.t 12), (.t 14)]⟩, ⟨some 16, none, .pick (.t 10) (.t 15) (.c (.sc (.bool false)))⟩, ⟨some 17, none, .mv (.t 16)⟩, ⟨some 18, some (17, true), .fa 2 (.t 2)⟩, ⟨some 19, some (17, true), .ld false 1 (.t 18)⟩, ⟨some 20, some (17, true), .fa 2 (.t 3)⟩, ⟨some 21, some (17, true), .ld false 1 (.t 20)⟩, ⟨some 22, some (17, true), .cal 25 [(.t 19), (.t 21)]⟩, ⟨some 23, none, .pick (.t 17) (.t 22) (.c (.sc (.bool false)))⟩, ⟨some 24, none, .mv (.t 23)⟩, ⟨some 25, some (24, true), .fa 3 (.t 2)⟩, ⟨some 26, some (24, true), .ld false 1 (.t 25)⟩, ⟨some 27, some (24, true), .fa 3 (.t 3)⟩, ⟨some 28, some (24, true), .ld false 1 (.t 27)⟩, ⟨some 29, some (24, true), .cal 25 [(.t 26), (.t 28)]⟩, ⟨some 30, none, .pick (.t 24) (.t 29) (.c (.sc (.bool false)))⟩, ⟨some 4, none, .mv (.t 30)⟩])
 .ret))
def rv15 : List RV := [.tmp 4]
theorem ok15 : fnOk Try.prog ac15 rv15 Try.f15 = true := by kernel_rfl

def ac19 : AC :=
 (.seq (.reg [0, 82, 0, 1] [
 ⟨some 2, none, .box (.t 0)⟩, ⟨some 3, none, .box (.t 1)⟩, ⟨some 4, none, .mv (.c (.sc (.int .i64 0)))⟩])
 (.seq (.reg [0, 82, 2, 3] [
 ⟨some 8, none, .fa 0 (.t 2)⟩, ⟨some 9, none, .ld false 1 (.t 8)⟩, ⟨some 10, none, .fa 1 (.t 2)⟩, ⟨some 11, none, .ld false 1 (.t 10)⟩, ⟨some 12, none, .ari .mul true .i64 (.t 9) (.t 11)⟩, ⟨some 5, none, .mv (.t 12)⟩])
 (.seq (.seq (.drw [0, 82, 2, 3, 5] [
 ⟨⟨some 13, none, .fa 0 (.t 3)⟩, [], [], true⟩, ⟨⟨some 14, none, .ld false 1 (.t 13)⟩, [], [], true⟩, ⟨⟨some 15, none, .len (.t 14)⟩, [], [], true⟩, ⟨⟨some 16, none, .ld true 5 (.t 2)⟩, [], [], true⟩, ⟨⟨some 17, none, .cal 22 [(.t 16)]⟩, [], [], true⟩, ⟨⟨some 18, none, .cmp .neq .i64 (.t 15) (.t 17)⟩, [], [], false⟩, ⟨⟨some 19, none, .mv (.t 18)⟩, [], [], false⟩, ⟨⟨some 20, some (19, false), .fa 1 (.t 3)⟩, [], [], true⟩, ⟨⟨some 21, some (19, false), .ld false 1 (.t 20)⟩, [], [], true⟩, ⟨⟨some 22, some (19, false), .len (.t 21)⟩, [], [], true⟩, ⟨⟨some 23, some (19, false), .mv (.t 5)⟩, [], [], true⟩, ⟨⟨some 24, some (19, false), .cmp .neq .i64 (.t 22) (.t 23)⟩, [], [], false⟩, ⟨⟨some 25, none, .pick (.t 19) (.c (.sc (.bool true))) (.t 24)⟩, [], [], false⟩, ⟨⟨some 26, none, .mv (.t 25)⟩, [], [], false⟩, ⟨⟨some 27, some (26, false), .fa 2 (.t 3)⟩, [], [], true⟩, ⟨⟨some 28, some (26, false), .ld false 1 (.t 27)⟩, [], [], true⟩, ⟨⟨some 29, some (26, false), .len (.t 28)⟩, [], [], true⟩, ⟨⟨some 30, some (26, false), .mv (.t 5)⟩, [], [], true⟩, ⟨⟨some 31, some (26, false), .cmp .neq .i64 (.t 29) (.t 30)⟩, [], [], false⟩, ⟨⟨some 32, none, .pick (.t 26) (.c (.sc (.bool true))) (.t 31)⟩, [], [], false⟩, ⟨⟨some 33, none, .mv (.t 32)⟩, [], [], false⟩, ⟨⟨some 34, some (33, false), .fa 3 (.t 3)⟩, [], [], true⟩, ⟨⟨some 35, some (33, false), .ld false 1 (.t 34)⟩, [], [], true⟩, ⟨⟨some 36, some (33, false), .len (.t 35)⟩, [], [], true⟩, ⟨⟨some 37, some (33, false), .mv (.t 5)⟩, [], [], true⟩, ⟨⟨some 38, some (33, false), .cmp .neq .i64 (.t 36) (.t 37)⟩, [], [], false⟩, ⟨⟨some 39, none, .pick (.t 33) (.c (.sc (.bool true))) (.t 38)⟩, [], [], false⟩])
 (.cut [0, 82, 2, 3, 5, 39] (.cond (.t 39)
 (.seq (.reg [0, 82] [
 ⟨some 4, none, .mv (.c (.sc (.int .i64 310)))⟩])
 .ret)
 .skip)))
 (.seq (.seq (.reg [0, 82, 2, 3, 5] [
 ⟨some 6, none, .mv (.c (.sc (.int .i64 0)))⟩])
 (.block 0
 (.loop [0, 82, 2, 3, 5, 6]
 (.seq (.seq (.reg [0, 82, 2, 3, 5, 6] [
 ⟨some 40, none, .mv (.t 6)⟩, ⟨some 41, none, .fa 0 (.t 3)⟩, ⟨some 42, none, .ld false 1 (.t 41)⟩, ⟨some 43, none, .len (.t 42)⟩, ⟨some 44, none, .cmp .lss .i64 (.t 40) (.t 43)⟩])
 (.cond (.t 44)
 .skip
 (.exit 0)))
 (.seq (.block 1
 (.seq (.drw [0, 82, 2, 3, 5, 6] [
 ⟨⟨some 47, none, .fa 0 (.t 3)⟩, [], [], true⟩, ⟨⟨some 48, none, .ld false 1 (.t 47)⟩, [], [], true⟩, ⟨⟨some 49, none, .mv (.t 6)⟩, [], [], true⟩, ⟨⟨some 50, none, .ixs 1 (.t 48) (.t 49)⟩, [], [], false⟩, ⟨⟨some 51, none, .ld false 1 (.t 50)⟩, [], [], false⟩, ⟨⟨some 52, none, .cmp .neq .i64 (.t 51) (.c (.sc (.int .i64 0)))⟩, [], [], false⟩, ⟨⟨some 53, none, .mv (.t 52)⟩, [], [], false⟩, ⟨⟨some 54, some (53, true), .fa 0 (.t 3)⟩, [], [], true⟩, ⟨⟨some 55, some (53, true), .ld false 1 (.t 54)⟩, [], [], true⟩, ⟨⟨some 56, some (53, true), .mv (.t 6)⟩, [], [], true⟩, ⟨⟨some 57, some (53, true), .ixs 1 (.t 55) (.t 56)⟩, [], [], false⟩, ⟨⟨some 58, some (53, true), .ld false 1 (.t 57)⟩, [], [], false⟩, ⟨⟨some 59, some (53, true), .cmp .lss .i64 (.t 58) (.c (.sc (.int .i64 0)))⟩, [], [], false⟩, ⟨⟨some 60, some (53, true), .mv (.t 59)⟩, [], [], false⟩, ⟨⟨some 61, some (60, false), .fa 0 (.t 3)⟩, [], [], true⟩, ⟨⟨some 62, some (60, false), .ld false 1 (.t 61)⟩, [], [], true⟩, ⟨⟨some 63, some (60, false), .mv (.t 6)⟩, [], [], true⟩, ⟨⟨some 64, some (60, false), .ixs 1 (.t 62) (.t 63)⟩, [], [], true⟩, ⟨⟨some 65, some (60, false), .ld false 1 (.t 64)⟩, [], [], true⟩, ⟨⟨some 66, some (60, false), .ld true 5 (.t 2)⟩, [], [], true⟩, ⟨⟨some 67, some (60, false), .mv (.t 6)⟩, [], [], true⟩, ⟨⟨some 68, some (60, false), .cal 39 [(.t 66), (.t 67)]⟩, [], [], true⟩, ⟨⟨some 69, some (60, false), .cmp .gtr .i64 (.t 65) (.t 68)⟩, [], [], false⟩, ⟨⟨some 70, some (53, true), .pick (.t 60) (.c (.sc (.bool true))) (.t 69)⟩, [], [], false⟩, ⟨⟨some 71, none, .pick (.t 53) (.t 70) (.c (.sc (.bool false)))⟩, [], [], false⟩])
 (.cut [0, 82, 2, 3, 5, 6, 71] (.cond (.t 71)
 (.seq (.reg [0, 82] [
 ⟨some 4, none, .mv (.c (.sc (.int .i64 310)))⟩])
 .ret)
 .skip))))
 (.reg [0, 82, 2, 3, 5, 6] [
 ⟨some 45, none, .mv (.t 6)⟩, ⟨some 46, none, .ari .add true .i64 (.t 45) (.c (.sc (.int .i64 1)))⟩, ⟨some 6, none, .mv (.t 46)⟩]))))))
 (.seq (.seq (.reg [0, 82, 2, 3, 5] [
 ⟨some 7, none, .mv (.c (.sc (.int .i64 0)))⟩])
 (.block 2
 (.loop [0, 82, 2, 3, 5, 7]
 (.seq (.seq (.reg [0, 82, 2, 3, 5, 7] [
 ⟨some 72, none, .mv (.t 7)⟩, ⟨some 73, none, .mv (.t 5)⟩, ⟨some 74, none, .cmp .lss .i64 (.t 72) (.t 73)⟩])
 (.cond (.t 74)
 .skip
 (.exit 2)))
 (.seq (.block 3
 (.seq (.reg [0, 82, 2, 3, 5, 7] [
 ⟨some 77, none, .ld true 5 (.t 2)⟩, ⟨some 78, none, .ld true 4 (.t 3)⟩, ⟨some 79, none, .mv (.t 7)⟩, ⟨some 80, none, .cal 44 [(.t 77), (.t 78), (.t 79)]⟩, ⟨some 81, none, .not (.t 80)⟩])
 (.cond (.t 81)
 (.seq (.reg [0, 82] [
 ⟨some 4, none, .mv (.c (.sc (.int .i64 310)))⟩])
 .ret)
 .skip)))
 (.reg [0, 82, 2, 3, 5, 7] [
 ⟨some 75, none, .mv (.t 7)⟩, ⟨some 76, none, .ari .add true .i64 (.t 75) (.c (.sc (.int .i64 1)))⟩, ⟨some 7, none, .mv (.t 76)⟩]))))))
 (.seq (.reg [0, 82] [
 ⟨some 4, none, .mv (.c (.sc (.int .i64 0)))⟩])
 .ret))))))
def rv19 : List RV := [.tmp 4]
theorem ok19 : fnOk Try.prog ac19 rv19 Try.f19 = true := by kernel_rfl

def ac21 : AC :=
 (.seq (.reg [0, 19, 0] [
 ⟨some 1, none, .box (.t 0)⟩, ⟨some 2, none, .alc [.nil, .nil, .nil, .nil]⟩])
 (.seq (.reg [0, 19, 1, 2] [
 ⟨some 4, none, .fa 0 (.t 1)⟩, ⟨some 5, none, .ld false 1 (.t 4)⟩, ⟨some 6, none, .fa 1 (.t 1)⟩, ⟨some 7, none, .ld false 1 (.t 6)⟩, ⟨some 8, none, .ari .mul true .i64 (.t 5) (.t 7)⟩, ⟨some 3, none, .mv (.t 8)⟩])
 (.seq (.drw [0, 19, 1, 2, 3] [
 ⟨⟨some 9, none, .ld true 5 (.t 1)⟩, [], [13, 15, 17], true⟩, ⟨⟨some 10, none, .cal 22 [(.t 9)]⟩, [], [13, 15, 17], true⟩, ⟨⟨some 11, none, .mks 1 3 8 [.sc (.int .i64 0)] (.t 10) (.t 10)⟩, [11], [13, 15, 17], true⟩, ⟨⟨some 12, none, .mv (.t 3)⟩, [], [11, 15, 17], true⟩, ⟨⟨some 13, none, .mks 1 3 8 [.sc (.int .i64 0)] (.t 12) (.t 12)⟩, [13], [11, 15, 17], true⟩, ⟨⟨some 14, none, .mv (.t 3)⟩, [], [11, 13, 17], true⟩, ⟨⟨some 15, none, .mks 1 3 8 [.sc (.int .i64 0)] (.t 14) (.t 14)⟩, [15], [11, 13, 17], true⟩, ⟨⟨some 16, none, .mv (.t 3)⟩, [], [11, 13, 15], true⟩, ⟨⟨some 17, none, .mks 1 3 8 [.sc (.int .i64 0)] (.t 16) (.t 16)⟩, [17], [11, 13, 15], true⟩, ⟨⟨some 18, none, .bld [.nil, .nil, .nil, .nil] [(0, 1, (.t 11)), (1, 1, (.t 13)), (2, 1, (.t 15)), (3, 1, (.t 17))]⟩, [], [], false⟩, ⟨⟨none, none, .sto 4 (.t 2) (.t 18)⟩, [], [], false⟩])
 .ret)))
def rv21 : List RV := [.cell 2 true 4]
theorem ok21 : fnOk Try.prog ac21 rv21 Try.f21 = true := by kernel_rfl

def ac23 : AC :=
 (.seq (.reg [0, 19, 0, 1, 2] [
 ⟨some 3, none, .box (.t 0)⟩, ⟨some 4, none, .box (.t 1)⟩, ⟨some 6, none, .alc [.sc (.int .i64 0), .sc (.int .i64 0)]⟩])
 (.seq (.reg [0, 19, 2, 3, 4, 6] [
 ⟨some 10, none, .ld true 5 (.t 3)⟩, ⟨some 11, none, .ld true 4 (.t 4)⟩, ⟨some 12, none, .mv (.t 2)⟩, ⟨some 13, none, .cal 46 [(.t 10), (.t 11), (.t 12)]⟩, ⟨some 9, none, .mv (.t 13)⟩, ⟨some 14, none, .ext (.t 9) 0⟩, ⟨some 15, none, .ext (.t 9) 1⟩, ⟨some 7, none, .mv (.t 14)⟩, ⟨some 8, none, .mv (.t 15)⟩])
 (.seq (.reg [0, 19, 6, 7, 8] [
 ⟨some 16, none, .mv (.t 7)⟩, ⟨some 17, none, .mv (.t 8)⟩, ⟨some 18, none, .bld [.sc (.int .i64 0), .sc (.int .i64 0)] [(0, 1, (.t 16)), (1, 1, (.t 17))]⟩, ⟨none, none, .sto 2 (.t 6) (.t 18)⟩])
 .ret)))
def rv23 : List RV := [.cell 6 true 2]
theorem ok23 : fnOk Try.prog ac23 rv23 Try.f23 = true := by kernel_rfl

def ac27 : AC :=
 (.seq (.reg [0, 26, 0, 1] [
 ⟨some 2, none, .box (.t 0)⟩, ⟨some 3, none, .box (.t 1)⟩, ⟨some 4, none, .mv (.c (.nil))⟩])
 (.seq (.reg [0, 26, 3] [
 ⟨some 7, none, .bsl 1 3 [.sc (.int .i64 0)] 0 []⟩, ⟨some 5, none, .mv (.t 7)⟩])
 (.seq (.seq (.reg [0, 26, 3, 5] [
 ⟨some 6, none, .mv (.c (.sc (.int .i64 0)))⟩])
 (.block 0
 (.loop [0, 26, 3, 5, 6]
 (.seq (.seq (.reg [0, 26, 3, 5, 6] [
 ⟨some 8, none, .mv (.t 6)⟩, ⟨some 9, none, .fa 0 (.t 3)⟩, ⟨some 10, none, .ld false 1 (.t 9)⟩, ⟨some 11, none, .len (.t 10)⟩, ⟨some 12, none, .cmp .lss .i64 (.t 8) (.t 11)⟩])
 (.cond (.t 12)
 .skip
 (.exit 0)))
 (.seq (.block 1
 (.seq (.reg [0, 26, 3, 5, 6] [
 ⟨some 15, none, .fa 0 (.t 3)⟩, ⟨some 16, none, .ld false 1 (.t 15)⟩, ⟨some 17, none, .mv (.t 6)⟩, ⟨some 18, none, .ixs 1 (.t 16) (.t 17)⟩, ⟨some 19, none, .ld false 1 (.t 18)⟩, ⟨some 20, none, .cmp .neq .i64 (.t 19) (.c (.sc (.int .i64 0)))⟩])
 (.cond (.t 20)
 (.reg [0, 26, 3, 5, 6] [
 ⟨some 21, none, .mv (.t 5)⟩, ⟨some 22, none, .mv (.t 6)⟩, ⟨some 23, none, .bsl 1 3 [.sc (.int .i64 0)] 1 [(0, (.t 22))]⟩, ⟨some 24, none, .app 1 3 8 (.t 21) (.t 23)⟩, ⟨some 5, none, .mv (.t 24)⟩])
 .skip)))
 (.reg [0, 26, 3, 5, 6] [
 ⟨some 13, none, .mv (.t 6)⟩, ⟨some 14, none, .ari .add true .i64 (.t 13) (.c (.sc (.int .i64 1)))⟩, ⟨some 6, none, .mv (.t 14)⟩]))))))
 (.seq (.reg [0, 26, 5] [
 ⟨some 25, none, .mv (.t 5)⟩, ⟨some 4, none, .mv (.t 25)⟩])
 .ret))))
def rv27 : List RV := [.tmp 4]
theorem ok27 : fnOk Try.prog ac27 rv27 Try.f27 = true := by kernel_rfl

def ac28 : AC :=
 (.seq (.reg [0, 16, 0, 1] [
 ⟨some 2, none, .box (.t 0)⟩, ⟨some 3, none, .box (.t 1)⟩, ⟨some 4, none, .alc [.nil, .nil]⟩])
 (.seq (.reg [0, 16, 2, 3, 4] [
 ⟨some 8, none, .ld true 4 (.t 2)⟩, ⟨some 9, none, .ld true 4 (.t 3)⟩, ⟨some 10, none, .cal 47 [(.t 8), (.t 9)]⟩, ⟨some 7, none, .mv (.t 10)⟩, ⟨some 11, none, .ext (.t 7) 0⟩, ⟨some 12, none, .ext (.t 7) 1⟩, ⟨some 5, none, .mv (.t 11)⟩, ⟨some 6, none, .mv (.t 12)⟩])
 (.seq (.reg [0, 16, 4, 5, 6] [
 ⟨some 13, none, .mv (.t 5)⟩, ⟨some 14, none, .mv (.t 6)⟩, ⟨some 15, none, .bld [.nil, .nil] [(0, 1, (.t 13)), (1, 1, (.t 14))]⟩, ⟨none, none, .sto 2 (.t 4) (.t 15)⟩])
 .ret)))
def rv28 : List RV := [.cell 4 true 2]
theorem ok28 : fnOk Try.prog ac28 rv28 Try.f28 = true := by kernel_rfl

def ac32 : AC :=
 (.seq (.reg [0, 36, 0, 1, 2] [
 ⟨some 3, none, .box (.t 0)⟩, ⟨some 4, none, .box (.t 1)⟩, ⟨some 6, none, .mv (.c (.sc (.int .i64 0)))⟩])
 (.seq (.reg [0, 36, 2, 3, 4] [
 ⟨some 8, none, .ld true 5 (.t 3)⟩, ⟨some 9, none, .mv (.t 2)⟩, ⟨some 10, none, .cal 31 [(.t 8), (.t 9)]⟩, ⟨some 7, none, .mv (.t 10)⟩])
 (.seq (.seq (.reg [0, 36, 2, 4, 7] [
 ⟨some 11, none, .fa 0 (.t 4)⟩, ⟨some 12, none, .ld false 1 (.t 11)⟩, ⟨some 13, none, .mv (.t 2)⟩, ⟨some 14, none, .ixs 1 (.t 12) (.t 13)⟩, ⟨some 15, none, .ld false 1 (.t 14)⟩, ⟨some 16, none, .cmp .eql .i64 (.t 15) (.c (.sc (.int .i64 0)))⟩, ⟨some 17, none, .mv (.t 16)⟩, ⟨some 18, some (17, false), .fa 0 (.t 4)⟩, ⟨some 19, some (17, false), .ld false 1 (.t 18)⟩, ⟨some 20, some (17, false), .mv (.t 2)⟩, ⟨some 21, some (17, false), .ixs 1 (.t 19) (.t 20)⟩, ⟨some 22, some (17, false), .ld false 1 (.t 21)⟩, ⟨some 23, some (17, false), .mv (.t 7)⟩, ⟨some 24, some (17, false), .len (.t 23)⟩, ⟨some 25, some (17, false), .cmp .gtr .i64 (.t 22) (.t 24)⟩, ⟨some 26, none, .pick (.t 17) (.c (.sc (.bool true))) (.t 25)⟩])
 (.cut [0, 36, 2, 4, 7, 26] (.cond (.t 26)
 (.seq (.reg [0, 36] [
 ⟨some 6, none, .mv (.c (.sc (.int .i64 (-1))))⟩])
 .ret)
 .skip)))
 (.seq (.reg [0, 36, 2, 4, 7] [
 ⟨some 27, none, .mv (.t 7)⟩, ⟨some 28, none, .fa 0 (.t 4)⟩, ⟨some 29, none, .ld false 1 (.t 28)⟩, ⟨some 30, none, .mv (.t 2)⟩, ⟨some 31, none, .ixs 1 (.t 29) (.t 30)⟩, ⟨some 32, none, .ld false 1 (.t 31)⟩, ⟨some 33, none, .ari .sub true .i64 (.t 32) (.c (.sc (.int .i64 1)))⟩, ⟨some 34, none, .ixs 1 (.t 27) (.t 33)⟩, ⟨some 35, none, .ld false 1 (.t 34)⟩, ⟨some 6, none, .mv (.t 35)⟩])
 .ret))))
def rv32 : List RV := [.tmp 6]
theorem ok32 : fnOk Try.prog ac32 rv32 Try.f32 = true := by kernel_rfl

def ac33 : AC :=
 (.seq (.reg [0, 3] [
 ⟨some 0, none, .alc [.sc (.int .i64 0), .sc (.int .i64 0), .sc (.int .i64 0), .sc (.int .i64 0), .nil]⟩])
 (.seq (.reg [0, 3, 0] [
 ⟨some 1, none, .bsl 1 3 [.sc (.int .i64 0)] 2 [(0, (.c (.sc (.int .i64 1)))), (1, (.c (.sc (.int .i64 2))))]⟩, ⟨some 2, none, .bld [.sc (.int .i64 0), .sc (.int .i64 0), .sc (.int .i64 0), .sc (.int .i64 0), .nil] [(0, 1, (.c (.sc (.int .i64 2)))), (1, 1, (.c (.sc (.int .i64 1)))), (2, 1, (.c (.sc (.int .i64 1)))), (3, 1, (.c (.sc (.int .i64 1)))), (4, 1, (.t 1))]⟩, ⟨none, none, .sto 5 (.t 0) (.t 2)⟩])
 .ret))
def rv33 : List RV := [.cell 0 true 5]
theorem ok33 : fnOk Try.prog ac33 rv33 Try.f33 = true := by kernel_rfl

def ac44 : AC :=
 (.seq (.reg [0, 109, 0, 1, 2] [
 ⟨some 3, none, .box (.t 0)⟩, ⟨some 4, none, .box (.t 1)⟩, ⟨some 6, none, .mv (.c (.sc (.bool false)))⟩])
 (.seq (.reg [0, 109, 2, 3, 4] [
 ⟨some 10, none, .fa 1 (.t 4)⟩, ⟨some 11, none, .ld false 1 (.t 10)⟩, ⟨some 12, none, .mv (.t 2)⟩, ⟨some 13, none, .ixs 1 (.t 11) (.t 12)⟩, ⟨some 14, none, .ld false 1 (.t 13)⟩, ⟨some 7, none, .mv (.t 14)⟩])
 (.seq (.seq (.reg [0, 109, 2, 3, 4, 7] [
 ⟨some 15, none, .mv (.t 7)⟩, ⟨some 16, none, .cmp .lss .i64 (.t 15) (.c (.sc (.int .i64 0)))⟩, ⟨some 17, none, .mv (.t 16)⟩, ⟨some 18, some (17, false), .mv (.t 7)⟩, ⟨some 19, some (17, false), .cmp .gtr .i64 (.t 18) (.c (.sc (.int .i64 3)))⟩, ⟨some 20, none, .pick (.t 17) (.c (.sc (.bool true))) (.t 19)⟩, ⟨some 21, none, .mv (.t 20)⟩, ⟨some 22, some (21, false), .fa 4 (.t 3)⟩, ⟨some 23, some (21, false), .ld false 1 (.t 22)⟩, ⟨some 24, some (21, false), .mv (.t 2)⟩, ⟨some 25, some (21, false), .ixs 1 (.t 23) (.t 24)⟩, ⟨some 26, some (21, false), .ld false 1 (.t 25)⟩, ⟨some 27, some (21, false), .cmp .eql .i64 (.t 26) (.c (.sc (.int .i64 0)))⟩, ⟨some 28, some (21, false), .mv (.t 27)⟩, ⟨some 29, some (28, true), .mv (.t 7)⟩, ⟨some 30, some (28, true), .cmp .neq .i64 (.t 29) (.c (.sc (.int .i64 0)))⟩, ⟨some 31, some (21, false), .pick (.t 28) (.t 30) (.c (.sc (.bool false)))⟩, ⟨some 32, none, .pick (.t 21) (.c (.sc (.bool true))) (.t 31)⟩, ⟨some 33, none, .mv (.t 32)⟩, ⟨some 34, some (33, false), .fa 4 (.t 3)⟩, ⟨some 35, some (33, false), .ld false 1 (.t 34)⟩, ⟨some 36, some (33, false), .mv (.t 2)⟩, ⟨some 37, some (33, false), .ixs 1 (.t 35) (.t 36)⟩, ⟨some 38, some (33, false), .ld false 1 (.t 37)⟩, ⟨some 39, some (33, false), .cmp .eql .i64 (.t 38) (.c (.sc (.int .i64 1)))⟩, ⟨some 40, some (33, false), .mv (.t 39)⟩, ⟨some 41, some (40, true), .mv (.t 7)⟩, ⟨some 42, some (40, true), .cmp .eql .i64 (.t 41) (.c (.sc (.int .i64 3)))⟩, ⟨some 43, some (33, false), .pick (.t 40) (.t 42) (.c (.sc (.bool false)))⟩, ⟨some 44, none, .pick (.t 33) (.c (.sc (.bool true))) (.t 43)⟩])
 (.cut [0, 109, 2, 4, 7, 44] (.cond (.t 44)
 (.seq (.reg [0, 109] [
 ⟨some 6, none, .mv (.c (.sc (.bool false)))⟩])
 .ret)
 .skip)))
 (.seq (.reg [0, 109, 2, 4, 7] [
 ⟨some 45, none, .mv (.t 7)⟩, ⟨some 46, none, .cmp .eql .i64 (.t 45) (.c (.sc (.int .i64 1)))⟩, ⟨some 47, none, .mv (.t 46)⟩, ⟨some 48, some (47, false), .mv (.t 7)⟩, ⟨some 49, some (47, false), .cmp .eql .i64 (.t 48) (.c (.sc (.int .i64 2)))⟩, ⟨some 50, none, .pick (.t 47) (.c (.sc (.bool true))) (.t 49)⟩, ⟨some 51, none, .mv (.t 7)⟩, ⟨some 52, none, .cmp .eql .i64 (.t 51) (.c (.sc (.int .i64 2)))⟩, ⟨some 53, none, .mv (.t 52)⟩, ⟨some 54, some (53, false), .mv (.t 7)⟩, ⟨some 55, some (53, false), .cmp .eql .i64 (.t 54) (.c (.sc (.int .i64 3)))⟩, ⟨some 56, none, .pick (.t 53) (.c (.sc (.bool true))) (.t 55)⟩, ⟨some 8, none, .mv (.t 50)⟩, ⟨some 9, none, .mv (.t 56)⟩])
 (.cut [0, 109, 2, 4, 8, 9] (.seq (.reg [0, 109, 2, 4, 8, 9] [
 ⟨some 57, none, .fa 2 (.t 4)⟩, ⟨some 58, none, .ld false 1 (.t 57)⟩, ⟨some 59, none, .mv (.t 2)⟩, ⟨some 60, none, .ixs 1 (.t 58) (.t 59)⟩, ⟨some 61, none, .ld false 1 (.t 60)⟩, ⟨some 62, none, .cmp .geq .i64 (.t 61) (.c (.sc (.int .i64 0)))⟩, ⟨some 63, none, .mv (.t 62)⟩, ⟨some 64, some (63, true), .fa 2 (.t 4)⟩, ⟨some 65, some (63, true), .ld false 1 (.t 64)⟩, ⟨some 66, some (63, true), .mv (.t 2)⟩, ⟨some 67, some (63, true), .ixs 1 (.t 65) (.t 66)⟩, ⟨some 68, some (63, true), .ld false 1 (.t 67)⟩, ⟨some 69, some (63, true), .cmp .leq .i64 (.t 68) (.c (.sc (.int .i64 65535)))⟩, ⟨some 70, none, .pick (.t 63) (.t 69) (.c (.sc (.bool false)))⟩, ⟨some 71, none, .mv (.t 70)⟩, ⟨some 72, some (71, true), .mv (.t 8)⟩, ⟨some 73, some (71, true), .mv (.t 72)⟩, ⟨some 74, some (73, false), .fa 2 (.t 4)⟩, ⟨some 75, some (73, false), .ld false 1 (.t 74)⟩, ⟨some 76, some (73, false), .mv (.t 2)⟩, ⟨some 77, some (73, false), .ixs 1 (.t 75) (.t 76)⟩, ⟨some 78, some (73, false), .ld false 1 (.t 77)⟩, ⟨some 79, some (73, false), .cmp .eql .i64 (.t 78) (.c (.sc (.int .i64 0)))⟩, ⟨some 80, some (71, true), .pick (.t 73) (.c (.sc (.bool true))) (.t 79)⟩, ⟨some 81, none, .pick (.t 71) (.t 80) (.c (.sc (.bool false)))⟩, ⟨some 82, none, .mv (.t 81)⟩, ⟨some 83, some (82, true), .fa 3 (.t 4)⟩, ⟨some 84, some (82, true), .ld false 1 (.t 83)⟩, ⟨some 85, some (82, true), .mv (.t 2)⟩, ⟨some 86, some (82, true), .ixs 1 (.t 84) (.t 85)⟩, ⟨some 87, some (82, true), .ld false 1 (.t 86)⟩, ⟨some 88, some (82, true), .cmp .geq .i64 (.t 87) (.c (.sc (.int .i64 0)))⟩, ⟨some 89, none, .pick (.t 82) (.t 88) (.c (.sc (.bool false)))⟩, ⟨some 90, none, .mv (.t 89)⟩, ⟨some 91, some (90, true), .fa 3 (.t 4)⟩, ⟨some 92, some (90, true), .ld false 1 (.t 91)⟩, ⟨some 93, some (90, true), .mv (.t 2)⟩, ⟨some 94, some (90, true), .ixs 1 (.t 92) (.t 93)⟩, ⟨some 95, some (90, true), .ld false 1 (.t 94)⟩, ⟨some 96, some (90, true), .cmp .leq .i64 (.t 95) (.c (.sc (.int .i64 255)))⟩, ⟨some 97, none, .pick (.t 90) (.t 96) (.c (.sc (.bool false)))⟩, ⟨some 98, none, .mv (.t 97)⟩, ⟨some 99, some (98, true), .mv (.t 9)⟩, ⟨some 100, some (98, true), .mv (.t 99)⟩, ⟨some 101, some (100, false), .fa 3 (.t 4)⟩, ⟨some 102, some (100, false), .ld false 1 (.t 101)⟩, ⟨some 103, some (100, false), .mv (.t 2)⟩, ⟨some 104, some (100, false), .ixs 1 (.t 102) (.t 103)⟩, ⟨some 105, some (100, false), .ld false 1 (.t 104)⟩, ⟨some 106, some (100, false), .cmp .eql .i64 (.t 105) (.c (.sc (.int .i64 0)))⟩, ⟨some 107, some (98, true), .pick (.t 100) (.c (.sc (.bool true))) (.t 106)⟩, ⟨some 108, none, .pick (.t 98) (.t 107) (.c (.sc (.bool false)))⟩, ⟨some 6, none, .mv (.t 108)⟩])
 .ret))))))
def rv44 : List RV := [.tmp 6]
theorem ok44 : fnOk Try.prog ac44 rv44 Try.f44 = true := by kernel_rfl

def ac46 : AC :=
 (.seq (.reg [0, 48, 0, 1, 2] [
 ⟨some 3, none, .box (.t 0)⟩, ⟨some 4, none, .box (.t 1)⟩, ⟨some 6, none, .mv (.c (.sc (.int .i64 0)))⟩, ⟨some 7, none, .mv (.c (.sc (.int .i64 0)))⟩])
 (.seq (.seq (.reg [0, 48, 2, 3, 4] [
 ⟨some 10, none, .mv (.t 2)⟩, ⟨some 11, none, .fa 0 (.t 4)⟩, ⟨some 12, none, .ld false 1 (.t 11)⟩, ⟨some 13, none, .len (.t 12)⟩, ⟨some 14, none, .ari .sub true .i64 (.t 13) (.c (.sc (.int .i64 1)))⟩, ⟨some 15, none, .cal 41 [(.t 10), (.c (.sc (.int .i64 0))), (.t 14)]⟩, ⟨some 16, none, .not (.t 15)⟩])
 (.cond (.t 16)
 (.seq (.reg [0, 48] [
 ⟨some 6, none, .mv (.c (.sc (.int .i64 0)))⟩, ⟨some 7, none, .mv (.c (.sc (.int .i64 4)))⟩])
 .ret)
 .skip))
 (.seq (.seq (.reg [0, 48, 2, 3, 4] [
 ⟨some 17, none, .mkm (.int .i64)⟩, ⟨some 8, none, .mv (.t 17)⟩])
 (.block 0
 (.loop [0, 48, 2, 3, 4, 8]
 (.seq (.seq (.reg [0, 48, 2, 3, 4, 8] [
 ⟨some 18, none, .mv (.t 8)⟩, ⟨some 19, none, .mv (.t 2)⟩, ⟨some 20, none, .mlk (.int .i64) false (.sc (.bool false)) (.t 18) (.t 19)⟩, ⟨some 21, none, .not (.t 20)⟩])
 (.cond (.t 21)
 .skip
 (.exit 0)))
 (.block 1
 (.seq (.reg [0, 48, 2, 3, 4, 8] [
 ⟨some 22, none, .mv (.t 8)⟩, ⟨some 23, none, .mv (.t 2)⟩, ⟨none, none, .mup (.int .i64) (.t 22) (.t 23) (.c (.sc (.bool true)))⟩])
 (.seq (.reg [0, 48, 2, 3, 4, 8] [
 ⟨some 24, none, .ld true 5 (.t 3)⟩, ⟨some 25, none, .mv (.t 2)⟩, ⟨some 26, none, .cal 42 [(.t 24), (.t 25)]⟩, ⟨some 9, none, .mv (.t 26)⟩])
 (.seq (.block 2
 (.seq (.reg [0, 48, 2, 3, 4, 8, 9] [
 ⟨some 28, none, .mv (.t 9)⟩, ⟨some 29, none, .len (.t 28)⟩, ⟨some 30, none, .cmp .eql .i64 (.t 29) (.c (.sc (.int .i64 0)))⟩, ⟨some 27, none, .mv (.t 30)⟩])
 (.cond (.t 27)
 (.seq (.reg [0, 48, 2] [
 ⟨some 31, none, .mv (.t 2)⟩, ⟨some 6, none, .mv (.t 31)⟩, ⟨some 7, none, .mv (.c (.sc (.int .i64 0)))⟩])
 .ret)
 (.seq (.reg [0, 48, 2, 3, 4, 8, 9] [
 ⟨some 33, none, .fa 0 (.t 4)⟩, ⟨some 34, none, .ld false 1 (.t 33)⟩, ⟨some 35, none, .mv (.t 2)⟩, ⟨some 36, none, .ixs 1 (.t 34) (.t 35)⟩, ⟨some 37, none, .ld false 1 (.t 36)⟩, ⟨some 38, none, .cmp .eql .i64 (.t 37) (.c (.sc (.int .i64 0)))⟩, ⟨some 32, none, .mv (.t 38)⟩])
 (.cond (.t 32)
 (.seq (.reg [0, 48] [
 ⟨some 6, none, .mv (.c (.sc (.int .i64 0)))⟩, ⟨some 7, none, .mv (.c (.sc (.int .i64 4)))⟩])
 .ret)
 .skip)))))
 (.reg [0, 48, 2, 3, 4, 8, 9] [
 ⟨some 39, none, .mv (.t 9)⟩, ⟨some 40, none, .fa 0 (.t 4)⟩, ⟨some 41, none, .ld false 1 (.t 40)⟩, ⟨some 42, none, .mv (.t 2)⟩, ⟨some 43, none, .ixs 1 (.t 41) (.t 42)⟩, ⟨some 44, none, .ld false 1 (.t 43)⟩, ⟨some 45, none, .ari .sub true .i64 (.t 44) (.c (.sc (.int .i64 1)))⟩, ⟨some 46, none, .ixs 1 (.t 39) (.t 45)⟩, ⟨some 47, none, .ld false 1 (.t 46)⟩, ⟨some 2, none, .mv (.t 47)⟩])))))))))
 (.seq (.reg [0, 48] [
 ⟨some 6, none, .mv (.c (.sc (.int .i64 0)))⟩, ⟨some 7, none, .mv (.c (.sc (.int .i64 50)))⟩])
 .ret))))
def rv46 : List RV := [.tmp 6, .tmp 7]
theorem ok46 : fnOk Try.prog ac46 rv46 Try.f46 = true := by kernel_rfl

def ac9 : AC :=
 (.seq (.reg [0, 143] [
 ⟨some 0, none, .mv (.c (.sc (.bool false)))⟩])
 (.seq (.reg [0, 143] [
 ⟨some 5, none, .cal 33 []⟩, ⟨some 6, none, .bsl 1 3 [.sc (.int .i64 0)] 3 [(0, (.c (.sc (.int .i64 0)))), (1, (.c (.sc (.int .i64 6)))), (2, (.c (.sc (.int .i64 10))))]⟩, ⟨some 7, none, .bsl 1 3 [.sc (.int .i64 0)] 3 [(0, (.c (.sc (.int .i64 (-1))))), (1, (.c (.sc (.int .i64 0)))), (2, (.c (.sc (.int .i64 1))))]⟩, ⟨some 8, none, .bld [.sc (.int .i64 0), .nil, .nil] [(1, 1, (.t 6)), (2, 1, (.t 7))]⟩, ⟨some 9, none, .bsl 3 72 [.sc (.int .i64 0), .nil, .nil] 1 [(0, (.t 8))]⟩, ⟨some 10, none, .bld [.nil, .nil] [(1, 1, (.t 9))]⟩, ⟨some 11, none, .bld [.sc (.int .i64 0), .sc (.int .i64 0), .sc (.int .i64 0), .sc (.int .i64 0), .nil, .nil, .nil, .nil, .nil, .nil, .nil] [(0, 5, (.t 5)), (9, 2, (.t 10))]⟩, ⟨some 1, none, .alc [.sc (.int .i64 0), .sc (.int .i64 0), .sc (.int .i64 0), .sc (.int .i64 0), .nil, .nil, .nil, .nil, .nil, .nil, .nil]⟩, ⟨none, none, .sto 11 (.t 1) (.t 11)⟩])
 (.seq (.reg [0, 143, 1] [
 ⟨some 12, none, .ld true 11 (.t 1)⟩, ⟨some 13, none, .cal 13 [(.t 12)]⟩, ⟨some 2, none, .alc [.nil, .nil, .nil, .nil, .sc (.int .i64 0)]⟩, ⟨none, none, .sto 5 (.t 2) (.t 13)⟩])
 (.seq (.seq (.reg [0, 143, 1, 2] [
 ⟨some 14, none, .fa 4 (.t 2)⟩, ⟨some 15, none, .ld false 1 (.t 14)⟩, ⟨some 16, none, .cmp .neq .i64 (.t 15) (.c (.sc (.int .i64 0)))⟩, ⟨some 17, none, .mv (.t 16)⟩, ⟨some 18, some (17, false), .fa 0 (.t 1)⟩, ⟨some 19, some (17, false), .ld true 5 (.t 18)⟩, ⟨some 20, some (17, false), .fa 0 (.t 2)⟩, ⟨some 21, some (17, false), .ld true 4 (.t 20)⟩, ⟨some 22, some (17, false), .cal 19 [(.t 19), (.t 21)]⟩, ⟨some 23, some (17, false), .cmp .neq .i64 (.t 22) (.c (.sc (.int .i64 0)))⟩, ⟨some 24, none, .pick (.t 17) (.c (.sc (.bool true))) (.t 23)⟩, ⟨some 25, none, .mv (.t 24)⟩, ⟨some 26, some (25, false), .fa 0 (.t 2)⟩, ⟨some 27, some (25, false), .fa 0 (.t 26)⟩, ⟨some 28, some (25, false), .ld false 1 (.t 27)⟩, ⟨some 29, some (25, false), .len (.t 28)⟩, ⟨some 30, some (25, false), .cmp .neq .i64 (.t 29) (.c (.sc (.int .i64 18)))⟩, ⟨some 31, none, .pick (.t 25) (.c (.sc (.bool true))) (.t 30)⟩, ⟨some 32, none, .mv (.t 31)⟩, ⟨some 33, some (32, false), .fa 0 (.t 2)⟩, ⟨some 34, some (32, false), .fa 0 (.t 33)⟩, ⟨some 35, some (32, false), .ld false 1 (.t 34)⟩, ⟨some 36, some (32, false), .ixs 1 (.t 35) (.c (.sc (.int .i64 6)))⟩, ⟨some 37, some (32, false), .ld false 1 (.t 36)⟩, ⟨some 38, some (32, false), .cmp .neq .i64 (.t 37) (.c (.sc (.int .i64 1)))⟩, ⟨some 39, none, .pick (.t 32) (.c (.sc (.bool true))) (.t 38)⟩, ⟨some 40, none, .mv (.t 39)⟩, ⟨some 41, some (40, false), .fa 0 (.t 2)⟩, ⟨some 42, some (40, false), .fa 0 (.t 41)⟩, ⟨some 43, some (40, false), .ld false 1 (.t 42)⟩, ⟨some 44, some (40, false), .ixs 1 (.t 43) (.c (.sc (.int .i64 10)))⟩, ⟨some 45, some (40, false), .ld false 1 (.t 44)⟩, ⟨some 46, some (40, false), .cmp .neq .i64 (.t 45) (.c (.sc (.int .i64 1)))⟩, ⟨some 47, none, .pick (.t 40) (.c (.sc (.bool true))) (.t 46)⟩, ⟨some 48, none, .mv (.t 47)⟩, ⟨some 49, some (48, false), .fa 0 (.t 1)⟩, ⟨some 50, some (48, false), .ld true 5 (.t 49)⟩, ⟨some 51, some (48, false), .fa 0 (.t 2)⟩, ⟨some 52, some (48, false), .ld true 4 (.t 51)⟩, ⟨some 53, some (48, false), .cal 18 [(.t 50), (.t 52)]⟩, ⟨some 54, some (48, false), .cmp .neq .i64 (.t 53) (.c (.sc (.int .i64 0)))⟩, ⟨some 55, none, .pick (.t 48) (.c (.sc (.bool true))) (.t 54)⟩, ⟨some 56, none, .mv (.t 55)⟩, ⟨some 57, some (56, false), .fa 0 (.t 1)⟩, ⟨some 58, some (56, false), .ld true 5 (.t 57)⟩, ⟨some 59, some (56, false), .fa 0 (.t 2)⟩, ⟨some 60, some (56, false), .ld true 4 (.t 59)⟩, ⟨some 61, some (56, false), .cal 26 [(.t 58), (.t 60)]⟩, ⟨some 62, some (56, false), .bsl 1 3 [.sc (.int .i64 0)] 2 [(0, (.c (.sc (.int .i64 6)))), (1, (.c (.sc (.int .i64 10))))]⟩, ⟨some 63, some (56, false), .cal 25 [(.t 61), (.t 62)]⟩, ⟨some 64, some (56, false), .not (.t 63)⟩, ⟨some 65, none, .pick (.t 56) (.c (.sc (.bool true))) (.t 64)⟩, ⟨some 66, none, .mv (.t 65)⟩, ⟨some 67, some (66, false), .fa 0 (.t 1)⟩, ⟨some 68, some (66, false), .ld true 5 (.t 67)⟩, ⟨some 69, some (66, false), .fa 0 (.t 2)⟩, ⟨some 70, some (66, false), .ld true 4 (.t 69)⟩, ⟨some 71, some (66, false), .cal 23 [(.t 68), (.t 70), (.c (.sc (.int .i64 10)))]⟩, ⟨some 72, some (66, false), .bld [.sc (.int .i64 0), .sc (.int .i64 0)] []⟩, ⟨some 73, some (66, false), .eqa true 2 (.t 71) (.t 72)⟩, ⟨some 74, none, .pick (.t 66) (.c (.sc (.bool true))) (.t 73)⟩, ⟨some 75, none, .mv (.t 74)⟩, ⟨some 76, some (75, false), .fa 0 (.t 1)⟩, ⟨some 77, some (75, false), .ld true 5 (.t 76)⟩, ⟨some 78, some (75, false), .fa 0 (.t 2)⟩, ⟨some 79, some (75, false), .ld true 4 (.t 78)⟩, ⟨some 80, some (75, false), .cal 23 [(.t 77), (.t 79), (.c (.sc (.int .i64 11)))]⟩, ⟨some 81, some (75, false), .fl false 1 1 (.t 80)⟩, ⟨some 82, some (75, false), .cmp .neq .i64 (.t 81) (.c (.sc (.int .i64 4)))⟩, ⟨some 83, none, .pick (.t 75) (.c (.sc (.bool true))) (.t 82)⟩])
 (.cut [0, 143, 1, 2, 83] (.cond (.t 83)
 (.seq (.reg [0, 143] [
 ⟨some 0, none, .mv (.c (.sc (.bool false)))⟩])
 .ret)
 .skip)))
 (.seq (.reg [0, 143, 1, 2] [
 ⟨some 84, none, .fa 0 (.t 2)⟩, ⟨some 85, none, .ld true 4 (.t 84)⟩, ⟨some 3, none, .alc [.nil, .nil, .nil, .nil]⟩, ⟨none, none, .sto 4 (.t 3) (.t 85)⟩])
 (.seq (.reg [0, 143, 1, 2, 3] [
 ⟨some 86, none, .bsl 1 3 [.sc (.int .i64 0)] 0 []⟩, ⟨some 87, none, .fa 0 (.t 2)⟩, ⟨some 88, none, .fa 0 (.t 87)⟩, ⟨some 89, none, .ld false 1 (.t 88)⟩, ⟨some 90, none, .app 1 3 8 (.t 86) (.t 89)⟩, ⟨some 91, none, .fa 0 (.t 3)⟩, ⟨none, none, .sto 1 (.t 91) (.t 90)⟩])
 (.seq (.reg [0, 143, 1, 2, 3] [
 ⟨some 92, none, .fa 0 (.t 3)⟩, ⟨some 93, none, .ld false 1 (.t 92)⟩, ⟨some 94, none, .ixs 1 (.t 93) (.c (.sc (.int .i64 6)))⟩, ⟨none, none, .sto 1 (.t 94) (.c (.sc (.int .i64 6)))⟩])
 (.seq (.reg [0, 143, 1, 2, 3] [
 ⟨some 95, none, .fa 0 (.t 3)⟩, ⟨some 96, none, .ld false 1 (.t 95)⟩, ⟨some 97, none, .ixs 1 (.t 96) (.c (.sc (.int .i64 14)))⟩, ⟨none, none, .sto 1 (.t 97) (.c (.sc (.int .i64 1)))⟩])
 (.seq (.reg [0, 143, 1, 2, 3] [
 ⟨some 98, none, .ld true 4 (.t 3)⟩, ⟨some 99, none, .fa 0 (.t 2)⟩, ⟨some 100, none, .ld true 4 (.t 99)⟩, ⟨some 101, none, .cal 28 [(.t 98), (.t 100)]⟩, ⟨some 4, none, .alc [.nil, .nil]⟩, ⟨none, none, .sto 2 (.t 4) (.t 101)⟩])
 (.seq (.drw [0, 143, 1, 3, 4] [
 ⟨⟨some 102, none, .fa 0 (.t 1)⟩, [], [], true⟩, ⟨⟨some 103, none, .ld true 5 (.t 102)⟩, [], [], true⟩, ⟨⟨some 104, none, .ld true 4 (.t 3)⟩, [], [], true⟩, ⟨⟨some 105, none, .cal 23 [(.t 103), (.t 104), (.c (.sc (.int .i64 10)))]⟩, [], [], false⟩, ⟨⟨some 106, none, .fl false 1 1 (.t 105)⟩, [], [], false⟩, ⟨⟨some 107, none, .cmp .eql .i64 (.t 106) (.c (.sc (.int .i64 50)))⟩, [], [], false⟩, ⟨⟨some 108, none, .mv (.t 107)⟩, [], [], false⟩, ⟨⟨some 109, some (108, true), .fa 0 (.t 1)⟩, [], [], true⟩, ⟨⟨some 110, some (108, true), .ld true 5 (.t 109)⟩, [], [], true⟩, ⟨⟨some 111, some (108, true), .ld true 4 (.t 3)⟩, [], [], true⟩, ⟨⟨some 112, some (108, true), .cal 18 [(.t 110), (.t 111)]⟩, [], [], false⟩, ⟨⟨some 113, some (108, true), .cmp .eql .i64 (.t 112) (.c (.sc (.int .i64 0)))⟩, [], [], false⟩, ⟨⟨some 114, none, .pick (.t 108) (.t 113) (.c (.sc (.bool false)))⟩, [], [], false⟩, ⟨⟨some 115, none, .mv (.t 114)⟩, [], [], false⟩, ⟨⟨some 116, some (115, true), .fa 0 (.t 4)⟩, [], [118], true⟩, ⟨⟨some 117, some (115, true), .ld false 1 (.t 116)⟩, [], [118], true⟩, ⟨⟨some 118, some (115, true), .bsl 1 3 [.sc (.int .i64 0)] 2 [(0, (.c (.sc (.int .i64 6)))), (1, (.c (.sc (.int .i64 14))))]⟩, [118], [], true⟩, ⟨⟨some 119, some (115, true), .cal 25 [(.t 117), (.t 118)]⟩, [], [], false⟩, ⟨⟨some 120, none, .pick (.t 115) (.t 119) (.c (.sc (.bool false)))⟩, [], [], false⟩, ⟨⟨some 121, none, .mv (.t 120)⟩, [], [], false⟩, ⟨⟨some 122, some (121, true), .fa 1 (.t 4)⟩, [], [], false⟩, ⟨⟨some 123, some (121, true), .ld false 1 (.t 122)⟩, [], [], false⟩, ⟨⟨some 124, some (121, true), .len (.t 123)⟩, [], [], false⟩, ⟨⟨some 125, some (121, true), .cmp .eql .i64 (.t 124) (.c (.sc (.int .i64 0)))⟩, [], [], false⟩, ⟨⟨some 126, none, .pick (.t 121) (.t 125) (.c (.sc (.bool false)))⟩, [], [], false⟩, ⟨⟨some 127, none, .mv (.t 126)⟩, [], [], false⟩, ⟨⟨some 128, some (127, true), .fa 0 (.t 1)⟩, [], [], true⟩, ⟨⟨some 129, some (127, true), .ld true 5 (.t 128)⟩, [], [], true⟩, ⟨⟨some 130, some (127, true), .cal 20 [(.t 129)]⟩, [], [], true⟩, ⟨⟨some 131, some (127, true), .fa 0 (.t 1)⟩, [], [], true⟩, ⟨⟨some 132, some (127, true), .ld true 5 (.t 131)⟩, [], [], true⟩, ⟨⟨some 133, some (127, true), .cal 21 [(.t 132)]⟩, [], [], false⟩, ⟨⟨some 134, some (127, true), .cal 15 [(.t 130), (.t 133)]⟩, [], [], false⟩, ⟨⟨some 135, none, .pick (.t 127) (.t 134) (.c (.sc (.bool false)))⟩, [], [], false⟩, ⟨⟨some 136, none, .mv (.t 135)⟩, [], [], false⟩, ⟨⟨some 137, some (136, true), .fa 0 (.t 1)⟩, [], [], true⟩, ⟨⟨some 138, some (136, true), .ld true 5 (.t 137)⟩, [], [], true⟩, ⟨⟨some 139, some (136, true), .bld [.nil, .nil, .nil, .nil] []⟩, [], [], true⟩, ⟨⟨some 140, some (136, true), .cal 18 [(.t 138), (.t 139)]⟩, [], [], false⟩, ⟨⟨some 141, some (136, true), .cmp .eql .i64 (.t 140) (.c (.sc (.int .i64 310)))⟩, [], [], false⟩, ⟨⟨some 142, none, .pick (.t 136) (.t 141) (.c (.sc (.bool false)))⟩, [], [], false⟩, ⟨⟨some 0, none, .mv (.t 142)⟩, [], [], false⟩])
 .ret))))))))))
def rv9 : List RV := [.tmp 0]
theorem ok9 : fnOk Try.prog ac9 rv9 Try.f9 = true := by kernel_rfl

def ac6 : AC :=
 (.seq (.reg [0, 66, 0, 1, 2] [
 ⟨some 3, none, .box (.t 0)⟩, ⟨some 6, none, .mv (.c (.sc (.bool false)))⟩])
 (.seq (.reg [0, 66, 1, 2, 3] [
 ⟨some 12, none, .cal 9 []⟩, ⟨some 7, none, .mv (.t 12)⟩])
 (.seq (.seq (.reg [0, 66, 1, 2, 3, 7] [
 ⟨some 13, none, .mv (.t 7)⟩, ⟨some 14, none, .not (.t 13)⟩])
 (.cond (.t 14)
 (.seq (.reg [0, 66] [
 ⟨some 6, none, .mv (.c (.sc (.bool false)))⟩])
 .ret)
 .skip))
 (.seq (.reg [0, 66, 1, 2, 3, 7] [
 ⟨some 15, none, .ld true 5 (.t 3)⟩, ⟨some 16, none, .cal 30 [(.t 15)]⟩, ⟨some 8, none, .alc [.sc (.int .i64 0), .sc (.int .i64 0), .sc (.int .i64 0), .sc (.int .i64 0), .nil]⟩, ⟨none, none, .sto 5 (.t 8) (.t 16)⟩])
 (.seq (.reg [0, 66, 1, 2, 7, 8] [
 ⟨some 17, none, .ld true 5 (.t 8)⟩, ⟨some 18, none, .mv (.t 1)⟩, ⟨some 19, none, .cal 16 [(.t 17), (.t 18)]⟩, ⟨some 9, none, .alc [.nil, .nil, .nil, .nil]⟩, ⟨none, none, .sto 4 (.t 9) (.t 19)⟩])
 (.seq (.reg [0, 66, 2, 7, 8, 9] [
 ⟨some 20, none, .mv (.t 2)⟩, ⟨some 21, none, .cnv true .i64 (.t 20)⟩, ⟨some 22, none, .fa 0 (.t 9)⟩, ⟨some 23, none, .ld false 1 (.t 22)⟩, ⟨some 24, none, .len (.t 23)⟩, ⟨some 25, none, .dvd .rem true .i64 (.t 21) (.t 24)⟩, ⟨some 10, none, .mv (.t 25)⟩])
 (.seq (.reg [0, 66, 7, 8, 9, 10] [
 ⟨some 26, none, .ld true 5 (.t 8)⟩, ⟨some 27, none, .ld true 4 (.t 9)⟩, ⟨some 28, none, .mv (.t 10)⟩, ⟨some 29, none, .cal 23 [(.t 26), (.t 27), (.t 28)]⟩, ⟨some 11, none, .alc [.sc (.int .i64 0), .sc (.int .i64 0)]⟩, ⟨none, none, .sto 2 (.t 11) (.t 29)⟩])
 (.seq (.seq (.reg [0, 66, 7, 8, 9, 10, 11] [
 ⟨some 30, none, .ld true 5 (.t 8)⟩, ⟨some 31, none, .mv (.t 10)⟩, ⟨some 32, none, .cal 31 [(.t 30), (.t 31)]⟩, ⟨some 33, none, .len (.t 32)⟩, ⟨some 34, none, .cmp .eql .i64 (.t 33) (.c (.sc (.int .i64 0)))⟩])
 (.cond (.t 34)
 (.seq (.reg [0, 66, 7, 10, 11] [
 ⟨some 35, none, .ld true 2 (.t 11)⟩, ⟨some 36, none, .mv (.t 10)⟩, ⟨some 37, none, .bld [.sc (.int .i64 0), .sc (.int .i64 0)] [(0, 1, (.t 36))]⟩, ⟨some 38, none, .eqa false 2 (.t 35) (.t 37)⟩, ⟨some 39, none, .mv (.t 38)⟩, ⟨some 40, some (39, true), .mv (.t 7)⟩, ⟨some 41, none, .pick (.t 39) (.t 40) (.c (.sc (.bool false)))⟩, ⟨some 6, none, .mv (.t 41)⟩])
 .ret)
 .skip))
 (.seq (.seq (.reg [0, 66, 7, 8, 9, 10, 11] [
 ⟨some 42, none, .fa 0 (.t 9)⟩, ⟨some 43, none, .ld false 1 (.t 42)⟩, ⟨some 44, none, .mv (.t 10)⟩, ⟨some 45, none, .ixs 1 (.t 43) (.t 44)⟩, ⟨some 46, none, .ld false 1 (.t 45)⟩, ⟨some 47, none, .cmp .eql .i64 (.t 46) (.c (.sc (.int .i64 0)))⟩])
 (.cond (.t 47)
 (.seq (.reg [0, 66, 7, 11] [
 ⟨some 48, none, .ld true 2 (.t 11)⟩, ⟨some 49, none, .bld [.sc (.int .i64 0), .sc (.int .i64 0)] [(1, 1, (.c (.sc (.int .i64 4))))]⟩, ⟨some 50, none, .eqa false 2 (.t 48) (.t 49)⟩, ⟨some 51, none, .mv (.t 50)⟩, ⟨some 52, some (51, true), .mv (.t 7)⟩, ⟨some 53, none, .pick (.t 51) (.t 52) (.c (.sc (.bool false)))⟩, ⟨some 6, none, .mv (.t 53)⟩])
 .ret)
 .skip))
 (.seq (.drw [0, 66, 7, 8, 9, 10, 11] [
 ⟨⟨some 54, none, .ld true 2 (.t 11)⟩, [], [], true⟩, ⟨⟨some 55, none, .ld true 5 (.t 8)⟩, [], [], true⟩, ⟨⟨some 56, none, .ld true 4 (.t 9)⟩, [], [], true⟩, ⟨⟨some 57, none, .ld true 5 (.t 8)⟩, [], [], true⟩, ⟨⟨some 58, none, .ld true 4 (.t 9)⟩, [], [], true⟩, ⟨⟨some 59, none, .mv (.t 10)⟩, [], [], true⟩, ⟨⟨some 60, none, .cal 32 [(.t 57), (.t 58), (.t 59)]⟩, [], [], true⟩, ⟨⟨some 61, none, .cal 23 [(.t 55), (.t 56), (.t 60)]⟩, [], [], true⟩, ⟨⟨some 62, none, .eqa false 2 (.t 54) (.t 61)⟩, [], [], false⟩, ⟨⟨some 63, none, .mv (.t 62)⟩, [], [], false⟩, ⟨⟨some 64, some (63, true), .mv (.t 7)⟩, [], [], false⟩, ⟨⟨some 65, none, .pick (.t 63) (.t 64) (.c (.sc (.bool false)))⟩, [], [], false⟩, ⟨⟨some 6, none, .mv (.t 65)⟩, [], [], false⟩])
 .ret))))))))))
def rv6 : List RV := [.tmp 6]
theorem ok6 : fnOk Try.prog ac6 rv6 Try.f6 = true := by kernel_rfl

def ac7 : AC :=
 (.seq (.reg [0, 97, 0, 1, 2] [
 ⟨some 3, none, .box (.t 0)⟩, ⟨some 6, none, .mv (.c (.sc (.bool false)))⟩])
 (.seq (.reg [0, 97, 1, 2, 3] [
 ⟨some 14, none, .cal 9 []⟩, ⟨some 7, none, .mv (.t 14)⟩])
 (.seq (.seq (.reg [0, 97, 1, 2, 3, 7] [
 ⟨some 15, none, .mv (.t 7)⟩, ⟨some 16, none, .not (.t 15)⟩])
 (.cond (.t 16)
 (.seq (.reg [0, 97] [
 ⟨some 6, none, .mv (.c (.sc (.bool false)))⟩])
 .ret)
 .skip))
 (.seq (.reg [0, 97, 1, 2, 3, 7] [
 ⟨some 17, none, .ld true 5 (.t 3)⟩, ⟨some 18, none, .cal 30 [(.t 17)]⟩, ⟨some 8, none, .alc [.sc (.int .i64 0), .sc (.int .i64 0), .sc (.int .i64 0), .sc (.int .i64 0), .nil]⟩, ⟨none, none, .sto 5 (.t 8) (.t 18)⟩])
 (.seq (.reg [0, 97, 1, 2, 7, 8] [
 ⟨some 19, none, .ld true 5 (.t 8)⟩, ⟨some 20, none, .mv (.t 1)⟩, ⟨some 21, none, .cal 16 [(.t 19), (.t 20)]⟩, ⟨some 9, none, .alc [.nil, .nil, .nil, .nil]⟩, ⟨none, none, .sto 4 (.t 9) (.t 21)⟩])
 (.seq (.reg [0, 97, 2, 7, 8, 9] [
 ⟨some 22, none, .mv (.t 2)⟩, ⟨some 23, none, .cnv true .i64 (.t 22)⟩, ⟨some 24, none, .fa 0 (.t 9)⟩, ⟨some 25, none, .ld false 1 (.t 24)⟩, ⟨some 26, none, .len (.t 25)⟩, ⟨some 27, none, .dvd .rem true .i64 (.t 23) (.t 26)⟩, ⟨some 10, none, .mv (.t 27)⟩])
 (.seq (.reg [0, 97, 7, 8, 9, 10] [
 ⟨some 28, none, .fa 0 (.t 9)⟩, ⟨some 29, none, .ld false 1 (.t 28)⟩, ⟨some 30, none, .len (.t 29)⟩, ⟨some 31, none, .mks 1 4 1 [.sc (.bool false)] (.t 30) (.t 30)⟩, ⟨some 11, none, .mv (.t 31)⟩])
 (.seq (.reg [0, 97, 7, 8, 9, 10, 11] [
 ⟨some 32, none, .mv (.t 10)⟩, ⟨some 12, none, .mv (.t 32)⟩])
 (.seq (.block 0
 (.loop [0, 97, 7, 8, 9, 10, 11, 12]
 (.seq (.seq (.reg [0, 97, 7, 8, 9, 10, 11, 12] [
 ⟨some 33, none, .mv (.t 12)⟩, ⟨some 34, none, .cmp .geq .i64 (.t 33) (.c (.sc (.int .i64 0)))⟩, ⟨some 35, none, .mv (.t 34)⟩, ⟨some 36, some (35, true), .mv (.t 11)⟩, ⟨some 37, some (35, true), .mv (.t 12)⟩, ⟨some 38, some (35, true), .ixs 1 (.t 36) (.t 37)⟩, ⟨some 39, some (35, true), .ld false 1 (.t 38)⟩, ⟨some 40, some (35, true), .not (.t 39)⟩, ⟨some 41, none, .pick (.t 35) (.t 40) (.c (.sc (.bool false)))⟩])
 (.cut [0, 97, 7, 8, 9, 10, 11, 12, 41] (.cond (.t 41)
 .skip
 (.exit 0))))
 (.block 1
 (.seq (.reg [0, 97, 7, 8, 9, 10, 11, 12] [
 ⟨some 42, none, .mv (.t 11)⟩, ⟨some 43, none, .mv (.t 12)⟩, ⟨some 44, none, .ixs 1 (.t 42) (.t 43)⟩, ⟨none, none, .sto 1 (.t 44) (.c (.sc (.bool true)))⟩])
 (.reg [0, 97, 7, 8, 9, 10, 11, 12] [
 ⟨some 45, none, .ld true 5 (.t 8)⟩, ⟨some 46, none, .ld true 4 (.t 9)⟩, ⟨some 47, none, .mv (.t 12)⟩, ⟨some 48, none, .cal 32 [(.t 45), (.t 46), (.t 47)]⟩, ⟨some 12, none, .mv (.t 48)⟩]))))))
 (.seq (.reg [0, 97, 7, 8, 9, 10, 11, 12] [
 ⟨some 49, none, .ld true 5 (.t 8)⟩, ⟨some 50, none, .ld true 4 (.t 9)⟩, ⟨some 51, none, .mv (.t 10)⟩, ⟨some 52, none, .cal 23 [(.t 49), (.t 50), (.t 51)]⟩, ⟨some 13, none, .alc [.sc (.int .i64 0), .sc (.int .i64 0)]⟩, ⟨none, none, .sto 2 (.t 13) (.t 52)⟩])
 (.seq (.reg [0, 97, 7, 9, 11, 12, 13] [
 ⟨some 53, none, .fa 1 (.t 13)⟩, ⟨some 54, none, .ld false 1 (.t 53)⟩, ⟨some 55, none, .cmp .eql .i64 (.t 54) (.c (.sc (.int .i64 50)))⟩, ⟨some 56, none, .mv (.t 12)⟩, ⟨some 57, none, .cmp .geq .i64 (.t 56) (.c (.sc (.int .i64 0)))⟩, ⟨some 58, none, .eqb false (.t 55) (.t 57)⟩, ⟨some 59, none, .mv (.t 58)⟩, ⟨some 60, some (59, true), .fa 1 (.t 13)⟩, ⟨some 61, some (59, true), .ld false 1 (.t 60)⟩, ⟨some 62, some (59, true), .cmp .eql .i64 (.t 61) (.c (.sc (.int .i64 0)))⟩, ⟨some 63, some (59, true), .mv (.t 62)⟩, ⟨some 64, some (63, false), .fa 0 (.t 13)⟩, ⟨some 65, some (63, false), .ld false 1 (.t 64)⟩, ⟨some 66, some (63, false), .cmp .eql .i64 (.t 65) (.c (.sc (.int .i64 0)))⟩, ⟨some 67, some (59, true), .pick (.t 63) (.c (.sc (.bool true))) (.t 66)⟩, ⟨some 68, none, .pick (.t 59) (.t 67) (.c (.sc (.bool false)))⟩, ⟨some 69, none, .mv (.t 68)⟩, ⟨some 70, some (69, true), .fa 1 (.t 13)⟩, ⟨some 71, some (69, true), .ld false 1 (.t 70)⟩, ⟨some 72, some (69, true), .cmp .neq .i64 (.t 71) (.c (.sc (.int .i64 0)))⟩, ⟨some 73, some (69, true), .mv (.t 72)⟩, ⟨some 74, some (73, false), .fa 0 (.t 13)⟩, ⟨some 75, some (73, false), .ld false 1 (.t 74)⟩, ⟨some 76, some (73, false), .cmp .geq .i64 (.t 75) (.c (.sc (.int .i64 0)))⟩, ⟨some 77, some (73, false), .mv (.t 76)⟩, ⟨some 78, some (77, true), .fa 0 (.t 13)⟩, ⟨some 79, some (77, true), .ld false 1 (.t 78)⟩, ⟨some 80, some (77, true), .fa 0 (.t 9)⟩, ⟨some 81, some (77, true), .ld false 1 (.t 80)⟩, ⟨some 82, some (77, true), .len (.t 81)⟩, ⟨some 83, some (77, true), .cmp .lss .i64 (.t 79) (.t 82)⟩, ⟨some 84, some (73, false), .pick (.t 77) (.t 83) (.c (.sc (.bool false)))⟩, ⟨some 85, some (73, false), .mv (.t 84)⟩, ⟨some 86, some (85, true), .mv (.t 11)⟩, ⟨some 87, some (85, true), .fa 0 (.t 13)⟩, ⟨some 88, some (85, true), .ld false 1 (.t 87)⟩, ⟨some 89, some (85, true), .ixs 1 (.t 86) (.t 88)⟩, ⟨some 90, some (85, true), .ld false 1 (.t 89)⟩, ⟨some 91, some (73, false), .pick (.t 85) (.t 90) (.c (.sc (.bool false)))⟩, ⟨some 92, some (69, true), .pick (.t 73) (.c (.sc (.bool true))) (.t 91)⟩, ⟨some 93, none, .pick (.t 69) (.t 92) (.c (.sc (.bool false)))⟩, ⟨some 94, none, .mv (.t 93)⟩, ⟨some 95, some (94, true), .mv (.t 7)⟩, ⟨some 96, none, .pick (.t 94) (.t 95) (.c (.sc (.bool false)))⟩, ⟨some 6, none, .mv (.t 96)⟩])
 .ret)))))))))))
def rv7 : List RV := [.tmp 6]
theorem ok7 : fnOk Try.prog ac7 rv7 Try.f7 = true := by kernel_rfl
end Go.Proofs.Ytledbjkolidhkaa.Txt
namespace Go.Proofs.Ytledbjkolidhkaa
open Go Go.Vc Txt
theorem nodup_sub : ∀ {l m : List Int}, l.Nodup → (∀ x ∈ l, x ∈ m) → l.length ≤ m.length
  | [], _, _, _ => by simp
  | x :: l, m, hn, h => by
    rw [List.nodup_cons] at hn
    have hx := h x (by simp)
    have := nodup_sub (l := l) (m := m.erase x) hn.2 fun y hy => by
      have hne : y ≠ x := fun e => hn.1 (e ▸ hy)
      exact (List.mem_erase_of_ne hne).2 (h y (by simp [hy]))
    rw [List.length_erase_of_mem hx] at this
    have := List.length_pos_of_mem hx
    simp only [List.length_cons]
    omega
theorem nodup_rng {l : List Int} {n : Nat} (h : l.Nodup) (hr : ∀ x ∈ l, 0 ≤ x ∧ x < n) : l.length ≤ n := by
  have := nodup_sub (m := (List.range n).map Int.ofNat) h fun x hx => by
    obtain ⟨a, b⟩ := hr x hx
    exact List.mem_map.2 ⟨x.toNat, by simp; omega, by simp; omega⟩
  simpa using this
theorem ints_ok (a b : List Int) (ha : (a.length : Int) ≤ 1000000) (hb : (b.length : Int) ≤ 1000000) : FnEq Try.prog 25 [.sl false 1 (ints a), .sl false 1 (ints b)] (.bool (decide (a = b))) := by
  refine FnEq.of_awp Try.func25 ok25 (by show 2 ≤ _; decide) (by simp only [push_cast, reduceIte, Nat.reduceEqDiff, Nat.reduceAdd, Nat.reduceSub, Nat.reduceMul, Nat.reduceBEq, Nat.reduceLT, Nat.reduceLeDiff, reduceCtorEq, Int.reduceToNat, Int.reduceNeg] <;> first | exact fun _ _ => trivial | simp) ?_
  simp only [ac25, rv25, push_cast, reduceIte, Nat.reduceEqDiff, Nat.reduceAdd, Nat.reduceSub, Nat.reduceMul, Nat.reduceBEq, Nat.reduceLT, Nat.reduceLeDiff, reduceCtorEq, Int.reduceToNat, Int.reduceNeg]
  refine cond_dec (fun h => ?_) fun h => ?_
  · rw [decide_eq_false]; intro e; exact h (by rw [e])
  have hab : a.length = b.length := by omega
  refine loop_of (fun m st => ∃ k : Nat, k ≤ a.length ∧ m = a.length - k ∧ a.take k = b.take k ∧ st = ⟨[(0, .sl false 1 (ints a)), (1, .sl false 1 (ints b)), (5, .int k)], [], [], []⟩) a.length ?_ ?_
  · refine ⟨0, by omega, by omega, by simp, ?_⟩
    simp only [push_cast, reduceIte, Nat.reduceEqDiff, Nat.reduceAdd, Nat.reduceSub, Nat.reduceMul, Nat.reduceBEq, Nat.reduceLT, Nat.reduceLeDiff, reduceCtorEq, Int.reduceToNat, Int.reduceNeg]
  · rintro m st ⟨k, hk, rfl, h1, rfl⟩
    simp only [push_cast, reduceIte, Nat.reduceEqDiff, Nat.reduceAdd, Nat.reduceSub, Nat.reduceMul, Nat.reduceBEq, Nat.reduceLT, Nat.reduceLeDiff, reduceCtorEq, Int.reduceToNat, Int.reduceNeg]
    refine cond_dec (fun h2 => ?_) fun h2 => ?_
    · have ka : k < a.length := by omega
      have kb : k < b.length := by omega
      have ga : a.getD k default = a[k] := by simp [ka]
      have gb : b.getD k default = b[k] := by simp [kb]
      rw [ga, gb]
      refine ⟨⟨by omega, by omega⟩, ka, ⟨by omega, by omega⟩, kb, cond_dec (fun h3 => ?_) fun h3 => ?_⟩
      · rw [decide_eq_false]; intro e; subst e; exact h3 rfl
      · refine ⟨⟨by omega, by omega⟩, _, ?_, k + 1, by omega, rfl, ?_, ?_⟩
        · omega
        · rw [List.take_succ_eq_append_getElem ka, List.take_succ_eq_append_getElem kb, h1, Classical.not_not.1 h3]
        · simp
    · rw [List.take_of_length_le (by omega), List.take_of_length_le (by omega)] at h1
      rw [decide_eq_true h1]
theorem blank_ok (g : Grid) (hg : GOk g) : FnEq Try.prog 20 [.agg (gridC false g)] (.agg (cfgC true (blankF g))) := by
  have h1 := hg.count
  have h2 := hg.wh
  have h3 := hg.kind
  refine FnEq.of_awp Try.func20 ok20 (by show 1 ≤ _; decide) (by simp only [push_cast, reduceIte, Nat.reduceEqDiff, Nat.reduceAdd, Nat.reduceSub, Nat.reduceMul, Nat.reduceBEq, Nat.reduceLT, Nat.reduceLeDiff, reduceCtorEq, Int.reduceToNat, Int.reduceNeg] <;> first | exact fun _ _ => trivial | simp) ?_
  simp only [ac20, rv20, push_cast, reduceIte, Nat.reduceEqDiff, Nat.reduceAdd, Nat.reduceSub, Nat.reduceMul, Nat.reduceBEq, Nat.reduceLT, Nat.reduceLeDiff, reduceCtorEq, Int.reduceToNat, Int.reduceNeg]
  refine dcal_sub (ccount_ok g hg) (by simp only [push_cast, reduceIte, Nat.reduceEqDiff, Nat.reduceAdd, Nat.reduceSub, Nat.reduceMul, Nat.reduceBEq, Nat.reduceLT, Nat.reduceLeDiff, reduceCtorEq, Int.reduceToNat, Int.reduceNeg]) rfl ?_
  simp only [push_cast, reduceIte, Nat.reduceEqDiff, Nat.reduceAdd, Nat.reduceSub, Nat.reduceMul, Nat.reduceBEq, Nat.reduceLT, Nat.reduceLeDiff, reduceCtorEq, Int.reduceToNat, Int.reduceNeg]
  refine ⟨by omega, by omega, by omega, by omega, ?_⟩
  simp only [blankF, push_cast, reduceIte, Nat.reduceEqDiff, Nat.reduceAdd, Nat.reduceSub, Nat.reduceMul, Nat.reduceBEq, Nat.reduceLT, Nat.reduceLeDiff, reduceCtorEq, Int.reduceToNat, Int.reduceNeg]
  exact ⟨fun _ _ => trivial, fun _ _ => trivial⟩
theorem rblank_ok (g : Grid) (hg : GOk g) : FnEq Try.prog 21 [.agg (gridC false g)] (.agg (cfgC true (blankF g))) := by
  have h1 := hg.count
  have h2 := hg.wh
  have h3 := hg.kind
  refine FnEq.of_awp Try.func21 ok21 (by show 1 ≤ _; decide) (by simp only [push_cast, reduceIte, Nat.reduceEqDiff, Nat.reduceAdd, Nat.reduceSub, Nat.reduceMul, Nat.reduceBEq, Nat.reduceLT, Nat.reduceLeDiff, reduceCtorEq, Int.reduceToNat, Int.reduceNeg] <;> first | exact fun _ _ => trivial | simp) ?_
  simp only [ac21, rv21, push_cast, reduceIte, Nat.reduceEqDiff, Nat.reduceAdd, Nat.reduceSub, Nat.reduceMul, Nat.reduceBEq, Nat.reduceLT, Nat.reduceLeDiff, reduceCtorEq, Int.reduceToNat, Int.reduceNeg]
  refine ⟨by omega, ?_⟩
  refine dcal_sub (rcount_ok g hg) (by simp only [push_cast, reduceIte, Nat.reduceEqDiff, Nat.reduceAdd, Nat.reduceSub, Nat.reduceMul, Nat.reduceBEq, Nat.reduceLT, Nat.reduceLeDiff, reduceCtorEq, Int.reduceToNat, Int.reduceNeg]) rfl ?_
  simp only [push_cast, reduceIte, Nat.reduceEqDiff, Nat.reduceAdd, Nat.reduceSub, Nat.reduceMul, Nat.reduceBEq, Nat.reduceLT, Nat.reduceLeDiff, reduceCtorEq, Int.reduceToNat, Int.reduceNeg]
  refine ⟨by omega, by omega, by omega, by omega, ?_⟩
  rw [show (g.w * g.h).toNat = g.kind.length by omega]
  simp only [blankF, push_cast, reduceIte, Nat.reduceEqDiff, Nat.reduceAdd, Nat.reduceSub, Nat.reduceMul, Nat.reduceBEq, Nat.reduceLT, Nat.reduceLeDiff, reduceCtorEq, Int.reduceToNat, Int.reduceNeg]
  exact ⟨fun _ _ => trivial, fun _ _ => trivial⟩
theorem rdrv_ok (g : Grid) (hg : GOk g) (n : Int) (hn : -1000000000 ≤ n ∧ n ≤ 1000000000) : FnEq Try.prog 39 [.agg (gridC false g), .int n] (.int (driversF g n).length) := by
  refine FnEq.of_awp Try.func39 ok39 (by show 2 ≤ _; decide) (by simp only [push_cast, reduceIte, Nat.reduceEqDiff, Nat.reduceAdd, Nat.reduceSub, Nat.reduceMul, Nat.reduceBEq, Nat.reduceLT, Nat.reduceLeDiff, reduceCtorEq, Int.reduceToNat, Int.reduceNeg] <;> first | exact fun _ _ => trivial | simp) ?_
  simp only [ac39, rv39, push_cast, reduceIte, Nat.reduceEqDiff, Nat.reduceAdd, Nat.reduceSub, Nat.reduceMul, Nat.reduceBEq, Nat.reduceLT, Nat.reduceLeDiff, reduceCtorEq, Int.reduceToNat, Int.reduceNeg]
  refine cal_sub (rdrivers_ok g hg n hn) (by simp only [push_cast, reduceIte, Nat.reduceEqDiff, Nat.reduceAdd, Nat.reduceSub, Nat.reduceMul, Nat.reduceBEq, Nat.reduceLT, Nat.reduceLeDiff, reduceCtorEq, Int.reduceToNat, Int.reduceNeg]) ?_
  simp only [push_cast, reduceIte, Nat.reduceEqDiff, Nat.reduceAdd, Nat.reduceSub, Nat.reduceMul, Nat.reduceBEq, Nat.reduceLT, Nat.reduceLeDiff, reduceCtorEq, Int.reduceToNat, Int.reduceNeg]
  rw [drivers_eq hg]
def idxF (p : Nat → Bool) : Nat → List Int
  | 0 => []
  | k + 1 => idxF p k ++ if p k then [(k : Int)] else []
theorem idxF_len (p : Nat → Bool) : ∀ k, (idxF p k).length ≤ k
  | 0 => Nat.le_refl _
  | k + 1 => by have := idxF_len p k; rw [idxF, List.length_append]; split <;> simp <;> omega
def lvN (id : Nat) : List Int → PV
  | [] => .nil
  | x :: l => .view id 0 (x :: l).length
def laN (id : Nat) : List Int → List (Nat × Arr)
  | [] => []
  | x :: l => [(id, ⟨1, 3, ints (x :: l)⟩)]
@[push_cast] theorem lvN_nil (id : Nat) : lvN id [] = .nil := rfl
@[push_cast] theorem lvN_cons (id : Nat) (x : Int) (l : List Int) : lvN id (x :: l) = .view id 0 (l.length + 1) := rfl
@[push_cast] theorem laN_nil (id : Nat) : laN id [] = [] := rfl
@[push_cast] theorem laN_cons (id : Nat) (x : Int) (l : List Int) : laN id (x :: l) = [(id, ⟨1, 3, ints (x :: l)⟩)] := rfl
def usedF (sel : List Int) : List Int := idxF (fun i => decide (sel.getD i 0 ≠ 0)) sel.length
theorem used_ok (g : Grid) (c : Cfg) (hl : (c.sel.length : Int) ≤ 1000000) : FnEq Try.prog 26 [.agg (gridC false g), .agg (cfgC false c)] (.sl true 1 (ints (usedF c.sel))) := by
  refine FnEq.of_awp Try.func26 ok26 (by show 2 ≤ _; decide) (by simp only [push_cast, reduceIte, Nat.reduceEqDiff, Nat.reduceAdd, Nat.reduceSub, Nat.reduceMul, Nat.reduceBEq, Nat.reduceLT, Nat.reduceLeDiff, reduceCtorEq, Int.reduceToNat, Int.reduceNeg] <;> first | exact fun _ _ => trivial | simp) ?_
  simp only [ac26, rv26, push_cast, reduceIte, Nat.reduceEqDiff, Nat.reduceAdd, Nat.reduceSub, Nat.reduceMul, Nat.reduceBEq, Nat.reduceLT, Nat.reduceLeDiff, reduceCtorEq, Int.reduceToNat, Int.reduceNeg]
  refine loop_of (fun m st => ∃ k : Nat, k ≤ c.sel.length ∧ m = c.sel.length - k ∧ st = ⟨[(5, lvN 21 (idxF (fun i => decide (c.sel.getD i 0 ≠ 0)) k)), (9, .sl false 1 (ints c.sel)), (10, .int c.sel.length), (11, .int k)], [], laN 21 (idxF (fun i => decide (c.sel.getD i 0 ≠ 0)) k), []⟩) c.sel.length ?_ ?_
  · refine ⟨0, by omega, by omega, ?_⟩
    simp only [idxF, lvN, laN, push_cast, reduceIte, Nat.reduceEqDiff, Nat.reduceAdd, Nat.reduceSub, Nat.reduceMul, Nat.reduceBEq, Nat.reduceLT, Nat.reduceLeDiff, reduceCtorEq, Int.reduceToNat, Int.reduceNeg]
  rintro m st ⟨k, hk, rfl, rfl⟩
  have hlen := idxF_len (fun i => decide (c.sel.getD i 0 ≠ 0)) k
  have hq : usedF c.sel = idxF (fun i => decide (c.sel.getD i 0 ≠ 0)) c.sel.length := rfl
  generalize hl0 : idxF (fun i => decide (c.sel.getD i 0 ≠ 0)) k = l0 at hlen ⊢
  have hs : idxF (fun i => decide (c.sel.getD i 0 ≠ 0)) (k + 1) = l0 ++ if (fun i => decide (c.sel.getD i 0 ≠ 0)) k = true then [(k : Int)] else [] := by rw [idxF, hl0]
  simp only [decide_eq_true_eq] at hs
  cases l0 with
  | nil =>
    simp only [push_cast, reduceIte, Nat.reduceEqDiff, Nat.reduceAdd, Nat.reduceSub, Nat.reduceMul, Nat.reduceBEq, Nat.reduceLT, Nat.reduceLeDiff, reduceCtorEq, Int.reduceToNat, Int.reduceNeg]
    refine cond_dec (fun h => ⟨by omega, by omega, cond_dec (fun h2 => ?_) fun h2 => ?_⟩) fun h => ?_
    · refine ⟨by simp, ?_⟩
      simp only [rows_one, push_cast, reduceIte, Nat.reduceEqDiff, Nat.reduceAdd, Nat.reduceSub, Nat.reduceMul, Nat.reduceBEq, Nat.reduceLT, Nat.reduceLeDiff, reduceCtorEq, Int.reduceToNat, Int.reduceNeg]
      refine ⟨by omega, _, ?_, k + 1, by omega, rfl, ?_⟩
      · omega
      · rw [hs, if_pos (show c.sel.getD k 0 ≠ 0 from h2)]
        simp only [List.nil_append, push_cast, reduceIte, Nat.reduceEqDiff, Nat.reduceAdd, Nat.reduceSub, Nat.reduceMul, Nat.reduceBEq, Nat.reduceLT, Nat.reduceLeDiff, reduceCtorEq, Int.reduceToNat, Int.reduceNeg]
        simp [rows_one]
        rfl
    · refine ⟨by omega, _, ?_, k + 1, by omega, rfl, ?_⟩
      · omega
      · rw [hs, if_neg (show ¬ c.sel.getD k 0 ≠ 0 from h2)]
        simp only [List.append_nil, push_cast, reduceIte, Nat.reduceEqDiff, Nat.reduceAdd, Nat.reduceSub, Nat.reduceMul, Nat.reduceBEq, Nat.reduceLT, Nat.reduceLeDiff, reduceCtorEq, Int.reduceToNat, Int.reduceNeg]
    · rw [hq, show c.sel.length = k by omega, hl0]
  | cons x l1 =>
    simp only [List.length_cons] at hlen
    simp only [push_cast, reduceIte, Nat.reduceEqDiff, Nat.reduceAdd, Nat.reduceSub, Nat.reduceMul, Nat.reduceBEq, Nat.reduceLT, Nat.reduceLeDiff, reduceCtorEq, Int.reduceToNat, Int.reduceNeg]
    refine cond_dec (fun h => ⟨by omega, by omega, cond_dec (fun h2 => ?_) fun h2 => ?_⟩) fun h => ?_
    · refine ⟨by simp, ⟨by omega, by omega⟩, by omega, _, ?_, k + 1, by omega, rfl, ?_⟩
      · omega
      · rw [hs, if_pos (show c.sel.getD k 0 ≠ 0 from h2)]
        simp only [List.cons_append, List.length_append, List.length_cons, List.length_nil, push_cast, reduceIte, Nat.reduceEqDiff, Nat.reduceAdd, Nat.reduceSub, Nat.reduceMul, Nat.reduceBEq, Nat.reduceLT, Nat.reduceLeDiff, reduceCtorEq, Int.reduceToNat, Int.reduceNeg]
    · refine ⟨by omega, _, ?_, k + 1, by omega, rfl, ?_⟩
      · omega
      · rw [hs, if_neg (show ¬ c.sel.getD k 0 ≠ 0 from h2)]
        simp only [List.append_nil, push_cast, reduceIte, Nat.reduceEqDiff, Nat.reduceAdd, Nat.reduceSub, Nat.reduceMul, Nat.reduceBEq, Nat.reduceLT, Nat.reduceLeDiff, reduceCtorEq, Int.reduceToNat, Int.reduceNeg]
    · rw [hq, show c.sel.length = k by omega, hl0, List.take_of_length_le (by simp)]
      exact ⟨fun _ _ => trivial, .refl _⟩
theorem rused_ok (g : Grid) (c : Cfg) (hl : (c.sel.length : Int) ≤ 1000000) : FnEq Try.prog 27 [.agg (gridC false g), .agg (cfgC false c)] (.sl true 1 (ints (usedF c.sel))) := by
  refine FnEq.of_awp Try.func27 ok27 (by show 2 ≤ _; decide) (by simp only [push_cast, reduceIte, Nat.reduceEqDiff, Nat.reduceAdd, Nat.reduceSub, Nat.reduceMul, Nat.reduceBEq, Nat.reduceLT, Nat.reduceLeDiff, reduceCtorEq, Int.reduceToNat, Int.reduceNeg] <;> first | exact fun _ _ => trivial | simp) ?_
  simp only [ac27, rv27, push_cast, reduceIte, Nat.reduceEqDiff, Nat.reduceAdd, Nat.reduceSub, Nat.reduceMul, Nat.reduceBEq, Nat.reduceLT, Nat.reduceLeDiff, reduceCtorEq, Int.reduceToNat, Int.reduceNeg]
  refine loop_of (fun m st => ∃ k : Nat, k ≤ c.sel.length ∧ m = c.sel.length - k ∧ st = ⟨[(3, .ptr 3 0), (5, .view 7 0 (idxF (fun i => decide (c.sel.getD i 0 ≠ 0)) k).length), (6, .int k)], [(3, cfgC false c)], [(7, ⟨1, 3, ints (idxF (fun i => decide (c.sel.getD i 0 ≠ 0)) k)⟩)], []⟩) c.sel.length ?_ ?_
  · refine ⟨0, by omega, by omega, ?_⟩
    simp only [idxF, push_cast, reduceIte, Nat.reduceEqDiff, Nat.reduceAdd, Nat.reduceSub, Nat.reduceMul, Nat.reduceBEq, Nat.reduceLT, Nat.reduceLeDiff, reduceCtorEq, Int.reduceToNat, Int.reduceNeg]
    rfl
  rintro m st ⟨k, hk, rfl, rfl⟩
  have hlen := idxF_len (fun i => decide (c.sel.getD i 0 ≠ 0)) k
  have hq : usedF c.sel = idxF (fun i => decide (c.sel.getD i 0 ≠ 0)) c.sel.length := rfl
  generalize hl0 : idxF (fun i => decide (c.sel.getD i 0 ≠ 0)) k = l0 at hlen ⊢
  have hs : idxF (fun i => decide (c.sel.getD i 0 ≠ 0)) (k + 1) = l0 ++ if (fun i => decide (c.sel.getD i 0 ≠ 0)) k = true then [(k : Int)] else [] := by rw [idxF, hl0]
  simp only [decide_eq_true_eq] at hs
  simp only [push_cast, reduceIte, Nat.reduceEqDiff, Nat.reduceAdd, Nat.reduceSub, Nat.reduceMul, Nat.reduceBEq, Nat.reduceLT, Nat.reduceLeDiff, reduceCtorEq, Int.reduceToNat, Int.reduceNeg]
  refine cond_dec (fun h => ⟨by omega, by omega, cond_dec (fun h2 => ?_) fun h2 => ?_⟩) fun h => ?_
  · refine ⟨by simp, by omega, by omega, _, ?_, k + 1, by omega, rfl, ?_⟩
    · omega
    · rw [hs, if_pos (show c.sel.getD k 0 ≠ 0 from h2)]
      simp
  · refine ⟨by omega, _, ?_, k + 1, by omega, rfl, ?_⟩
    · omega
    · rw [hs, if_neg (show ¬ c.sel.getD k 0 ≠ 0 from h2)]
      simp
  · rw [hq, show c.sel.length = k by omega, hl0]
    exact ⟨fun _ _ => trivial, .refl _⟩
end Go.Proofs.Ytledbjkolidhkaa
namespace Go.Proofs.Ytledbjkolidhkaa
open Go Go.Vc Txt
def unF (a b : List Int) (i : Nat) : Bool := decide (a.length ≤ i ∨ b.length ≤ i ∨ a.getD i 0 ≠ b.getD i 0)
def unlikeF (a b : List Int) : List Int := idxF (unF a b) (max a.length b.length)
theorem unlike_ok (a b : List Int) (ha : (a.length : Int) ≤ 1000000) (hb : (b.length : Int) ≤ 1000000) : FnEq Try.prog 70 [.sl false 1 (ints a), .sl false 1 (ints b)] (.sl true 1 (ints (unlikeF a b))) := by
  obtain ⟨n, hn⟩ : ∃ n, n = max a.length b.length := ⟨_, rfl⟩
  refine FnEq.of_awp Try.func70 ok70 (by show 2 ≤ _; decide) (by simp only [push_cast, reduceIte, Nat.reduceEqDiff, Nat.reduceAdd, Nat.reduceSub, Nat.reduceMul, Nat.reduceBEq, Nat.reduceLT, Nat.reduceLeDiff, reduceCtorEq, Int.reduceToNat, Int.reduceNeg] <;> first | exact fun _ _ => trivial | simp) ?_
  simp only [ac70, rv70, push_cast, reduceIte, Nat.reduceEqDiff, Nat.reduceAdd, Nat.reduceSub, Nat.reduceMul, Nat.reduceBEq, Nat.reduceLT, Nat.reduceLeDiff, reduceCtorEq, Int.reduceToNat, Int.reduceNeg]
  refine loop_of (fun m st => ∃ k : Nat, k ≤ n ∧ m = n - k ∧ st = ⟨[(0, .sl false 1 (ints a)), (1, .sl false 1 (ints b)), (5, lvN 39 (idxF (unF a b) k)), (11, .int n), (12, .int k)], [], laN 39 (idxF (unF a b) k), []⟩) n ?_ ?_
  · refine ⟨0, by omega, by omega, ?_⟩
    simp only [idxF, push_cast, reduceIte, Nat.reduceEqDiff, Nat.reduceAdd, Nat.reduceSub, Nat.reduceMul, Nat.reduceBEq, Nat.reduceLT, Nat.reduceLeDiff, reduceCtorEq, Int.reduceToNat, Int.reduceNeg]
    rw [show max (a.length : Int) b.length = (n : Int) by omega]
  rintro m st ⟨k, hk, rfl, rfl⟩
  have hlen := idxF_len (unF a b) k
  have hq : unlikeF a b = idxF (unF a b) n := by rw [hn]; rfl
  generalize hl0 : idxF (unF a b) k = l0 at hlen ⊢
  have hs : idxF (unF a b) (k + 1) = l0 ++ if unF a b k = true then [(k : Int)] else [] := by rw [idxF, hl0]
  simp only [push_cast, reduceIte, Nat.reduceEqDiff, Nat.reduceAdd, Nat.reduceSub, Nat.reduceMul, Nat.reduceBEq, Nat.reduceLT, Nat.reduceLeDiff, reduceCtorEq, Int.reduceToNat, Int.reduceNeg]
  refine cond_dec (fun h => ?_) fun h => ?_
  · refine dcut_of ⟨[(0, .sl false 1 (ints a)), (1, .sl false 1 (ints b)), (5, lvN 39 l0), (6, .int k), (11, .int n), (12, .int k), (35, .bool (unF a b k))], [], laN 39 l0, []⟩ ?_ ?_
    · have hu : unF a b k = decide (a.length ≤ k ∨ b.length ≤ k ∨ a.getD k default ≠ b.getD k default) := rfl
      refine dgrd_decf rfl (fun h1 => ?_) fun h1 => ?_ <;> simp only [push_cast, reduceIte, Nat.reduceEqDiff, Nat.reduceAdd, Nat.reduceSub, Nat.reduceMul, Nat.reduceBEq, Nat.reduceLT, Nat.reduceLeDiff, reduceCtorEq, Int.reduceToNat, Int.reduceNeg]
      · rw [hu, decide_eq_true (.inl (by omega))]
      · refine dgrd_decf rfl (fun h2 => ?_) fun h2 => ?_ <;> simp only [push_cast, reduceIte, Nat.reduceEqDiff, Nat.reduceAdd, Nat.reduceSub, Nat.reduceMul, Nat.reduceBEq, Nat.reduceLT, Nat.reduceLeDiff, reduceCtorEq, Int.reduceToNat, Int.reduceNeg]
        · rw [hu, decide_eq_true (.inr (.inl (by omega)))]
        · refine ⟨by omega, by omega, by omega, by omega, ?_⟩
          rw [hu, show decide (a.getD k default ≠ b.getD k default) = decide (a.length ≤ k ∨ b.length ≤ k ∨ a.getD k default ≠ b.getD k default) from by
            rw [decide_eq_decide]
            exact ⟨fun h => .inr (.inr h), fun h => h.elim (fun h => by omega) fun h => h.elim (fun h => by omega) _root_.id⟩]
    generalize hp : unF a b k = p at hs ⊢
    cases l0 with
    | nil =>
      simp only [push_cast, reduceIte, Nat.reduceEqDiff, Nat.reduceAdd, Nat.reduceSub, Nat.reduceMul, Nat.reduceBEq, Nat.reduceLT, Nat.reduceLeDiff, reduceCtorEq, Int.reduceToNat, Int.reduceNeg]
      refine cond_of (fun h2 => ?_) fun h2 => ?_
      · refine ⟨by simp, ?_⟩
        simp only [rows_one, push_cast, reduceIte, Nat.reduceEqDiff, Nat.reduceAdd, Nat.reduceSub, Nat.reduceMul, Nat.reduceBEq, Nat.reduceLT, Nat.reduceLeDiff, reduceCtorEq, Int.reduceToNat, Int.reduceNeg]
        refine ⟨by omega, _, ?_, k + 1, by omega, rfl, ?_⟩
        · omega
        · rw [hs, if_pos h2]
          simp only [List.nil_append, push_cast, reduceIte, Nat.reduceEqDiff, Nat.reduceAdd, Nat.reduceSub, Nat.reduceMul, Nat.reduceBEq, Nat.reduceLT, Nat.reduceLeDiff, reduceCtorEq, Int.reduceToNat, Int.reduceNeg]
          simp [rows_one]
          rfl
      · refine ⟨by omega, _, ?_, k + 1, by omega, rfl, ?_⟩
        · omega
        · rw [hs, if_neg (by rw [h2]; decide)]
          simp only [List.append_nil, push_cast, reduceIte, Nat.reduceEqDiff, Nat.reduceAdd, Nat.reduceSub, Nat.reduceMul, Nat.reduceBEq, Nat.reduceLT, Nat.reduceLeDiff, reduceCtorEq, Int.reduceToNat, Int.reduceNeg]
    | cons x l1 =>
      simp only [List.length_cons] at hlen
      simp only [push_cast, reduceIte, Nat.reduceEqDiff, Nat.reduceAdd, Nat.reduceSub, Nat.reduceMul, Nat.reduceBEq, Nat.reduceLT, Nat.reduceLeDiff, reduceCtorEq, Int.reduceToNat, Int.reduceNeg]
      refine cond_of (fun h2 => ?_) fun h2 => ?_
      · refine ⟨by simp, ⟨by omega, by omega⟩, by omega, _, ?_, k + 1, by omega, rfl, ?_⟩
        · omega
        · rw [hs, if_pos h2]
          simp only [List.cons_append, List.length_append, List.length_cons, List.length_nil, push_cast, reduceIte, Nat.reduceEqDiff, Nat.reduceAdd, Nat.reduceSub, Nat.reduceMul, Nat.reduceBEq, Nat.reduceLT, Nat.reduceLeDiff, reduceCtorEq, Int.reduceToNat, Int.reduceNeg]
      · refine ⟨by omega, _, ?_, k + 1, by omega, rfl, ?_⟩
        · omega
        · rw [hs, if_neg (by rw [h2]; decide)]
          simp only [List.append_nil, push_cast, reduceIte, Nat.reduceEqDiff, Nat.reduceAdd, Nat.reduceSub, Nat.reduceMul, Nat.reduceBEq, Nat.reduceLT, Nat.reduceLeDiff, reduceCtorEq, Int.reduceToNat, Int.reduceNeg]
  · rw [hq, show n = k by omega, hl0]
    cases l0 with
    | nil => simp only [push_cast, reduceIte, Nat.reduceEqDiff, Nat.reduceAdd, Nat.reduceSub, Nat.reduceMul, Nat.reduceBEq, Nat.reduceLT, Nat.reduceLeDiff, reduceCtorEq, Int.reduceToNat, Int.reduceNeg]
    | cons x l1 =>
      simp only [push_cast, reduceIte, Nat.reduceEqDiff, Nat.reduceAdd, Nat.reduceSub, Nat.reduceMul, Nat.reduceBEq, Nat.reduceLT, Nat.reduceLeDiff, reduceCtorEq, Int.reduceToNat, Int.reduceNeg]
      rw [List.take_of_length_le (by simp)]
      exact ⟨fun _ _ => trivial, .refl _⟩
end Go.Proofs.Ytledbjkolidhkaa
namespace Go.Vc
theorem Inv.trim {w0 : World} {Z0 : Zone} {N : Fr} {Z : Zone} {L : Lay} {st : St} {a : Act} {w : World} (h : Inv w0 Z0 N Z L st a w) {id : Nat} {A : Arr} (hA : lk st.a id = some A) (m : Nat) (hm : m ≤ A.xs.length) (hno : st.noTo nul (fun j => j == id) = true) :
    Inv w0 Z0 N Z { L with al := fun j => if j = id then m else L.al j } { st with a := up st.a id { A with xs := A.xs.take m } } a w := by
  have hl : LSame L { L with al := fun j => if j = id then m else L.al j } nul (fun j => j == id) := ⟨fun _ _ => rfl, fun _ _ => rfl, fun _ _ => rfl, fun _ _ => rfl, fun j hj => by simp only [beq_eq_false_iff_ne] at hj; simp [hj], fun _ _ => rfl⟩
  have hk : Kept Z w w := ⟨fun _ _ _ => rfl⟩
  have hR := Rest.keep (pb := nul) (pa := fun j => j == id) h.rest hk (fun _ _ h => h) (fun _ _ _ _ _ hp => hp) (fun _ _ _ _ => rfl) (Nat.le_refl _) hl (m' := st.m) (fun i M hM => ⟨hM, rfl, by unfold Mp.to; split <;> rfl⟩)
  refine ⟨h.zt, h.z0, h.zn, h.zb, h.below, h.ownb, fun i B hi => ?_, h.injb, fun i j x y hx hy he => ?_, fun i j x y hx hy he => ?_, fun i cs hi => ?_, fun i B hi => ?_, hR.1, hR.2.1, hR.2.2.1, h.oth, h.yb, h.size, h.defers, fun i v hi => ?_⟩
  · rw [lk_up] at hi
    split at hi
    · rename_i e; subst e; exact h.owna id A hA
    · exact h.owna i B hi
  · rw [lk_up] at hx hy
    have key : ∀ k z, (if id = k then some ({ A with xs := A.xs.take m } : Arr) else lk st.a k) = some z → ∃ z', lk st.a k = some z' := fun k z hz => by
      split at hz
      · rename_i e; subst e; exact ⟨A, hA⟩
      · exact ⟨z, hz⟩
    obtain ⟨x', hx'⟩ := key i x hx
    obtain ⟨y', hy'⟩ := key j y hy
    exact h.inja i j x' y' hx' hy' he
  · rw [lk_up] at hy
    split at hy
    · rename_i e; subst e; exact h.injx i id x A hx hA he
    · exact h.injx i j x y hx hy he
  · exact (h.boxes i cs hi).keep hk (fun _ _ h => h) rfl hl rfl (St.noTo_box hno hi)
  · rw [lk_up] at hi
    split at hi
    · rename_i e
      cases hi
      subst e
      obtain ⟨cur, hX⟩ := h.arrs id A hA
      refine ⟨cur, hX.pos, hX.ae, ?_, hX.blk, hX.size, ?_, hX.max, fun r hr => hX.rows r (List.mem_of_mem_take hr), fun p q r c hp hq => ?_⟩
      · simp; omega
      · exact Nat.le_trans (by simp; omega) hX.fits
      · rw [List.getElem?_take] at hp
        split at hp
        · exact hX.cell p q r c hp hq
        · cases hp
    · rename_i e
      obtain ⟨c, hX⟩ := h.arrs i B hi
      exact ⟨c, hX.keep hk (fun _ _ h => h) rfl hl (by simpa using Ne.symm e)⟩
  · exact (h.slots i v hi).keep hk (fun _ _ h => h) hl (St.noTo_slot hno hi)
end Go.Vc
namespace Go.Proofs.Ytledbjkolidhkaa
open Go Go.Vc Txt
end Go.Proofs.Ytledbjkolidhkaa
namespace Go.Vc
theorem FnM.trimA {E : Env} {f : Nat} {args : List PV} {st : St} {Q : PV → St → Prop} (id m : Nat) (h : FnM E f args st fun r st' => r = .view id 0 m ∧ ∃ A, lk st'.a id = some A ∧ m ≤ A.xs.length ∧ st'.noTo nul (fun j => j == id) = true ∧ Q r { st' with a := up st'.a id { A with xs := A.xs.take m } }) : FnM E f args st Q :=
  ⟨h.1, fun w0 Z0 X G Z L w vs h1 h2 h3 => (h.2 w0 Z0 X G Z L w vs h1 h2 h3).mono fun _ _ ⟨v, r, st', Z', L', e1, ⟨e2, A, e3, e4, e5, e6⟩, e7, e8⟩ => by
    subst e2
    obtain ⟨ad, cap', c1, c2, c3, c4, c5, c6⟩ := e8
    exact ⟨v, _, _, Z', _, e1, e6, e7.trim e3 m e4 e5, ad, cap', c1, c2, c3, by simp, c5, c6⟩⟩
end Go.Vc
namespace Go.Proofs.Ytledbjkolidhkaa
open Go Go.Vc Txt
def ccB (c d : Cfg) : List (Nat × List PV) := [(2, cfgC false c), (3, cfgC false d)]
def lsC (l : List Int) : List PV := [.sl true 1 (ints l)]
@[push_cast] theorem lsC_eq (l : List Int) : lsC l = [.sl true 1 (ints l)] := rfl
def ccA (ls : List (List Int)) : Arr := ⟨1, 29, rows lsC ls⟩
theorem grow_ok (c d : Cfg) (ls : List (List Int)) (q : Nat) (n : Nat) (hn : 0 < n) (hl : (n : Int) ≤ 10000000) : FnM (Env.of Try.prog) 82 [.nil, .int n] ⟨[(0, .ptr 2 0), (1, .ptr 3 0), (500, .view 22 0 q), (503, .int n), (523, .int n)], ccB c d, [(22, ccA ls)], []⟩
    (fun r st' => r = .view 622 0 0 ∧ st' = ⟨[(0, .ptr 2 0), (1, .ptr 3 0), (500, .view 22 0 q), (503, .int n), (523, .int n)], ccB c d, [(22, ccA ls), (622, ⟨1, 3, []⟩)], []⟩) := by
  refine FnM.trimA 622 0 ?_
  simp only [ccB, ccA, push_cast, reduceIte, Nat.reduceEqDiff, Nat.reduceAdd, Nat.reduceSub, Nat.reduceMul, Nat.reduceBEq, Nat.reduceLT, Nat.reduceLeDiff, reduceCtorEq, Int.reduceToNat, Int.reduceNeg]
  refine fnM_of 600 Try.func82 ok82_600 (by show 2 ≤ _; decide) rfl (by show 0 ≤ 600; decide) ?_
  simp only [ac82_600, rv82_600, push_cast, reduceIte, Nat.reduceEqDiff, Nat.reduceAdd, Nat.reduceSub, Nat.reduceMul, Nat.reduceBEq, Nat.reduceLT, Nat.reduceLeDiff, reduceCtorEq, Int.reduceToNat, Int.reduceNeg]
  refine cond_dec (fun h => by omega) fun _ => ?_
  refine ⟨by omega, by omega, ?_⟩
  refine cond_dec (fun _ => ?_) fun h => by omega
  refine ⟨by omega, by omega, by omega, by simp, rfl, _, rfl, rfl, ?_⟩
  simp only [List.take_zero, push_cast, reduceIte, Nat.reduceEqDiff, Nat.reduceAdd, Nat.reduceSub, Nat.reduceMul, Nat.reduceBEq, Nat.reduceLT, Nat.reduceLeDiff, reduceCtorEq, Int.reduceToNat, Int.reduceNeg]
theorem grow0_ok (c d : Cfg) (ls : List (List Int)) (q : Nat) : FnM (Env.of Try.prog) 82 [.nil, .int 0] ⟨[(0, .ptr 2 0), (1, .ptr 3 0), (500, .view 22 0 q), (503, .int 0), (523, .int 0)], ccB c d, [(22, ccA ls)], []⟩
    (fun r st' => r = .nil ∧ st' = ⟨[(0, .ptr 2 0), (1, .ptr 3 0), (500, .view 22 0 q), (503, .int 0), (523, .int 0)], ccB c d, [(22, ccA ls)], []⟩) := by
  simp only [ccB, ccA, push_cast, reduceIte, Nat.reduceEqDiff, Nat.reduceAdd, Nat.reduceSub, Nat.reduceMul, Nat.reduceBEq, Nat.reduceLT, Nat.reduceLeDiff, reduceCtorEq, Int.reduceToNat, Int.reduceNeg]
  refine fnM_of 600 Try.func82 ok82_600 (by show 2 ≤ _; decide) rfl (by show 0 ≤ 600; decide) ?_
  simp only [ac82_600, rv82_600, push_cast, reduceIte, Nat.reduceEqDiff, Nat.reduceAdd, Nat.reduceSub, Nat.reduceMul, Nat.reduceBEq, Nat.reduceLT, Nat.reduceLeDiff, reduceCtorEq, Int.reduceToNat, Int.reduceNeg]
  refine cond_dec (p := (0 : Int) < 0) (fun h => by omega) fun _ => ?_
  refine ⟨by omega, by omega, ?_⟩
  refine cond_dec (fun h => by omega) fun _ => ?_
  trivial
def ccR (ls : List (List Int)) (r : PV) (a : List (Nat × Arr)) : Prop :=
  (r = .nil ∧ ls.flatten = [] ∧ a = [(22, ccA ls)]) ∨ (ls.flatten ≠ [] ∧ r = .view 622 0 ls.flatten.length ∧ a = [(22, ccA ls), (622, ⟨1, 3, ints ls.flatten⟩)])
def ccP : List (Nat × PV) := [(0, .ptr 2 0), (1, .ptr 3 0)]
theorem flat_take (ls : List (List Int)) (k : Nat) (hk : k < ls.length) : (ls.take (k + 1)).flatten = (ls.take k).flatten ++ ls.getD k default := by
  rw [List.take_succ_eq_append_getElem hk, List.flatten_append]
  simp [hk]
theorem concat_ok (c d : Cfg) (ls : List (List Int)) (h3 : ls.length ≤ 3) (hb : ∀ l ∈ ls, (l.length : Int) ≤ 1000000) : FnM (Env.of Try.prog) 69 [.view 22 0 ls.length] ⟨ccP, ccB c d, [(22, ccA ls)], []⟩
    (fun r st' => ∃ a, st' = ⟨ccP, ccB c d, a, []⟩ ∧ ccR ls r a) := by
  have hbd : ∀ k, k ≤ ls.length → ((ls.take k).flatten.length : Int) ≤ k * 1000000 := by
    intro k
    induction k with
    | zero => intro _; simp
    | succ k ih =>
      intro hk
      have h1 := ih (by omega)
      have h2 := hb (ls.getD k default) (by simp [show k < ls.length by omega])
      rw [flat_take ls k (by omega), List.length_append]
      omega
  simp only [ccP, ccB, ccA, push_cast, reduceIte, Nat.reduceEqDiff, Nat.reduceAdd, Nat.reduceSub, Nat.reduceMul, Nat.reduceBEq, Nat.reduceLT, Nat.reduceLeDiff, reduceCtorEq, Int.reduceToNat, Int.reduceNeg]
  refine fnM_of 500 Try.func69 ok69_500 (by show 1 ≤ _; decide) rfl (by show 0 ≤ 500; decide) ?_
  simp only [ac69_500, rv69_500, push_cast, reduceIte, Nat.reduceEqDiff, Nat.reduceAdd, Nat.reduceSub, Nat.reduceMul, Nat.reduceBEq, Nat.reduceLT, Nat.reduceLeDiff, reduceCtorEq, Int.reduceToNat, Int.reduceNeg]
  refine loop_of (fun m st => ∃ k : Nat, k ≤ ls.length ∧ m = ls.length - k ∧ st = ⟨ccP ++ [(500, .view 22 0 ls.length), (503, .int ((ls.take k).flatten.length : Nat)), (509, .view 22 0 ls.length), (510, .int ls.length), (511, .int k)], ccB c d, [(22, ccA ls)], []⟩) ls.length ?_ ?_
  · refine ⟨0, by omega, by omega, ?_⟩
    simp only [ccP, ccB, ccA, List.cons_append, List.nil_append, List.take_zero, List.flatten_nil, List.length_nil, push_cast, reduceIte, Nat.reduceEqDiff, Nat.reduceAdd, Nat.reduceSub, Nat.reduceMul, Nat.reduceBEq, Nat.reduceLT, Nat.reduceLeDiff, reduceCtorEq, Int.reduceToNat, Int.reduceNeg]
  rintro m st ⟨k, hk, rfl, rfl⟩
  have h1 := hbd k hk
  simp only [ccP, ccB, ccA, List.cons_append, List.nil_append, push_cast, reduceIte, Nat.reduceEqDiff, Nat.reduceAdd, Nat.reduceSub, Nat.reduceMul, Nat.reduceBEq, Nat.reduceLT, Nat.reduceLeDiff, reduceCtorEq, Int.reduceToNat, Int.reduceNeg]
  refine cond_dec (fun h => ⟨by omega, by omega, ?_⟩) fun h => ?_
  · have h2 := hb (ls.getD k default) (by simp [show k < ls.length by omega])
    have h5 := flat_take ls k (by omega)
    refine ⟨by omega, ?_⟩
    refine cond_dec (fun h => by omega) fun _ => ?_
    refine ⟨by omega, _, ?_, k + 1, by omega, rfl, ?_⟩
    · omega
    · rw [h5, List.length_append]
      simp only [ccP, ccB, ccA, List.cons_append, List.nil_append, push_cast, reduceIte, Nat.reduceEqDiff, Nat.reduceAdd, Nat.reduceSub, Nat.reduceMul, Nat.reduceBEq, Nat.reduceLT, Nat.reduceLeDiff, reduceCtorEq, Int.reduceToNat, Int.reduceNeg]
  · rw [List.take_of_length_le (by omega)] at h1 ⊢
    by_cases hF : ls.flatten = []
    · have hall : ∀ k, ls.getD k default = [] := fun k => by
        by_cases hk : k < ls.length
        · have := List.flatten_eq_nil_iff.1 hF ls[k] (List.getElem_mem hk)
          simp [hk, this]
        · rw [List.getD_eq_getElem?_getD, List.getElem?_eq_none (by omega)]; rfl
      rw [hF]
      simp only [List.length_nil]
      refine clm_eq (grow0_ok c d ls ls.length) ?_
      simp only [ccB, ccA, push_cast, reduceIte, Nat.reduceEqDiff, Nat.reduceAdd, Nat.reduceSub, Nat.reduceMul, Nat.reduceBEq, Nat.reduceLT, Nat.reduceLeDiff, reduceCtorEq, Int.reduceToNat, Int.reduceNeg]
      refine loop_of (fun m st => ∃ k : Nat, k ≤ ls.length ∧ m = ls.length - k ∧ st = ⟨ccP ++ [(506, .nil), (525, .view 22 0 ls.length), (526, .int ls.length), (527, .int k)], ccB c d, [(22, ccA ls)], []⟩) ls.length ?_ ?_
      · refine ⟨0, by omega, by omega, ?_⟩
        simp only [ccP, ccB, ccA, List.cons_append, List.nil_append, push_cast, reduceIte, Nat.reduceEqDiff, Nat.reduceAdd, Nat.reduceSub, Nat.reduceMul, Nat.reduceBEq, Nat.reduceLT, Nat.reduceLeDiff, reduceCtorEq, Int.reduceToNat, Int.reduceNeg]
      rintro m st ⟨k, hk, rfl, rfl⟩
      simp only [ccP, ccB, ccA, List.cons_append, List.nil_append, push_cast, reduceIte, Nat.reduceEqDiff, Nat.reduceAdd, Nat.reduceSub, Nat.reduceMul, Nat.reduceBEq, Nat.reduceLT, Nat.reduceLeDiff, reduceCtorEq, Int.reduceToNat, Int.reduceNeg]
      refine cond_dec (fun h => ⟨by omega, by omega, ?_⟩) fun h => ?_
      · rw [hall k]
        simp only [show ints [] = [] from rfl, push_cast, reduceIte, Nat.reduceEqDiff, Nat.reduceAdd, Nat.reduceSub, Nat.reduceMul, Nat.reduceBEq, Nat.reduceLT, Nat.reduceLeDiff, reduceCtorEq, Int.reduceToNat, Int.reduceNeg]
        refine ⟨by omega, _, ?_, k + 1, by omega, rfl, ?_⟩
        · omega
        · simp only [ccP, ccB, ccA, List.cons_append, List.nil_append, push_cast, reduceIte, Nat.reduceEqDiff, Nat.reduceAdd, Nat.reduceSub, Nat.reduceMul, Nat.reduceBEq, Nat.reduceLT, Nat.reduceLeDiff, reduceCtorEq, Int.reduceToNat, Int.reduceNeg]
      · exact ⟨_, rfl, .inl ⟨rfl, hF, rfl⟩⟩
    · have hpos := List.length_pos_iff.2 hF
      refine clm_eq (grow_ok c d ls ls.length ls.flatten.length hpos (by omega)) ?_
      simp only [ccB, ccA, push_cast, reduceIte, Nat.reduceEqDiff, Nat.reduceAdd, Nat.reduceSub, Nat.reduceMul, Nat.reduceBEq, Nat.reduceLT, Nat.reduceLeDiff, reduceCtorEq, Int.reduceToNat, Int.reduceNeg]
      refine loop_of (fun m st => ∃ k : Nat, k ≤ ls.length ∧ m = ls.length - k ∧ st = ⟨ccP ++ [(506, .view 622 0 (ls.take k).flatten.length), (525, .view 22 0 ls.length), (526, .int ls.length), (527, .int k)], ccB c d, [(22, ccA ls), (622, ⟨1, 3, ints (ls.take k).flatten⟩)], []⟩) ls.length ?_ ?_
      · refine ⟨0, by omega, by omega, ?_⟩
        simp only [ccP, ccB, ccA, List.cons_append, List.nil_append, List.take_zero, List.flatten_nil, List.length_nil, push_cast, reduceIte, Nat.reduceEqDiff, Nat.reduceAdd, Nat.reduceSub, Nat.reduceMul, Nat.reduceBEq, Nat.reduceLT, Nat.reduceLeDiff, reduceCtorEq, Int.reduceToNat, Int.reduceNeg]
        rfl
      rintro m st ⟨k, hk, rfl, rfl⟩
      have h1 := hbd k hk
      simp only [ccP, ccB, ccA, List.cons_append, List.nil_append, push_cast, reduceIte, Nat.reduceEqDiff, Nat.reduceAdd, Nat.reduceSub, Nat.reduceMul, Nat.reduceBEq, Nat.reduceLT, Nat.reduceLeDiff, reduceCtorEq, Int.reduceToNat, Int.reduceNeg]
      refine cond_dec (fun h => ⟨by omega, by omega, ?_⟩) fun h => ?_
      · have h2 := hb (ls.getD k default) (by simp [show k < ls.length by omega])
        have h5 := flat_take ls k (by omega)
        refine ⟨⟨by omega, by omega⟩, by omega, _, ?_, k + 1, by omega, rfl, ?_⟩
        · omega
        · rw [h5, List.length_append]
          simp only [ccP, ccB, ccA, List.cons_append, List.nil_append, push_cast, reduceIte, Nat.reduceEqDiff, Nat.reduceAdd, Nat.reduceSub, Nat.reduceMul, Nat.reduceBEq, Nat.reduceLT, Nat.reduceLeDiff, reduceCtorEq, Int.reduceToNat, Int.reduceNeg]
      · rw [List.take_of_length_le (by omega)]
        exact ⟨rfl, _, rfl, .inr ⟨hF, rfl, rfl⟩⟩
def tilesF (c d : Cfg) : List Int := unlikeF c.mode d.mode ++ unlikeF c.tab d.tab ++ unlikeF c.ram d.ram
def differF (c d : Cfg) : List Int × List Int := (unlikeF c.sel d.sel, Go.Lib.compact (sortF (tilesF c d)))
structure CfgSm (c : Cfg) : Prop where
  sel : (c.sel.length : Int) ≤ 1000000
  mode : (c.mode.length : Int) ≤ 1000000
  tab : (c.tab.length : Int) ≤ 1000000
  ram : (c.ram.length : Int) ≤ 1000000
theorem unlikeF_len (a b : List Int) (ha : (a.length : Int) ≤ 1000000) (hb : (b.length : Int) ≤ 1000000) : ((unlikeF a b).length : Int) ≤ 1000000 := by
  have := idxF_len (unF a b) (max a.length b.length)
  rw [unlikeF]
  omega
set_option maxHeartbeats 2000000 in
theorem differ_ok (c d : Cfg) (hc : CfgSm c) (hd : CfgSm d) : FnEq Try.prog 47 [.agg (cfgC false c), .agg (cfgC false d)] (.tup [.sl true 1 (ints (differF c d).1), .sl true 1 (ints (differF c d).2)]) := by
  have u0 := unlike_ok c.sel d.sel hc.sel hd.sel
  have u1 := unlike_ok c.mode d.mode hc.mode hd.mode
  have u2 := unlike_ok c.tab d.tab hc.tab hd.tab
  have u3 := unlike_ok c.ram d.ram hc.ram hd.ram
  have l1 := unlikeF_len c.mode d.mode hc.mode hd.mode
  have l2 := unlikeF_len c.tab d.tab hc.tab hd.tab
  have l3 := unlikeF_len c.ram d.ram hc.ram hd.ram
  refine FnEq.of_awp Try.func47 ok47 (by show 2 ≤ _; decide) (by simp only [push_cast, reduceIte, Nat.reduceEqDiff, Nat.reduceAdd, Nat.reduceSub, Nat.reduceMul, Nat.reduceBEq, Nat.reduceLT, Nat.reduceLeDiff, reduceCtorEq, Int.reduceToNat, Int.reduceNeg] <;> first | exact fun _ _ => trivial | simp) ?_
  simp only [ac47, rv47, push_cast, reduceIte, Nat.reduceEqDiff, Nat.reduceAdd, Nat.reduceSub, Nat.reduceMul, Nat.reduceBEq, Nat.reduceLT, Nat.reduceLeDiff, reduceCtorEq, Int.reduceToNat, Int.reduceNeg]
  refine dcal_eq u1 (u := []) rfl ?_
  simp only [push_cast, reduceIte, Nat.reduceEqDiff, Nat.reduceAdd, Nat.reduceSub, Nat.reduceMul, Nat.reduceBEq, Nat.reduceLT, Nat.reduceLeDiff, reduceCtorEq, Int.reduceToNat, Int.reduceNeg]
  refine dcal_eq u2 (u := []) rfl ?_
  simp only [push_cast, reduceIte, Nat.reduceEqDiff, Nat.reduceAdd, Nat.reduceSub, Nat.reduceMul, Nat.reduceBEq, Nat.reduceLT, Nat.reduceLeDiff, reduceCtorEq, Int.reduceToNat, Int.reduceNeg]
  refine cal_eq u3 ?_
  simp only [push_cast, reduceIte, Nat.reduceEqDiff, Nat.reduceAdd, Nat.reduceSub, Nat.reduceMul, Nat.reduceBEq, Nat.reduceLT, Nat.reduceLeDiff, reduceCtorEq, Int.reduceToNat, Int.reduceNeg]
  obtain ⟨ls, hls⟩ : ∃ ls, ls = [unlikeF c.mode d.mode, unlikeF c.tab d.tab, unlikeF c.ram d.ram] := ⟨_, rfl⟩
  have hfl : ls.flatten = tilesF c d := by rw [hls]; simp [tilesF]
  have hln : ((tilesF c d).length : Int) ≤ 3000000 := by rw [tilesF]; simp only [List.length_append]; omega
  have hcc := concat_ok c d ls (by rw [hls]; exact Nat.le_refl 3) (fun l hl => by rw [hls] at hl; simp at hl; rcases hl with rfl | rfl | rfl <;> assumption)
  have hfr : FnM (Env.of Try.prog) 69 [.view 22 0 3] ⟨[(2, .ptr 2 0), (3, .ptr 3 0), (7, .ptr 2 1), (8, .sl false 1 (ints c.mode)), (9, .ptr 3 1), (10, .sl false 1 (ints d.mode)), (11, .sl true 1 (ints (unlikeF c.mode d.mode))), (12, .ptr 2 2),
      (13, .sl false 1 (ints c.tab)), (14, .ptr 3 2), (15, .sl false 1 (ints d.tab)), (16, .sl true 1 (ints (unlikeF c.tab d.tab))), (17, .ptr 2 3), (18, .sl false 1 (ints c.ram)), (19, .ptr 3 3), (20, .sl false 1 (ints d.ram)), (21, .sl true 1 (ints (unlikeF c.ram d.ram))), (22, .view 22 0 3)], ccB c d, [(22, ccA ls)], []⟩
      (fun r st' => ∃ a, st' = ⟨[(2, .ptr 2 0), (3, .ptr 3 0)], ccB c d, a, []⟩ ∧ ccR ls r a) := by
    refine FnM.frame ccP [(2, .ptr 2 0), (3, .ptr 3 0)] rfl rfl (by simp only [ccP, push_cast, reduceIte, Nat.reduceEqDiff, Nat.reduceAdd, Nat.reduceSub, Nat.reduceMul, Nat.reduceBEq, Nat.reduceLT, Nat.reduceLeDiff, reduceCtorEq, Int.reduceToNat, Int.reduceNeg]) ?_
    rw [show (3 : Nat) = ls.length by rw [hls]; rfl]
    refine FnM.mono hcc ?_
    rintro r st' ⟨a, rfl, h⟩
    exact ⟨_, _, _, rfl, a, rfl, h⟩
  rw [hls] at hfr
  refine clm_of hfr ?_
  rintro r st' ⟨a, rfl, h⟩
  rw [← hls] at h
  rcases h with ⟨rfl, h1, rfl⟩ | ⟨h1, rfl, rfl⟩
  · simp only [ccB, ccA, push_cast, reduceIte, Nat.reduceEqDiff, Nat.reduceAdd, Nat.reduceSub, Nat.reduceMul, Nat.reduceBEq, Nat.reduceLT, Nat.reduceLeDiff, reduceCtorEq, Int.reduceToNat, Int.reduceNeg]
    refine clm_eq sort_nil ?_
    simp only [push_cast, reduceIte, Nat.reduceEqDiff, Nat.reduceAdd, Nat.reduceSub, Nat.reduceMul, Nat.reduceBEq, Nat.reduceLT, Nat.reduceLeDiff, reduceCtorEq, Int.reduceToNat, Int.reduceNeg]
    refine cal_eq u0 ?_
    simp only [push_cast, reduceIte, Nat.reduceEqDiff, Nat.reduceAdd, Nat.reduceSub, Nat.reduceMul, Nat.reduceBEq, Nat.reduceLT, Nat.reduceLeDiff, reduceCtorEq, Int.reduceToNat, Int.reduceNeg]
    refine clm_eq compact_nil ?_
    simp only [differF, ← hfl, h1, push_cast, reduceIte, Nat.reduceEqDiff, Nat.reduceAdd, Nat.reduceSub, Nat.reduceMul, Nat.reduceBEq, Nat.reduceLT, Nat.reduceLeDiff, reduceCtorEq, Int.reduceToNat, Int.reduceNeg]
    refine ⟨fun _ _ => trivial, ?_⟩
    rw [sortF, List.mergeSort_nil]
    rfl
  · simp only [ccB, ccA, hfl, push_cast, reduceIte, Nat.reduceEqDiff, Nat.reduceAdd, Nat.reduceSub, Nat.reduceMul, Nat.reduceBEq, Nat.reduceLT, Nat.reduceLeDiff, reduceCtorEq, Int.reduceToNat, Int.reduceNeg]
    refine clm_eq (sort_ok (id := 622) (ty := 3) rfl (by omega)) ?_
    simp only [push_cast, reduceIte, Nat.reduceEqDiff, Nat.reduceAdd, Nat.reduceSub, Nat.reduceMul, Nat.reduceBEq, Nat.reduceLT, Nat.reduceLeDiff, reduceCtorEq, Int.reduceToNat, Int.reduceNeg]
    refine cal_eq u0 ?_
    simp only [push_cast, reduceIte, Nat.reduceEqDiff, Nat.reduceAdd, Nat.reduceSub, Nat.reduceMul, Nat.reduceBEq, Nat.reduceLT, Nat.reduceLeDiff, reduceCtorEq, Int.reduceToNat, Int.reduceNeg]
    have hsl : (sortF (tilesF c d)).length = (tilesF c d).length := by rw [sortF, List.length_mergeSort]
    refine clm_eq (compact_at (id := 622) (ty := 3) hsl.symm rfl (by rw [hsl]; omega)) ?_
    simp only [differF, push_cast, reduceIte, Nat.reduceEqDiff, Nat.reduceAdd, Nat.reduceSub, Nat.reduceMul, Nat.reduceBEq, Nat.reduceLT, Nat.reduceLeDiff, reduceCtorEq, Int.reduceToNat, Int.reduceNeg]
    rw [List.take_left]
    first
      | exact ⟨⟨fun _ _ => trivial, fun _ _ => trivial⟩, .refl _, .refl _⟩
      | exact ⟨⟨fun _ _ => trivial, fun _ _ => trivial⟩, .refl _⟩
end Go.Proofs.Ytledbjkolidhkaa
namespace Go.Proofs.Ytledbjkolidhkaa.Txt
open Go Go.Vc
set_option maxRecDepth 100000
def ac43b_r6 : AC :=
 (.seq (.reg [0, 40, 0, 1, 2, 3, 9, 10] [
 ⟨some 23, none, .mv (.t 1)⟩, ⟨some 24, none, .cal 41 [(.t 23), (.c (.sc (.int .i64 0))), (.c (.sc (.int .i64 3)))]⟩, ⟨some 25, none, .mv (.t 24)⟩, ⟨some 26, some (25, true), .mv (.t 0)⟩, ⟨some 27, some (25, true), .mv (.t 1)⟩, ⟨some 28, some (25, true), .cal 68 [(.t 26), (.t 27)]⟩, ⟨some 29, none, .pick (.t 25) (.t 28) (.c (.sc (.bool false)))⟩, ⟨some 30, none, .mv (.t 29)⟩, ⟨some 31, some (30, true), .mv (.t 2)⟩, ⟨some 32, some (30, true), .mv (.t 9)⟩, ⟨some 33, some (30, true), .cal 41 [(.t 31), (.c (.sc (.int .i64 0))), (.t 32)]⟩, ⟨some 34, none, .pick (.t 30) (.t 33) (.c (.sc (.bool false)))⟩, ⟨some 35, none, .mv (.t 34)⟩, ⟨some 36, some (35, true), .mv (.t 3)⟩, ⟨some 37, some (35, true), .mv (.t 10)⟩, ⟨some 38, some (35, true), .cal 41 [(.t 36), (.c (.sc (.int .i64 0))), (.t 37)]⟩, ⟨some 39, none, .pick (.t 35) (.t 38) (.c (.sc (.bool false)))⟩, ⟨some 8, none, .mv (.t 39)⟩])
 .ret)
def ac43b : AC :=
 (.seq (.reg [0, 40, 0, 1, 2, 3] [
 ⟨some 8, none, .mv (.c (.sc (.bool false)))⟩])
 (.seq (.reg [0, 40, 0, 1, 2, 3] [
 ⟨some 9, none, .mv (.c (.sc (.int .i64 0)))⟩, ⟨some 10, none, .mv (.c (.sc (.int .i64 0)))⟩])
 (.seq (.seq (.reg [0, 40, 0, 1, 2, 3, 9, 10] [
 ⟨some 11, none, .mv (.t 1)⟩, ⟨some 12, none, .cmp .eql .i64 (.t 11) (.c (.sc (.int .i64 1)))⟩, ⟨some 13, none, .mv (.t 12)⟩, ⟨some 14, some (13, false), .mv (.t 1)⟩, ⟨some 15, some (13, false), .cmp .eql .i64 (.t 14) (.c (.sc (.int .i64 2)))⟩, ⟨some 16, none, .pick (.t 13) (.c (.sc (.bool true))) (.t 15)⟩])
 (.cut [0, 40, 0, 1, 2, 3, 9, 10, 16] (.cond (.t 16)
 (.reg [0, 40, 0, 1, 2, 3, 10] [
 ⟨some 9, none, .mv (.c (.sc (.int .i64 65535)))⟩])
 .skip)))
 (.seq (.seq (.reg [0, 40, 0, 1, 2, 3, 9, 10] [
 ⟨some 17, none, .mv (.t 1)⟩, ⟨some 18, none, .cmp .eql .i64 (.t 17) (.c (.sc (.int .i64 2)))⟩, ⟨some 19, none, .mv (.t 18)⟩, ⟨some 20, some (19, false), .mv (.t 1)⟩, ⟨some 21, some (19, false), .cmp .eql .i64 (.t 20) (.c (.sc (.int .i64 3)))⟩, ⟨some 22, none, .pick (.t 19) (.c (.sc (.bool true))) (.t 21)⟩])
 (.cut [0, 40, 0, 1, 2, 3, 9, 10, 22] (.cond (.t 22)
 (.reg [0, 40, 0, 1, 2, 3, 9] [
 ⟨some 10, none, .mv (.c (.sc (.int .i64 255)))⟩])
 .skip)))
 ac43b_r6))))
def rv43b : List RV := [.tmp 8]
theorem ok43b : fnOk Try.prog ac43b rv43b Try.f43 = true := by kernel_rfl
end Go.Proofs.Ytledbjkolidhkaa.Txt
namespace Go.Proofs.Ytledbjkolidhkaa
open Go Go.Vc Txt
def TileOk (k m t r : Int) : Prop := (0 ≤ m ∧ m ≤ 3) ∧ holdsF k m = true ∧ (0 ≤ t ∧ t ≤ if m = 1 ∨ m = 2 then 65535 else 0) ∧ (0 ≤ r ∧ r ≤ if m = 2 ∨ m = 3 then 255 else 0)
instance (k m t r : Int) : Decidable (TileOk k m t r) := by unfold TileOk; infer_instance
set_option maxHeartbeats 2000000 in
theorem vtile_ok (k m t r : Int) : FnEq Try.prog 43 [.int k, .int m, .int t, .int r] (.bool (decide (TileOk k m t r))) := by
  have key : ∀ T R : Int, (T = if m = 1 ∨ m = 2 then 65535 else 0) → (R = if m = 2 ∨ m = 3 then 255 else 0) → (TileOk k m t r ↔ (0 ≤ m ∧ m ≤ 3) ∧ holdsF k m = true ∧ (0 ≤ t ∧ t ≤ T) ∧ (0 ≤ r ∧ r ≤ R)) := fun T R hT hR => by rw [TileOk, hT, hR]
  have fin : ∀ T R : Int, (T = if m = 1 ∨ m = 2 then 65535 else 0) → (R = if m = 2 ∨ m = 3 then 255 else 0) → ∀ {st : St}, st.keepS [0, 40, 0, 1, 2, 3, 9, 10] = ⟨[(0, .int k), (1, .int m), (2, .int t), (3, .int r), (9, .int T), (10, .int R)], [], [], []⟩ →
      awp (Env.of Try.prog) ac43b_r6 (retK rv43b fun x => Sub x (.bool (decide (TileOk k m t r)))) st := by
    intro T R hT hR st hst
    have hk := key T R hT hR
    simp only [ac43b_r6, rv43b, push_cast, reduceIte, Nat.reduceEqDiff, Nat.reduceAdd, Nat.reduceSub, Nat.reduceMul, Nat.reduceBEq, Nat.reduceLT, Nat.reduceLeDiff, reduceCtorEq, Int.reduceToNat, Int.reduceNeg, hst]
    refine cal_eq (within_ok _ _ _) ?_
    simp only [push_cast, reduceIte, Nat.reduceEqDiff, Nat.reduceAdd, Nat.reduceSub, Nat.reduceMul, Nat.reduceBEq, Nat.reduceLT, Nat.reduceLeDiff, reduceCtorEq, Int.reduceToNat, Int.reduceNeg]
    refine grd_dec rfl (fun w1 => ?_) fun w1 => ?_ <;> simp only [push_cast, reduceIte, Nat.reduceEqDiff, Nat.reduceAdd, Nat.reduceSub, Nat.reduceMul, Nat.reduceBEq, Nat.reduceLT, Nat.reduceLeDiff, reduceCtorEq, Int.reduceToNat, Int.reduceNeg]
    rotate_left
    · rw [decide_eq_false fun h => w1 (hk.1 h).1]
    refine cal_eq (holds_ok _ _) ?_
    simp only [push_cast, reduceIte, Nat.reduceEqDiff, Nat.reduceAdd, Nat.reduceSub, Nat.reduceMul, Nat.reduceBEq, Nat.reduceLT, Nat.reduceLeDiff, reduceCtorEq, Int.reduceToNat, Int.reduceNeg]
    refine grd_b rfl (fun w2 => ?_) fun w2 => ?_ <;> simp only [push_cast, reduceIte, Nat.reduceEqDiff, Nat.reduceAdd, Nat.reduceSub, Nat.reduceMul, Nat.reduceBEq, Nat.reduceLT, Nat.reduceLeDiff, reduceCtorEq, Int.reduceToNat, Int.reduceNeg]
    rotate_left
    · rw [decide_eq_false fun h => by have := (hk.1 h).2.1; rw [w2] at this; cases this]
    refine cal_eq (within_ok _ _ _) ?_
    simp only [push_cast, reduceIte, Nat.reduceEqDiff, Nat.reduceAdd, Nat.reduceSub, Nat.reduceMul, Nat.reduceBEq, Nat.reduceLT, Nat.reduceLeDiff, reduceCtorEq, Int.reduceToNat, Int.reduceNeg]
    refine grd_dec rfl (fun w3 => ?_) fun w3 => ?_ <;> simp only [push_cast, reduceIte, Nat.reduceEqDiff, Nat.reduceAdd, Nat.reduceSub, Nat.reduceMul, Nat.reduceBEq, Nat.reduceLT, Nat.reduceLeDiff, reduceCtorEq, Int.reduceToNat, Int.reduceNeg]
    rotate_left
    · rw [decide_eq_false fun h => w3 (hk.1 h).2.2.1]
    refine cal_eq (within_ok _ _ _) ?_
    simp only [push_cast, reduceIte, Nat.reduceEqDiff, Nat.reduceAdd, Nat.reduceSub, Nat.reduceMul, Nat.reduceBEq, Nat.reduceLT, Nat.reduceLeDiff, reduceCtorEq, Int.reduceToNat, Int.reduceNeg]
    rw [decide_eq_decide.2 (show (0 ≤ r ∧ r ≤ R) ↔ TileOk k m t r from ⟨fun h => hk.2 ⟨w1, w2, w3, h⟩, fun h => (hk.1 h).2.2.2⟩)]
  refine FnEq.of_awp Try.func43 ok43b (by show 4 ≤ _; decide) (by simp only [push_cast, reduceIte, Nat.reduceEqDiff, Nat.reduceAdd, Nat.reduceSub, Nat.reduceMul, Nat.reduceBEq, Nat.reduceLT, Nat.reduceLeDiff, reduceCtorEq, Int.reduceToNat, Int.reduceNeg] <;> first | exact fun _ _ => trivial | simp) ?_
  simp only [ac43b, push_cast, reduceIte, Nat.reduceEqDiff, Nat.reduceAdd, Nat.reduceSub, Nat.reduceMul, Nat.reduceBEq, Nat.reduceLT, Nat.reduceLeDiff, reduceCtorEq, Int.reduceToNat, Int.reduceNeg]
  cases e1 : decide (m = 1) <;> cases e2 : decide (m = 2) <;> cases e3 : decide (m = 3)
  all_goals have h1 := e1
  all_goals have h2 := e2
  all_goals have h3 := e3
  all_goals simp only [decide_eq_true_eq, decide_eq_false_iff_not] at h1 h2 h3
  all_goals first | (exfalso; omega) | skip
  all_goals simp only [e1, e2, e3, push_cast, reduceIte, Nat.reduceEqDiff, Nat.reduceAdd, Nat.reduceSub, Nat.reduceMul, Nat.reduceBEq, Nat.reduceLT, Nat.reduceLeDiff, reduceCtorEq, Int.reduceToNat, Int.reduceNeg]
  · refine fin 0 0 (by rw [if_neg (by omega)]) (by rw [if_neg (by omega)]) ?_
    simp only [push_cast, reduceIte, Nat.reduceEqDiff, Nat.reduceAdd, Nat.reduceSub, Nat.reduceMul, Nat.reduceBEq, Nat.reduceLT, Nat.reduceLeDiff, reduceCtorEq, Int.reduceToNat, Int.reduceNeg]
  · refine fin 0 255 (by rw [if_neg (by omega)]) (by rw [if_pos (by omega)]) ?_
    simp only [push_cast, reduceIte, Nat.reduceEqDiff, Nat.reduceAdd, Nat.reduceSub, Nat.reduceMul, Nat.reduceBEq, Nat.reduceLT, Nat.reduceLeDiff, reduceCtorEq, Int.reduceToNat, Int.reduceNeg]
  · refine fin 65535 255 (by rw [if_pos (by omega)]) (by rw [if_pos (by omega)]) ?_
    simp only [push_cast, reduceIte, Nat.reduceEqDiff, Nat.reduceAdd, Nat.reduceSub, Nat.reduceMul, Nat.reduceBEq, Nat.reduceLT, Nat.reduceLeDiff, reduceCtorEq, Int.reduceToNat, Int.reduceNeg]
  · refine fin 65535 0 (by rw [if_pos (by omega)]) (by rw [if_neg (by omega)]) ?_
    simp only [push_cast, reduceIte, Nat.reduceEqDiff, Nat.reduceAdd, Nat.reduceSub, Nat.reduceMul, Nat.reduceBEq, Nat.reduceLT, Nat.reduceLeDiff, reduceCtorEq, Int.reduceToNat, Int.reduceNeg]
end Go.Proofs.Ytledbjkolidhkaa
