/- VcN VcO VcP: lemmas for PLayouts -/
import Derived.Test.YtledbjkolidhkaaPart05
set_option linter.unusedSimpArgs false
set_option linter.unusedVariables false
namespace Go.Vc
open Go Go.RowKit
def memN : Nat → List Nat → Bool
  | _, [] => false
  | i, j :: l => if j = i then true else memN i l
theorem memN_eq (i : Nat) (l : List Nat) : l.contains i = memN i l := by
  induction l with
  | nil => rfl
  | cons j l ih =>
    rw [List.contains_cons, ih, memN]
    by_cases h : j = i
    · subst h; simp
    · have : (i == j) = false := by simpa using Ne.symm h
      rw [if_neg h, this]; rfl
@[push_cast] theorem memN_nil (i : Nat) : memN i [] = false := rfl
@[push_cast] theorem memN_cons (i j : Nat) (l : List Nat) : memN i (j :: l) = if j = i then true else memN i l := rfl
def getL : List (Nat × PV) → Nat → PV
  | [], _ => .bot
  | (k, v) :: r, i => if k = i then v else getL r i
theorem getL_eq (s : List (Nat × PV)) (i : Nat) : (lk s i).getD .bot = getL s i := by
  induction s with
  | nil => rfl
  | cons x r ih =>
    obtain ⟨k, v⟩ := x
    simp only [lk, getL]
    split
    · rfl
    · exact ih
@[push_cast] theorem getL_nil (i : Nat) : getL [] i = .bot := rfl
@[push_cast] theorem getL_cons (k i : Nat) (v : PV) (r : List (Nat × PV)) : getL ((k, v) :: r) i = if k = i then v else getL r i := rfl
@[push_cast] theorem get_mk (s : List (Nat × PV)) (b : List (Nat × List PV)) (a : List (Nat × Arr)) (m : List (Nat × Mp)) (i : Nat) : St.get ⟨s, b, a, m⟩ i = getL s i := getL_eq s i
@[push_cast] theorem ev_t (st : St) (n : Nat) : Opd.ev st (.t n) = st.get n := rfl
@[push_cast] theorem ev_c (st : St) (p : PV) : Opd.ev st (.c p) = p := rfl
@[push_cast] theorem put_some (s : List (Nat × PV)) (b : List (Nat × List PV)) (a : List (Nat × Arr)) (m : List (Nat × Mp)) (i : Nat) (v : PV) : St.put ⟨s, b, a, m⟩ (some i) v = ⟨up s i v, b, a, m⟩ := rfl
@[push_cast] theorem put_none (st : St) (v : PV) : St.put st none v = st := rfl
@[push_cast] theorem up_nil {α : Type} (i : Nat) (v : α) : up [] i v = [(i, v)] := rfl
@[push_cast] theorem up_cons {α : Type} (k i : Nat) (u v : α) (r : List (Nat × α)) : up ((k, u) :: r) i v = if k = i then (k, v) :: r else if i < k then (i, v) :: (k, u) :: r else (k, u) :: up r i v := rfl
@[push_cast] theorem rm_nil {α : Type} (i : Nat) : rm ([] : List (Nat × α)) i = [] := rfl
@[push_cast] theorem rm_cons {α : Type} (k i : Nat) (u : α) (r : List (Nat × α)) : rm ((k, u) :: r) i = if k = i then rm r i else (k, u) :: rm r i := rfl
@[push_cast] theorem lk_nil {α : Type} (i : Nat) : lk ([] : List (Nat × α)) i = none := rfl
@[push_cast] theorem lk_cons {α : Type} (k i : Nat) (u : α) (r : List (Nat × α)) : lk ((k, u) :: r) i = if k = i then some u else lk r i := rfl
def keepL (ks : List Nat) : List (Nat × PV) → List (Nat × PV)
  | [] => []
  | (k, v) :: r => if inK ks k = true then (k, v) :: keepL ks r else keepL ks r
@[push_cast] theorem inK_eq (K n i : Nat) (r : List Nat) : inK (K :: n :: r) i = if i < K then true else if K + n ≤ i then true else memN i r := by
  simp only [inK, memN_eq]
  by_cases h : i < K <;> by_cases h2 : K + n ≤ i <;> simp [h, h2]
theorem keepL_eq (ks : List Nat) (s : List (Nat × PV)) : s.filter (fun x => inK ks x.1) = keepL ks s := by
  induction s with
  | nil => rfl
  | cons x r ih =>
    obtain ⟨k, v⟩ := x
    simp only [List.filter_cons, keepL] at ih ⊢
    rw [ih]
@[push_cast] theorem keepL_nil (ks : List Nat) : keepL ks [] = [] := rfl
@[push_cast] theorem keepL_cons (ks : List Nat) (k : Nat) (v : PV) (r : List (Nat × PV)) : keepL ks ((k, v) :: r) = if inK ks k = true then (k, v) :: keepL ks r else keepL ks r := rfl
@[push_cast] theorem keepS_mk (s : List (Nat × PV)) (b : List (Nat × List PV)) (a : List (Nat × Arr)) (m : List (Nat × Mp)) (ks : List Nat) : St.keepS ⟨s, b, a, m⟩ ks = ⟨keepL ks s, b, a, m⟩ := by
  simp only [St.keepS, keepL_eq]
section
variable (pb pa : Nat → Bool)
@[push_cast] theorem to_view (i lo n : Nat) : PV.to pb pa (.view i lo n) = pa i := rfl
@[push_cast] theorem to_eptr (i lo n : Nat) : PV.to pb pa (.eptr i lo n) = pa i := rfl
@[push_cast] theorem to_ptr (i n : Nat) : PV.to pb pa (.ptr i n) = pb i := rfl
@[push_cast] theorem to_sc (v : Value) : PV.to pb pa (.sc v) = false := rfl
@[push_cast] theorem to_nil : PV.to pb pa .nil = false := rfl
@[push_cast] theorem to_bot : PV.to pb pa .bot = false := rfl
@[push_cast] theorem to_sl (p : Bool) (es : Nat) (xs : List (List PV)) : PV.to pb pa (.sl p es xs) = false := rfl
def anyN (pb : Nat → Bool) : List Nat → Bool
  | [] => false
  | i :: r => pb i || anyN pb r
theorem anyN_eq (pb : Nat → Bool) (l : List Nat) : l.any pb = anyN pb l := by induction l <;> simp_all [anyN]
@[push_cast] theorem anyN_nil : anyN pb [] = false := rfl
@[push_cast] theorem anyN_cons (i : Nat) (r : List Nat) : anyN pb (i :: r) = (pb i || anyN pb r) := rfl
@[push_cast] theorem to_clo (f : Nat) (ids : List Nat) : PV.to pb pa (.clo f ids) = anyN pb ids := anyN_eq pb ids
@[push_cast] theorem to_cld (ids : List Nat) : PV.to pb pa (.cld ids) = anyN pb ids := anyN_eq pb ids
@[push_cast] theorem to_yl (i : Nat) : PV.to pb pa (.yl i) = pb i := rfl
@[push_cast] theorem to_mp (i : Nat) : PV.to pb pa (.mp i) = pb i := rfl
@[push_cast] theorem to_itr (i j : Nat) : PV.to pb pa (.itr i j) = (pb i || pb j) := rfl
@[push_cast] theorem to_iptr (p : Bool) (cs : List PV) (o : Nat) : PV.to pb pa (.iptr p cs o) = false := rfl
def anyT : List PV → Bool
  | [] => false
  | c :: r => c.to pb pa || anyT r
def anyA : List PV → Bool
  | [] => false
  | c :: r => c.toA pb pa || anyA r
theorem anyT_eq (cs : List PV) : cs.any (PV.to pb pa) = anyT pb pa cs := by induction cs <;> simp_all [anyT]
theorem anyA_eq (cs : List PV) : cs.any (PV.toA pb pa) = anyA pb pa cs := by induction cs <;> simp_all [anyA]
@[push_cast] theorem anyT_nil : anyT pb pa [] = false := rfl
@[push_cast] theorem anyT_cons (c : PV) (r : List PV) : anyT pb pa (c :: r) = (c.to pb pa || anyT pb pa r) := rfl
@[push_cast] theorem anyA_nil : anyA pb pa [] = false := rfl
@[push_cast] theorem anyA_cons (c : PV) (r : List PV) : anyA pb pa (c :: r) = (c.toA pb pa || anyA pb pa r) := rfl
@[push_cast] theorem toA_agg (cs : List PV) : PV.toA pb pa (.agg cs) = anyT pb pa cs := anyT_eq pb pa cs
@[push_cast] theorem toA_view (i lo n : Nat) : PV.toA pb pa (.view i lo n) = pa i := rfl
@[push_cast] theorem toA_eptr (i lo n : Nat) : PV.toA pb pa (.eptr i lo n) = pa i := rfl
@[push_cast] theorem toA_ptr (i n : Nat) : PV.toA pb pa (.ptr i n) = pb i := rfl
@[push_cast] theorem toA_sc (v : Value) : PV.toA pb pa (.sc v) = false := rfl
@[push_cast] theorem toA_nil : PV.toA pb pa .nil = false := rfl
@[push_cast] theorem toA_bot : PV.toA pb pa .bot = false := rfl
@[push_cast] theorem toA_clo (f : Nat) (ids : List Nat) : PV.toA pb pa (.clo f ids) = anyN pb ids := anyN_eq pb ids
@[push_cast] theorem toA_cld (ids : List Nat) : PV.toA pb pa (.cld ids) = anyN pb ids := anyN_eq pb ids
@[push_cast] theorem toA_yl (i : Nat) : PV.toA pb pa (.yl i) = pb i := rfl
@[push_cast] theorem toA_mp (i : Nat) : PV.toA pb pa (.mp i) = pb i := rfl
@[push_cast] theorem toA_itr (i j : Nat) : PV.toA pb pa (.itr i j) = (pb i || pb j) := rfl
@[push_cast] theorem toA_iptr (p : Bool) (cs : List PV) (o : Nat) : PV.toA pb pa (.iptr p cs o) = false := rfl
@[push_cast] theorem toA_sl (p : Bool) (es : Nat) (xs : List (List PV)) : PV.toA pb pa (.sl p es xs) = false := rfl
@[push_cast] theorem toV_view (i lo n : Nat) : PV.toV pb pa (.view i lo n) = pa i := rfl
@[push_cast] theorem toV_eptr (i lo n : Nat) : PV.toV pb pa (.eptr i lo n) = pa i := rfl
@[push_cast] theorem toV_ptr (i n : Nat) : PV.toV pb pa (.ptr i n) = pb i := rfl
@[push_cast] theorem toV_sc (v : Value) : PV.toV pb pa (.sc v) = false := rfl
@[push_cast] theorem toV_nil : PV.toV pb pa .nil = false := rfl
@[push_cast] theorem toV_bot : PV.toV pb pa .bot = false := rfl
@[push_cast] theorem toV_clo (f : Nat) (ids : List Nat) : PV.toV pb pa (.clo f ids) = anyN pb ids := anyN_eq pb ids
@[push_cast] theorem toV_cld (ids : List Nat) : PV.toV pb pa (.cld ids) = anyN pb ids := anyN_eq pb ids
@[push_cast] theorem toV_yl (i : Nat) : PV.toV pb pa (.yl i) = pb i := rfl
@[push_cast] theorem toV_mp (i : Nat) : PV.toV pb pa (.mp i) = pb i := rfl
@[push_cast] theorem toV_itr (i j : Nat) : PV.toV pb pa (.itr i j) = (pb i || pb j) := rfl
@[push_cast] theorem toV_sl (p : Bool) (es : Nat) (xs : List (List PV)) : PV.toV pb pa (.sl p es xs) = false := rfl
@[push_cast] theorem toV_iptr (p : Bool) (cs : List PV) (o : Nat) : PV.toV pb pa (.iptr p cs o) = false := rfl
@[push_cast] theorem toV_agg (cs : List PV) : PV.toV pb pa (.agg cs) = anyT pb pa cs := anyT_eq pb pa cs
@[push_cast] theorem toV_tup (cs : List PV) : PV.toV pb pa (.tup cs) = anyA pb pa cs := anyA_eq pb pa cs
def refS : List (Nat × PV) → Bool
  | [] => false
  | (_, v) :: r => v.toV pb pa || refS r
def refB : List (Nat × List PV) → Bool
  | [] => false
  | (_, v) :: r => anyT pb pa v || refB r
theorem refS_eq (s : List (Nat × PV)) : s.any (fun y => y.2.toV pb pa) = refS pb pa s := by induction s <;> simp_all [refS]
theorem refB_eq (s : List (Nat × List PV)) : s.any (fun y => y.2.any (PV.to pb pa)) = refB pb pa s := by induction s <;> simp_all [refB, anyT_eq]
@[push_cast] theorem refS_nil : refS pb pa [] = false := rfl
@[push_cast] theorem refS_cons (k : Nat) (v : PV) (r : List (Nat × PV)) : refS pb pa ((k, v) :: r) = (v.toV pb pa || refS pb pa r) := rfl
@[push_cast] theorem refB_nil : refB pb pa [] = false := rfl
@[push_cast] theorem refB_cons (k : Nat) (v : List PV) (r : List (Nat × List PV)) : refB pb pa ((k, v) :: r) = (anyT pb pa v || refB pb pa r) := rfl
end
def isId (i : Nat) : Nat → Bool := fun j => j == i
@[push_cast] theorem isId_app (i j : Nat) : isId i j = (j == i) := rfl
@[push_cast] theorem nul_app (j : Nat) : nul j = false := rfl
def gcB (s : List (Nat × PV)) (b0 : List (Nat × List PV)) : List (Nat × List PV) → List (Nat × List PV)
  | [] => []
  | (k, v) :: r => if (refS (isId k) nul s || refB (isId k) nul b0) = true then (k, v) :: gcB s b0 r else gcB s b0 r
def gcA (s : List (Nat × PV)) (b : List (Nat × List PV)) : List (Nat × Arr) → List (Nat × Arr)
  | [] => []
  | (k, v) :: r => if (refS nul (isId k) s || refB nul (isId k) b) = true then (k, v) :: gcA s b r else gcA s b r
@[push_cast] theorem gcB_nil (s : List (Nat × PV)) (b0 : List (Nat × List PV)) : gcB s b0 [] = [] := rfl
@[push_cast] theorem gcB_cons (s : List (Nat × PV)) (b0 : List (Nat × List PV)) (k : Nat) (v : List PV) (r : List (Nat × List PV)) : gcB s b0 ((k, v) :: r) = if (refS (isId k) nul s || refB (isId k) nul b0) = true then (k, v) :: gcB s b0 r else gcB s b0 r := rfl
@[push_cast] theorem gcA_nil (s : List (Nat × PV)) (b : List (Nat × List PV)) : gcA s b [] = [] := rfl
@[push_cast] theorem gcA_cons (s : List (Nat × PV)) (b : List (Nat × List PV)) (k : Nat) (v : Arr) (r : List (Nat × Arr)) : gcA s b ((k, v) :: r) = if (refS nul (isId k) s || refB nul (isId k) b) = true then (k, v) :: gcA s b r else gcA s b r := rfl
theorem gcB_eq (s : List (Nat × PV)) (b0 b : List (Nat × List PV)) : b.filter (fun x => s.any (fun y => y.2.toV (fun j => j == x.1) nul) || b0.any (fun y => y.2.any (PV.to (fun j => j == x.1) nul))) = gcB s b0 b := by
  induction b with
  | nil => rfl
  | cons x r ih =>
    obtain ⟨k, v⟩ := x
    simp only [refS_eq, refB_eq] at ih ⊢
    simp only [List.filter_cons, gcB, ih]
    rfl
theorem gcA_eq (s : List (Nat × PV)) (b0 : List (Nat × List PV)) (b : List (Nat × Arr)) : b.filter (fun x => s.any (fun y => y.2.toV nul (fun j => j == x.1)) || b0.any (fun y => y.2.any (PV.to nul (fun j => j == x.1)))) = gcA s b0 b := by
  induction b with
  | nil => rfl
  | cons x r ih =>
    obtain ⟨k, v⟩ := x
    simp only [refS_eq, refB_eq] at ih ⊢
    simp only [List.filter_cons, gcA, ih]
    rfl
def gcM (s : List (Nat × PV)) (b : List (Nat × List PV)) : List (Nat × Mp) → List (Nat × Mp)
  | [] => []
  | (k, v) :: r => if (refS (isId k) nul s || refB (isId k) nul b) = true then (k, v) :: gcM s b r else gcM s b r
@[push_cast] theorem gcM_nil (s : List (Nat × PV)) (b : List (Nat × List PV)) : gcM s b [] = [] := rfl
@[push_cast] theorem gcM_cons (s : List (Nat × PV)) (b : List (Nat × List PV)) (k : Nat) (v : Mp) (r : List (Nat × Mp)) : gcM s b ((k, v) :: r) = if (refS (isId k) nul s || refB (isId k) nul b) = true then (k, v) :: gcM s b r else gcM s b r := rfl
theorem gcM_eq (s : List (Nat × PV)) (b0 : List (Nat × List PV)) (b : List (Nat × Mp)) : b.filter (fun x => s.any (fun y => y.2.toV (fun j => j == x.1) nul) || b0.any (fun y => y.2.any (PV.to (fun j => j == x.1) nul))) = gcM s b0 b := by
  induction b with
  | nil => rfl
  | cons x r ih =>
    obtain ⟨k, v⟩ := x
    simp only [refS_eq, refB_eq] at ih ⊢
    simp only [List.filter_cons, gcM, ih]
    rfl
@[push_cast] theorem gc_mk (s : List (Nat × PV)) (b : List (Nat × List PV)) (a : List (Nat × Arr)) (m : List (Nat × Mp)) (ks : List Nat) : St.gc ⟨s, b, a, m⟩ ks = ⟨keepL ks s, gcB (keepL ks s) (gcB (keepL ks s) (gcB (keepL ks s) [] b) b) b, gcA (keepL ks s) (gcB (keepL ks s) (gcB (keepL ks s) (gcB (keepL ks s) [] b) b) b) a, gcM (keepL ks s) (gcB (keepL ks s) (gcB (keepL ks s) (gcB (keepL ks s) [] b) b) b) m⟩ := by
  simp only [St.gc, keepL_eq, gcB_eq, gcA_eq, gcM_eq]
def killL (pb pa : Nat → Bool) : List PV → List PV
  | [] => []
  | c :: r => (bif c.to pb pa then c.killed pb else c) :: killL pb pa r
def killS (pb pa : Nat → Bool) : List (Nat × PV) → List (Nat × PV)
  | [] => []
  | (k, v) :: r => (k, bif v.toV pb pa then v.killV pb pa else v) :: killS pb pa r
def killB (pb pa : Nat → Bool) : List (Nat × List PV) → List (Nat × List PV)
  | [] => []
  | (k, v) :: r => (k, bif anyT pb pa v then killL pb pa v else v) :: killB pb pa r
section
variable (pb pa : Nat → Bool)
@[push_cast] theorem killL_nil : killL pb pa [] = [] := rfl
@[push_cast] theorem killL_cons (c : PV) (r : List PV) : killL pb pa (c :: r) = (bif c.to pb pa then c.killed pb else c) :: killL pb pa r := rfl
@[push_cast] theorem killS_nil : killS pb pa [] = [] := rfl
@[push_cast] theorem killS_cons (k : Nat) (v : PV) (r : List (Nat × PV)) : killS pb pa ((k, v) :: r) = (k, bif v.toV pb pa then v.killV pb pa else v) :: killS pb pa r := rfl
@[push_cast] theorem killB_nil : killB pb pa [] = [] := rfl
@[push_cast] theorem killB_cons (k : Nat) (v : List PV) (r : List (Nat × List PV)) : killB pb pa ((k, v) :: r) = (k, bif anyT pb pa v then killL pb pa v else v) :: killB pb pa r := rfl
theorem killL_eq (cs : List PV) : cs.map (PV.kill pb pa) = killL pb pa cs := by induction cs <;> simp_all [killL, PV.kill]
theorem kill_same {c : PV} (h : c.to pb pa = false) : c.kill pb pa = c := by simp [PV.kill, h]
theorem killL_same {cs : List PV} (h : anyT pb pa cs = false) : killL pb pa cs = cs := by
  induction cs with
  | nil => rfl
  | cons c r ih => simp only [anyT, Bool.or_eq_false_iff] at h; simp [killL, h.1, ih h.2]
theorem killA_same {c : PV} (h : c.toA pb pa = false) : c.killA pb pa = c := by
  cases c with
  | agg cs => simp only [toA_agg] at h; simp only [PV.killA, killL_eq, killL_same pb pa h]
  | _ => simp only [PV.killA]; exact kill_same pb pa (by simpa only [PV.toA] using h)
theorem killV_same {c : PV} (h : c.toV pb pa = false) : c.killV pb pa = c := by
  cases c with
  | tup cs =>
    simp only [toV_tup] at h
    simp only [PV.killV]
    congr 1
    induction cs with
    | nil => rfl
    | cons c r ih => simp only [anyA, Bool.or_eq_false_iff] at h; simp [killA_same pb pa h.1, ih h.2]
  | _ => simp only [PV.killV]; exact killA_same pb pa (by simpa only [PV.toV] using h)
@[push_cast] theorem killV_view (i lo n : Nat) : PV.killV pb pa (.view i lo n) = bif pa i then .bot else .view i lo n := rfl
@[push_cast] theorem killV_eptr (i lo n : Nat) : PV.killV pb pa (.eptr i lo n) = bif pa i then .bot else .eptr i lo n := rfl
@[push_cast] theorem killV_ptr (i n : Nat) : PV.killV pb pa (.ptr i n) = bif pb i then .bot else .ptr i n := rfl
def filN (pb : Nat → Bool) : List Nat → List Nat
  | [] => []
  | i :: r => if pb i = true then filN pb r else i :: filN pb r
theorem filN_eq (l : List Nat) : (l.filter fun i => !pb i) = filN pb l := by
  induction l with
  | nil => rfl
  | cons i r ih => simp only [List.filter_cons, filN, ih]; cases pb i <;> rfl
@[push_cast] theorem filN_nil : filN pb [] = [] := rfl
@[push_cast] theorem filN_cons (i : Nat) (r : List Nat) : filN pb (i :: r) = if pb i = true then filN pb r else i :: filN pb r := rfl
@[push_cast] theorem killed_view (i lo n : Nat) : PV.killed pb (.view i lo n) = .bot := rfl
@[push_cast] theorem killed_eptr (i lo n : Nat) : PV.killed pb (.eptr i lo n) = .bot := rfl
@[push_cast] theorem killed_ptr (i n : Nat) : PV.killed pb (.ptr i n) = .bot := rfl
@[push_cast] theorem killed_yl (i : Nat) : PV.killed pb (.yl i) = .bot := rfl
@[push_cast] theorem killed_mp (i : Nat) : PV.killed pb (.mp i) = .bot := rfl
@[push_cast] theorem killed_clo (f : Nat) (ids : List Nat) : PV.killed pb (.clo f ids) = .cld (filN pb ids) := by simp only [PV.killed, filN_eq]
@[push_cast] theorem killed_cld (ids : List Nat) : PV.killed pb (.cld ids) = .cld (filN pb ids) := by simp only [PV.killed, filN_eq]
@[push_cast] theorem killed_itr (i j : Nat) : PV.killed pb (.itr i j) = .cld (filN pb [i, j]) := by simp only [PV.killed, filN_eq]
@[push_cast] theorem killV_clo (f : Nat) (ids : List Nat) : PV.killV pb pa (.clo f ids) = bif anyN pb ids then .cld (filN pb ids) else .clo f ids := by simp only [PV.killV, PV.killA, PV.kill, to_clo, killed_clo]
@[push_cast] theorem killV_cld (ids : List Nat) : PV.killV pb pa (.cld ids) = bif anyN pb ids then .cld (filN pb ids) else .cld ids := by simp only [PV.killV, PV.killA, PV.kill, to_cld, killed_cld]
@[push_cast] theorem killV_itr (i j : Nat) : PV.killV pb pa (.itr i j) = bif (pb i || pb j) then .cld (filN pb [i, j]) else .itr i j := by simp only [PV.killV, PV.killA, PV.kill, to_itr, killed_itr]
@[push_cast] theorem killV_yl (i : Nat) : PV.killV pb pa (.yl i) = bif pb i then .bot else .yl i := rfl
@[push_cast] theorem killV_mp (i : Nat) : PV.killV pb pa (.mp i) = bif pb i then .bot else .mp i := rfl
@[push_cast] theorem killV_agg (cs : List PV) : PV.killV pb pa (.agg cs) = .agg (killL pb pa cs) := by simp only [PV.killV, PV.killA, killL_eq]
theorem killS_eq (s : List (Nat × PV)) : (s.map fun x => (x.1, x.2.killV pb pa)) = killS pb pa s := by
  induction s with
  | nil => rfl
  | cons x r ih =>
    obtain ⟨k, v⟩ := x
    simp only [List.map_cons, killS, ih]
    congr 2
    cases h : v.toV pb pa
    · simp [killV_same pb pa h]
    · rfl
theorem killB_eq (s : List (Nat × List PV)) : (s.map fun x => (x.1, x.2.map (PV.kill pb pa))) = killB pb pa s := by
  induction s with
  | nil => rfl
  | cons x r ih =>
    obtain ⟨k, v⟩ := x
    simp only [killL_eq] at ih
    simp only [List.map_cons, killB, killL_eq, ih]
    congr 2
    cases h : anyT pb pa v
    · simp [killL_same pb pa h]
    · rfl
end
def mpO (pb : Nat → Bool) : Option Mp → Bool
  | some ⟨_, _, some (i, _, _)⟩ => pb i
  | _ => false
@[push_cast] theorem mpO_none (pb : Nat → Bool) : mpO pb none = false := rfl
@[push_cast] theorem mpO_no (pb : Nat → Bool) (kd : KD) (es : List (Value × PV)) : mpO pb (some ⟨kd, es, none⟩) = false := rfl
@[push_cast] theorem mpO_it (pb : Nat → Bool) (kd : KD) (es : List (Value × PV)) (i : Nat) (l : List (Value × PV)) (c : Option (Value × PV)) : mpO pb (some ⟨kd, es, some (i, l, c)⟩) = pb i := rfl
theorem mpTo_eq (m : List (Nat × Mp)) (pb : Nat → Bool) (i : Nat) : mpTo m pb i = mpO pb (lk m i) := by
  unfold mpTo
  cases lk m i with
  | none => rfl
  | some M => obtain ⟨kd, es, it⟩ := M; cases it <;> rfl
def killM (pb : Nat → Bool) (m0 : List (Nat × Mp)) : List (Nat × Mp) → List (Nat × Mp)
  | [] => []
  | (k, v) :: r => if (pb k || mpO pb (lk m0 k)) = true then killM pb m0 r else (k, v) :: killM pb m0 r
@[push_cast] theorem killM_n (pb : Nat → Bool) (m0 : List (Nat × Mp)) : killM pb m0 [] = [] := rfl
@[push_cast] theorem killM_cons (pb : Nat → Bool) (m0 : List (Nat × Mp)) (k : Nat) (v : Mp) (r : List (Nat × Mp)) : killM pb m0 ((k, v) :: r) = if (pb k || mpO pb (lk m0 k)) = true then killM pb m0 r else (k, v) :: killM pb m0 r := rfl
theorem killM_eq (pb : Nat → Bool) (m0 m : List (Nat × Mp)) : (m.filter fun x => !pb x.1 && !mpTo m0 pb x.1) = killM pb m0 m := by
  induction m with
  | nil => rfl
  | cons x r ih =>
    obtain ⟨k, v⟩ := x
    rw [List.filter_cons, killM, ih, mpTo_eq]
    cases pb k <;> cases mpO pb (lk m0 k) <;> rfl
theorem killM_nul (m : List (Nat × Mp)) : (m.filter fun x => !nul x.1 && !mpTo m nul x.1) = m := List.filter_eq_self.2 fun x _ => by simp [mpTo_nul, nul]
@[push_cast] theorem newMap_mk (s : List (Nat × PV)) (b : List (Nat × List PV)) (a : List (Nat × Arr)) (m : List (Nat × Mp)) (i : Nat) (M : Mp) :
    St.newMap ⟨s, b, a, m⟩ i M = ⟨up (killS (isId i) nul s) i (.mp i), rm (killB (isId i) nul b) i, a, up (killM (isId i) m m) i M⟩ := by
  simp only [St.newMap, St.kill, killS_eq, killB_eq]; rw [show (fun x : Nat × Mp => !(fun j => j == i) x.1 && !mpTo m (fun j => j == i) x.1) = fun x => !isId i x.1 && !mpTo m (isId i) x.1 from rfl, killM_eq]; rfl
@[push_cast] theorem newBox_mk (s : List (Nat × PV)) (b : List (Nat × List PV)) (a : List (Nat × Arr)) (m : List (Nat × Mp)) (i : Nat) (cs : List PV) :
    St.newBox ⟨s, b, a, m⟩ i cs = ⟨up (killS (isId i) nul s) i (.ptr i 0), up (killB (isId i) nul b) i cs, a, killM (isId i) m m⟩ := by
  simp only [St.newBox, St.kill, killS_eq, killB_eq]; rw [show (fun x : Nat × Mp => !(fun j => j == i) x.1 && !mpTo m (fun j => j == i) x.1) = fun x => !isId i x.1 && !mpTo m (isId i) x.1 from rfl, killM_eq]; rfl
@[push_cast] theorem newArr_mk (s : List (Nat × PV)) (b : List (Nat × List PV)) (a : List (Nat × Arr)) (m : List (Nat × Mp)) (i : Nat) (A : Arr) :
    St.newArr ⟨s, b, a, m⟩ i A = ⟨up (killS nul (isId i) s) i (.view i 0 A.xs.length), killB nul (isId i) b, up a i A, m⟩ := by
  simp only [St.newArr, St.kill, killS_eq, killB_eq, killM_nul]; rfl
@[push_cast] theorem viewIds_nil : viewIds [] = [] := rfl
@[push_cast] theorem viewIds_view (i lo n : Nat) (r : List PV) : viewIds (.view i lo n :: r) = i :: viewIds r := rfl
@[push_cast] theorem viewIds_eptr (i lo n : Nat) (r : List PV) : viewIds (.eptr i lo n :: r) = i :: viewIds r := rfl
@[push_cast] theorem viewIds_ptr (i n : Nat) (r : List PV) : viewIds (.ptr i n :: r) = viewIds r := rfl
@[push_cast] theorem viewIds_sc (v : Value) (r : List PV) : viewIds (.sc v :: r) = viewIds r := rfl
@[push_cast] theorem viewIds_nil' (r : List PV) : viewIds (.nil :: r) = viewIds r := rfl
@[push_cast] theorem viewIds_bot (r : List PV) : viewIds (.bot :: r) = viewIds r := rfl
@[push_cast] theorem viewIds_sl (p : Bool) (es : Nat) (xs : List (List PV)) (r : List PV) : viewIds (.sl p es xs :: r) = viewIds r := rfl
@[push_cast] theorem viewIds_iptr (p : Bool) (cs : List PV) (o : Nat) (r : List PV) : viewIds (.iptr p cs o :: r) = viewIds r := rfl
@[push_cast] theorem viewIds_clo (f : Nat) (ids : List Nat) (r : List PV) : viewIds (.clo f ids :: r) = viewIds r := rfl
@[push_cast] theorem viewIds_mp (i : Nat) (r : List PV) : viewIds (.mp i :: r) = viewIds r := rfl
@[push_cast] theorem viewIds_agg (cs r : List PV) : viewIds (.agg cs :: r) = viewIds r := rfl
@[push_cast] theorem viewIds_tup (cs r : List PV) : viewIds (.tup cs :: r) = viewIds r := rfl
def frzIds (st : St) : List Nat → St
  | [] => st
  | i :: r => frzIds (st.frz i) r
@[push_cast] theorem frzs_eq (st : St) (cs : List PV) : st.frzs cs = frzIds st (viewIds cs) := by
  unfold St.frzs
  generalize viewIds cs = l
  induction l generalizing st with
  | nil => rfl
  | cons i l ih => exact ih _
@[push_cast] theorem frzIds_nil (st : St) : frzIds st [] = st := rfl
@[push_cast] theorem frzIds_cons (st : St) (i : Nat) (r : List Nat) : frzIds st (i :: r) = frzIds (st.frz i) r := rfl
def fzL (id : Nat) (A : Arr) : List PV → List PV
  | [] => []
  | c :: r => c.fz id A :: fzL id A r
def fzS (id : Nat) (A : Arr) : List (Nat × PV) → List (Nat × PV)
  | [] => []
  | (k, v) :: r => (k, bif v.toV nul (isId id) then v.fzV id A else v) :: fzS id A r
def fzB (id : Nat) (A : Arr) : List (Nat × List PV) → List (Nat × List PV)
  | [] => []
  | (k, v) :: r => (k, bif anyT nul (isId id) v then fzL id A v else v) :: fzB id A r
section
variable (id : Nat) (A : Arr)
@[push_cast] theorem fzL_nil : fzL id A [] = [] := rfl
@[push_cast] theorem fzL_cons (c : PV) (r : List PV) : fzL id A (c :: r) = c.fz id A :: fzL id A r := rfl
@[push_cast] theorem fzS_nil : fzS id A [] = [] := rfl
@[push_cast] theorem fzS_cons (k : Nat) (v : PV) (r : List (Nat × PV)) : fzS id A ((k, v) :: r) = (k, bif v.toV nul (isId id) then v.fzV id A else v) :: fzS id A r := rfl
@[push_cast] theorem fzB_nil : fzB id A [] = [] := rfl
@[push_cast] theorem fzB_cons (k : Nat) (v : List PV) (r : List (Nat × List PV)) : fzB id A ((k, v) :: r) = (k, bif anyT nul (isId id) v then fzL id A v else v) :: fzB id A r := rfl
@[push_cast] theorem fz_view (i lo n : Nat) : PV.fz id A (.view i lo n) = if i = id then .sl true A.es ((A.xs.drop lo).take n) else .view i lo n := rfl
@[push_cast] theorem fz_eptr (i j o : Nat) : PV.fz id A (.eptr i j o) = if i = id then .iptr true (A.xs.getD j []) o else .eptr i j o := rfl
@[push_cast] theorem fz_ptr (i n : Nat) : PV.fz id A (.ptr i n) = .ptr i n := rfl
@[push_cast] theorem fz_sc (v : Value) : PV.fz id A (.sc v) = .sc v := rfl
@[push_cast] theorem fz_nil : PV.fz id A .nil = .nil := rfl
@[push_cast] theorem fz_bot : PV.fz id A .bot = .bot := rfl
@[push_cast] theorem fz_sl (p : Bool) (es : Nat) (xs : List (List PV)) : PV.fz id A (.sl p es xs) = .sl p es xs := rfl
@[push_cast] theorem fz_iptr (p : Bool) (cs : List PV) (o : Nat) : PV.fz id A (.iptr p cs o) = .iptr p cs o := rfl
@[push_cast] theorem fzV_view (i lo n : Nat) : PV.fzV id A (.view i lo n) = if i = id then .sl true A.es ((A.xs.drop lo).take n) else .view i lo n := rfl
@[push_cast] theorem fzV_eptr (i j o : Nat) : PV.fzV id A (.eptr i j o) = if i = id then .iptr true (A.xs.getD j []) o else .eptr i j o := rfl
theorem fzL_eq (cs : List PV) : cs.map (PV.fz id A) = fzL id A cs := by induction cs <;> simp_all [fzL]
@[push_cast] theorem fzV_agg (cs : List PV) : PV.fzV id A (.agg cs) = .agg (fzL id A cs) := by simp only [PV.fzV, PV.fzA, fzL_eq]
theorem fz_same {c : PV} (h : c.to nul (isId id) = false) : c.fz id A = c := by
  cases c <;> first | rfl | simp_all [PV.fz, PV.to, isId]
theorem fzL_same {cs : List PV} (h : anyT nul (isId id) cs = false) : fzL id A cs = cs := by
  induction cs with
  | nil => rfl
  | cons c r ih => simp only [anyT, Bool.or_eq_false_iff] at h; simp [fzL, fz_same id A h.1, ih h.2]
theorem fzA_same {c : PV} (h : c.toA nul (isId id) = false) : c.fzA id A = c := by
  cases c with
  | agg cs => simp only [toA_agg] at h; simp only [PV.fzA, fzL_eq, fzL_same id A h]
  | _ => simp only [PV.fzA]; exact fz_same id A (by simpa only [PV.toA] using h)
theorem fzV_same {c : PV} (h : c.toV nul (isId id) = false) : c.fzV id A = c := by
  cases c with
  | tup cs =>
    simp only [toV_tup] at h
    simp only [PV.fzV]
    congr 1
    induction cs with
    | nil => rfl
    | cons c r ih => simp only [anyA, Bool.or_eq_false_iff] at h; simp [fzA_same id A h.1, ih h.2]
  | _ => simp only [PV.fzV]; exact fzA_same id A (by simpa only [PV.toV] using h)
theorem fzS_eq (s : List (Nat × PV)) : (s.map fun x => (x.1, x.2.fzV id A)) = fzS id A s := by
  induction s with
  | nil => rfl
  | cons x r ih =>
    obtain ⟨k, v⟩ := x
    simp only [List.map_cons, fzS, ih]
    congr 2
    cases h : v.toV nul (isId id)
    · simp [fzV_same id A h]
    · rfl
theorem fzB_eq (s : List (Nat × List PV)) : (s.map fun x => (x.1, x.2.map (PV.fz id A))) = fzB id A s := by
  induction s with
  | nil => rfl
  | cons x r ih =>
    obtain ⟨k, v⟩ := x
    simp only [fzL_eq] at ih
    simp only [List.map_cons, fzB, fzL_eq, ih]
    congr 2
    cases h : anyT nul (isId id) v
    · simp [fzL_same id A h]
    · rfl
end
def frzO (s : List (Nat × PV)) (b : List (Nat × List PV)) (a : List (Nat × Arr)) (m : List (Nat × Mp)) (i : Nat) : Option Arr → St
  | some A => ⟨fzS i A s, fzB i A b, rm a i, m⟩
  | none => ⟨s, b, a, m⟩
@[push_cast] theorem frzO_some (s : List (Nat × PV)) (b : List (Nat × List PV)) (a : List (Nat × Arr)) (m : List (Nat × Mp)) (i : Nat) (A : Arr) : frzO s b a m i (some A) = ⟨fzS i A s, fzB i A b, rm a i, m⟩ := rfl
@[push_cast] theorem frzO_none (s : List (Nat × PV)) (b : List (Nat × List PV)) (a : List (Nat × Arr)) (m : List (Nat × Mp)) (i : Nat) : frzO s b a m i none = ⟨s, b, a, m⟩ := rfl
@[push_cast] theorem frz_mk (s : List (Nat × PV)) (b : List (Nat × List PV)) (a : List (Nat × Arr)) (m : List (Nat × Mp)) (i : Nat) : St.frz ⟨s, b, a, m⟩ i = frzO s b a m i (lk a i) := by
  unfold St.frz
  cases h : lk a i with
  | none => rfl
  | some A => simp only [fzS_eq, fzB_eq]; rfl
end Go.Vc
namespace Go.Vc
open Go Go.RowKit
attribute [push_cast] true_and and_true and_self Bool.false_or Bool.or_false Bool.true_or Bool.or_true cond_true cond_false Bool.false_eq_true Option.getD_some Option.getD_none List.length_cons List.length_nil List.append_nil List.nil_append List.cons_append
def rows {α : Type} (f : α → List PV) (l : List α) : List (List PV) := l.map f
def intC (x : Int) : List PV := [.sc (.int .i64 x)]
def byteC (x : Int) : List PV := [.sc (.int .u8 x)]
def u64C (x : Int) : List PV := [.sc (.int .u64 x)]
def boolC (x : Bool) : List PV := [.sc (.bool x)]
abbrev ints (l : List Int) : List (List PV) := rows intC l
abbrev bytes8 (l : List Int) : List (List PV) := rows byteC l
@[push_cast] theorem intC_eq (x : Int) : intC x = [.sc (.int .i64 x)] := _root_.id rfl
@[push_cast] theorem byteC_eq (x : Int) : byteC x = [.sc (.int .u8 x)] := _root_.id rfl
@[push_cast] theorem u64C_eq (x : Int) : u64C x = [.sc (.int .u64 x)] := _root_.id rfl
@[push_cast] theorem boolC_eq (x : Bool) : boolC x = [.sc (.bool x)] := _root_.id rfl
section
variable {α : Type} (f : α → List PV) (l m : List α)
@[push_cast] theorem rows_length : (rows f l).length = l.length := by simp [rows]
@[push_cast] theorem rows_append : rows f l ++ rows f m = rows f (l ++ m) := by simp [rows]
@[push_cast] theorem rows_take (n : Nat) : (rows f l).take n = rows f (l.take n) := by simp [rows]
@[push_cast] theorem rows_drop (n : Nat) : (rows f l).drop n = rows f (l.drop n) := by simp [rows]
theorem rows_getD [Inhabited α] {i : Nat} (h : i < l.length) : (rows f l).getD i [] = f (l.getD i default) := by
  simp [rows, List.getD_eq_getElem?_getD, h]
@[push_cast] theorem rows_set_spl [Inhabited α] (i off : Nat) (cs : List PV) : (rows f l).set i (spl ((rows f l).getD i []) off cs) = (rows f l).set i (spl (f (l.getD i default)) off cs) := by
  by_cases h : i < l.length
  · rw [rows_getD f l h]
  · rw [List.set_eq_of_length_le (by simp [rows]; omega), List.set_eq_of_length_le (by simp [rows]; omega)]
end
@[push_cast] theorem ints_snoc (l : List Int) (x : Int) : rows intC l ++ [[.sc (.int .i64 x)]] = rows intC (l ++ [x]) := by simp [rows, intC]
@[push_cast] theorem bytes_snoc (l : List Int) (x : Int) : rows byteC l ++ [[.sc (.int .u8 x)]] = rows byteC (l ++ [x]) := by simp [rows, byteC]
@[push_cast] theorem u64s_snoc (l : List Int) (x : Int) : rows u64C l ++ [[.sc (.int .u64 x)]] = rows u64C (l ++ [x]) := by simp [rows, u64C]
@[push_cast] theorem bools_snoc (l : List Bool) (x : Bool) : rows boolC l ++ [[.sc (.bool x)]] = rows boolC (l ++ [x]) := by simp [rows, boolC]
@[push_cast] theorem ints_set (l : List Int) (i : Nat) (x : Int) : (rows intC l).set i [.sc (.int .i64 x)] = rows intC (l.set i x) := by simp [rows, intC, List.map_set]
@[push_cast] theorem bools_set (l : List Bool) (i : Nat) (x : Bool) : (rows boolC l).set i [.sc (.bool x)] = rows boolC (l.set i x) := by simp [rows, boolC, List.map_set]
@[push_cast] theorem u64s_set (l : List Int) (i : Nat) (x : Int) : (rows u64C l).set i [.sc (.int .u64 x)] = rows u64C (l.set i x) := by simp [rows, u64C, List.map_set]
@[push_cast] theorem ints_rep (n : Nat) (x : Int) : List.replicate n [.sc (.int .i64 x)] = rows intC (List.replicate n x) := by simp [rows, intC]
@[push_cast] theorem bools_rep (n : Nat) (x : Bool) : List.replicate n [.sc (.bool x)] = rows boolC (List.replicate n x) := by simp [rows, boolC]
@[push_cast] theorem u64s_rep (n : Nat) (x : Int) : List.replicate n [.sc (.int .u64 x)] = rows u64C (List.replicate n x) := by simp [rows, u64C]
@[simp] theorem perm_ints (l : List Int) (P : Prop) : (∀ x ∈ rows intC l, ∀ c ∈ x, Perm c) ↔ True := by simp [rows, intC]
@[simp] theorem perm_rows {α : Type} (f : α → List PV) (l : List α) : (∀ x ∈ rows f l, ∀ c ∈ x, Perm c) ↔ ∀ x ∈ l, ∀ c ∈ f x, Perm c := by simp [rows]
def nthL : List PV → Nat → PV
  | [], _ => .bot
  | c :: r, i => if i = 0 then c else nthL r (i - 1)
def dropL : Nat → List PV → List PV
  | _, [] => []
  | n, c :: r => if n = 0 then c :: r else dropL (n - 1) r
def takeL : Nat → List PV → List PV
  | _, [] => []
  | n, c :: r => if n = 0 then [] else c :: takeL (n - 1) r
theorem nthL_eq (cs : List PV) (i : Nat) : cs.getD i .bot = nthL cs i := by
  induction cs generalizing i with
  | nil => simp [nthL]
  | cons c r ih => cases i <;> simp [nthL, ← ih]
theorem dropL_eq (n : Nat) (cs : List PV) : cs.drop n = dropL n cs := by
  induction cs generalizing n with
  | nil => simp [dropL]
  | cons c r ih => cases n <;> simp [dropL, ← ih]
theorem takeL_eq (n : Nat) (cs : List PV) : cs.take n = takeL n cs := by
  induction cs generalizing n with
  | nil => simp [takeL]
  | cons c r ih => cases n <;> simp [takeL, ← ih]
@[push_cast] theorem nthL_nil (i : Nat) : nthL [] i = .bot := _root_.id rfl
@[push_cast] theorem nthL_cons (c : PV) (r : List PV) (i : Nat) : nthL (c :: r) i = if i = 0 then c else nthL r (i - 1) := _root_.id rfl
@[push_cast] theorem dropL_nil (n : Nat) : dropL n [] = [] := _root_.id rfl
@[push_cast] theorem dropL_cons (n : Nat) (c : PV) (r : List PV) : dropL n (c :: r) = if n = 0 then c :: r else dropL (n - 1) r := _root_.id rfl
@[push_cast] theorem takeL_nil (n : Nat) : takeL n [] = [] := _root_.id rfl
@[push_cast] theorem takeL_cons (n : Nat) (c : PV) (r : List PV) : takeL n (c :: r) = if n = 0 then [] else c :: takeL (n - 1) r := _root_.id rfl
@[push_cast] theorem ldc_one (sz off : Nat) (cs : List PV) : ldc false sz off cs = nthL cs off := nthL_eq cs off
@[push_cast] theorem ldc_agg (sz off : Nat) (cs : List PV) : ldc true sz off cs = .agg (takeL sz (dropL off cs)) := by simp only [ldc, cond_true, takeL_eq, dropL_eq]
@[push_cast] theorem spl_nil (cs : List PV) (i : Nat) : spl cs i [] = cs := by simp [spl]
@[push_cast] theorem spl_cons (x : PV) (xs : List PV) (i : Nat) (c : PV) (new : List PV) : spl (x :: xs) i (c :: new) = if i = 0 then c :: spl xs 0 new else x :: spl xs (i - 1) (c :: new) := by
  cases i with
  | zero => simp [spl]
  | succ i =>
    simp [spl]
    rw [show i + 1 + (new.length + 1) = (i + (new.length + 1)) + 1 from by omega, List.drop_succ_cons]
theorem setR_cons (x : List PV) (xs : List (List PV)) (i : Nat) (v : List PV) : (x :: xs).set i v = if i = 0 then v :: xs else x :: xs.set (i - 1) v := by cases i <;> simp
theorem takeR_cons (n : Nat) (c : List PV) (r : List (List PV)) : (c :: r).take n = if n = 0 then [] else c :: r.take (n - 1) := by cases n <;> simp
theorem dropR_cons (n : Nat) (c : List PV) (r : List (List PV)) : (c :: r).drop n = if n = 0 then c :: r else r.drop (n - 1) := by cases n <;> simp
attribute [push_cast] setR_cons takeR_cons dropR_cons List.take_nil List.drop_nil
@[push_cast] theorem rep0 (z : List PV) : List.replicate 0 z = [] := _root_.id rfl
@[push_cast] theorem rep1 (z : List PV) : List.replicate 1 z = [z] := _root_.id rfl
@[push_cast] theorem rep2 (z : List PV) : List.replicate 2 z = [z, z] := _root_.id rfl
@[push_cast] theorem rep3 (z : List PV) : List.replicate 3 z = [z, z, z] := _root_.id rfl
@[push_cast] theorem rep4 (z : List PV) : List.replicate 4 z = [z, z, z, z] := _root_.id rfl
@[push_cast] theorem rep5 (z : List PV) : List.replicate 5 z = [z, z, z, z, z] := _root_.id rfl
@[push_cast] theorem rep6 (z : List PV) : List.replicate 6 z = [z, z, z, z, z, z] := _root_.id rfl
@[push_cast] theorem cellsOf_agg (cs : List PV) : cellsOf (.agg cs) = cs := _root_.id rfl
@[push_cast] theorem cellsOf_sc (v : Value) : cellsOf (.sc v) = [.sc v] := _root_.id rfl
@[push_cast] theorem cellsOf_nil : cellsOf .nil = [.nil] := _root_.id rfl
@[push_cast] theorem cellsOf_sl (p : Bool) (es : Nat) (xs : List (List PV)) : cellsOf (.sl p es xs) = [.sl p es xs] := _root_.id rfl
@[push_cast] theorem cellsOf_view (i lo n : Nat) : cellsOf (.view i lo n) = [.view i lo n] := _root_.id rfl
@[push_cast] theorem cellsOf_ptr (i n : Nat) : cellsOf (.ptr i n) = [.ptr i n] := _root_.id rfl
@[push_cast] theorem cellsOk_agg (cs : List PV) : cellsOk (.agg cs) = true := _root_.id rfl
@[push_cast] theorem cellsOk_sc (v : Value) : cellsOk (.sc v) = true := _root_.id rfl
@[push_cast] theorem cellsOk_nil : cellsOk .nil = true := _root_.id rfl
@[push_cast] theorem cellsOk_sl (p : Bool) (es : Nat) (xs : List (List PV)) : cellsOk (.sl p es xs) = true := _root_.id rfl
@[push_cast] theorem cellsOk_view (i lo n : Nat) : cellsOk (.view i lo n) = true := _root_.id rfl
@[push_cast] theorem cellsOk_ptr (i n : Nat) : cellsOk (.ptr i n) = true := _root_.id rfl
def pureL : List PV → Bool
  | [] => true
  | c :: r => pureC c && pureL r
theorem pureL_eq (cs : List PV) : cs.all pureC = pureL cs := by induction cs <;> simp_all [pureL]
@[push_cast] theorem pureL_nil : pureL [] = true := _root_.id rfl
@[push_cast] theorem pureL_cons (c : PV) (r : List PV) : pureL (c :: r) = (pureC c && pureL r) := _root_.id rfl
@[push_cast] theorem pureC_sc (v : Value) : pureC (.sc v) = true := _root_.id rfl
@[push_cast] theorem pureC_nil : pureC .nil = true := _root_.id rfl
@[push_cast] theorem pureC_sl (p : Bool) (es : Nat) (xs : List (List PV)) : pureC (.sl p es xs) = true := _root_.id rfl
@[push_cast] theorem pureC_iptr (p : Bool) (cs : List PV) (o : Nat) : pureC (.iptr p cs o) = true := _root_.id rfl
attribute [push_cast] Bool.true_and Bool.and_true Bool.false_and Bool.and_false
@[push_cast] theorem ikLo_i64 : ikLo .i64 = -9223372036854775808 := _root_.id rfl
@[push_cast] theorem ikLo_u8 : ikLo .u8 = 0 := _root_.id rfl
@[push_cast] theorem ikLo_u64 : ikLo .u64 = 0 := _root_.id rfl
@[push_cast] theorem ikLo_i32 : ikLo .i32 = -2147483648 := _root_.id rfl
@[push_cast] theorem ikHi_i64 : ikHi .i64 = 9223372036854775807 := _root_.id rfl
@[push_cast] theorem ikHi_u8 : ikHi .u8 = 255 := _root_.id rfl
@[push_cast] theorem ikHi_u64 : ikHi .u64 = 18446744073709551615 := _root_.id rfl
@[push_cast] theorem ikHi_i32 : ikHi .i32 = 2147483647 := _root_.id rfl
@[push_cast] theorem ariF_add (a b : Int) : ariF .add a b = a + b := _root_.id rfl
@[push_cast] theorem ariF_sub (a b : Int) : ariF .sub a b = a - b := _root_.id rfl
@[push_cast] theorem ariF_mul (a b : Int) : ariF .mul a b = a * b := _root_.id rfl
@[push_cast] theorem dvdN_quo (a b : Int) : dvdN .quo a b = a / b := _root_.id rfl
@[push_cast] theorem dvdN_rem (a b : Int) : dvdN .rem a b = a % b := _root_.id rfl
@[push_cast] theorem dvdW_quo (k : IntKind) (a b : Int) : dvdW .quo k a b = k.wrap (a.tdiv b) := _root_.id rfl
@[push_cast] theorem dvdW_rem (k : IntKind) (a b : Int) : dvdW .rem k a b = a.tmod b := _root_.id rfl
@[push_cast] theorem cmpF_eql (a b : Int) : cmpF .eql a b = decide (a = b) := by
  show (a == b) = _
  by_cases h : a = b <;> simp [h]
@[push_cast] theorem cmpF_neq (a b : Int) : cmpF .neq a b = decide (a ≠ b) := by
  show (a != b) = _
  by_cases h : a = b <;> simp [h]
@[push_cast] theorem cmpF_lss (a b : Int) : cmpF .lss a b = decide (a < b) := _root_.id rfl
@[push_cast] theorem cmpF_leq (a b : Int) : cmpF .leq a b = decide (a ≤ b) := _root_.id rfl
@[push_cast] theorem cmpF_gtr (a b : Int) : cmpF .gtr a b = decide (b < a) := _root_.id rfl
@[push_cast] theorem cmpF_geq (a b : Int) : cmpF .geq a b = decide (b ≤ a) := _root_.id rfl
@[push_cast] theorem vc2_mk (k l : IntKind) (a b : Int) (f : IntKind → Int → IntKind → Int → Prop × PV) : vc2 (.sc (.int k a)) (.sc (.int l b)) f = f k a l b := _root_.id rfl
@[push_cast] theorem vc1_mk (k : IntKind) (a : Int) (f : IntKind → Int → Prop × PV) : vc1 (.sc (.int k a)) f = f k a := _root_.id rfl
section
variable (P : Env)
def qS (d : Option Nat) (x : Prop × PV) (r : List AO) (st : St) (K : St → Prop) : Prop := x.1 ∧ opsK P r (st.put d x.2) K
@[push_cast] theorem qS_mk (d : Option Nat) (p : Prop) (v : PV) (r : List AO) (st : St) (K : St → Prop) : qS P d (p, v) r st K = (p ∧ opsK P r (st.put d v) K) := _root_.id rfl
@[congr] theorem qS_congr {d : Option Nat} {x x' : Prop × PV} {r : List AO} {st st' : St} {K : St → Prop} (h1 : x = x') (h2 : st = st') : qS P d x r st K = qS P d x' r st' K := by rw [h1, h2]
@[congr] theorem opsK_congr {l : List AO} {st st' : St} {K : St → Prop} (h : st = st') : opsK P l st K = opsK P l st' K := by rw [h]
@[congr] theorem awp_congr {c : AC} {st st' : St} {Q : Exit → St → Prop} (h : st = st') : awp P c Q st = awp P c Q st' := by rw [h]
@[congr] theorem condK_congr {v v' : PV} {x y : Prop} (h : v = v') : condK v x y = condK v' x y := by rw [h]
def ariG (op : BinOp) (nw : Bool) (k : IntKind) (k1 : IntKind) (a : Int) (k2 : IntKind) (b : Int) : Prop × PV :=
  bif nw then ((k1 = k ∧ k2 = k) ∧ ikLo k ≤ ariF op a b ∧ ariF op a b ≤ ikHi k, .sc (.int k (ariF op a b))) else (k1 = k ∧ k2 = k, .sc (.int k (k.wrap (ariF op a b))))
@[push_cast] theorem ariG_t (op : BinOp) (k k1 k2 : IntKind) (a b : Int) : ariG op true k k1 a k2 b = ((k1 = k ∧ k2 = k) ∧ ikLo k ≤ ariF op a b ∧ ariF op a b ≤ ikHi k, .sc (.int k (ariF op a b))) := _root_.id rfl
@[push_cast] theorem ariG_f (op : BinOp) (k k1 k2 : IntKind) (a b : Int) : ariG op false k k1 a k2 b = (k1 = k ∧ k2 = k, .sc (.int k (k.wrap (ariF op a b)))) := _root_.id rfl
def dvdG (op : BinOp) (nn : Bool) (k : IntKind) (k1 : IntKind) (a : Int) (k2 : IntKind) (b : Int) : Prop × PV :=
  bif nn then ((k1 = k ∧ k2 = k) ∧ 0 ≤ a ∧ a ≤ ikHi k ∧ 0 < b, .sc (.int k (dvdN op a b))) else ((k1 = k ∧ k2 = k) ∧ b ≠ 0, .sc (.int k (dvdW op k a b)))
@[push_cast] theorem dvdG_t (op : BinOp) (k k1 k2 : IntKind) (a b : Int) : dvdG op true k k1 a k2 b = ((k1 = k ∧ k2 = k) ∧ 0 ≤ a ∧ a ≤ ikHi k ∧ 0 < b, .sc (.int k (dvdN op a b))) := _root_.id rfl
@[push_cast] theorem dvdG_f (op : BinOp) (k k1 k2 : IntKind) (a b : Int) : dvdG op false k k1 a k2 b = ((k1 = k ∧ k2 = k) ∧ b ≠ 0, .sc (.int k (dvdW op k a b))) := _root_.id rfl
def bitG (op : BinOp) (k : IntKind) (k1 : IntKind) (a : Int) (k2 : IntKind) (b : Int) : Prop × PV := (k1 = k ∧ k2 = k, .sc (.int k (bitF op k a b)))
@[push_cast] theorem bitG_eq (op : BinOp) (k k1 k2 : IntKind) (a b : Int) : bitG op k k1 a k2 b = (k1 = k ∧ k2 = k, .sc (.int k (bitF op k a b))) := _root_.id rfl
def shfG (op : BinOp) (k : IntKind) (k1 : IntKind) (a : Int) (_ : IntKind) (b : Int) : Prop × PV := (k1 = k ∧ 0 ≤ b, .sc (.int k (shfF op k a b)))
@[push_cast] theorem shfG_eq (op : BinOp) (k k1 k2 : IntKind) (a b : Int) : shfG op k k1 a k2 b = (k1 = k ∧ 0 ≤ b, .sc (.int k (shfF op k a b))) := _root_.id rfl
def cmpG (op : BinOp) (k : IntKind) (k1 : IntKind) (a : Int) (k2 : IntKind) (b : Int) : Prop × PV := (k1 = k ∧ k2 = k, .sc (.bool (cmpF op a b)))
@[push_cast] theorem cmpG_eq (op : BinOp) (k k1 k2 : IntKind) (a b : Int) : cmpG op k k1 a k2 b = (k1 = k ∧ k2 = k, .sc (.bool (cmpF op a b))) := _root_.id rfl
def mnG (mx : Bool) (k1 : IntKind) (a : Int) (k2 : IntKind) (b : Int) : Prop × PV := (k1 = k2, .sc (.int k1 (bif mx then max a b else min a b)))
@[push_cast] theorem mnG_eq (mx : Bool) (k1 k2 : IntKind) (a b : Int) : mnG mx k1 a k2 b = (k1 = k2, .sc (.int k1 (bif mx then max a b else min a b))) := _root_.id rfl
def negG (k k1 : IntKind) (a : Int) : Prop × PV := (k1 = k, .sc (.int k (k.wrap (0 - a))))
@[push_cast] theorem negG_eq (k k1 : IntKind) (a : Int) : negG k k1 a = (k1 = k, .sc (.int k (k.wrap (0 - a)))) := _root_.id rfl
def cnvG (nw : Bool) (k : IntKind) (_ : IntKind) (a : Int) : Prop × PV := bif nw then (ikLo k ≤ a ∧ a ≤ ikHi k, .sc (.int k a)) else (True, .sc (.int k (k.wrap a)))
@[push_cast] theorem cnvG_t (k k1 : IntKind) (a : Int) : cnvG true k k1 a = (ikLo k ≤ a ∧ a ≤ ikHi k, .sc (.int k a)) := _root_.id rfl
@[push_cast] theorem cnvG_f (k k1 : IntKind) (a : Int) : cnvG false k k1 a = (True, .sc (.int k (k.wrap a))) := _root_.id rfl
def eqbV (ng : Bool) : PV → PV → Prop × PV
  | .sc (.bool a), .sc (.bool b) => (True, .sc (.bool (bif ng then a != b else a == b)))
  | _, _ => (False, .bot)
@[push_cast] theorem eqbV_mk (ng a b : Bool) : eqbV ng (.sc (.bool a)) (.sc (.bool b)) = (True, .sc (.bool (bif ng then a != b else a == b))) := _root_.id rfl
def eqaV (ng : Bool) (n : Nat) : PV → PV → Prop × PV
  | .agg cs, .agg ds => match eqCells cs ds with | some r => (cs.length = n ∧ ds.length = n, .sc (.bool (bif ng then !r else r))) | none => (False, .bot)
  | _, _ => (False, .bot)
def eqaO (ng : Bool) (n : Nat) (cs ds : List PV) : Option Bool → Prop × PV
  | some r => (cs.length = n ∧ ds.length = n, .sc (.bool (bif ng then !r else r)))
  | none => (False, .bot)
@[push_cast] theorem eqaO_some (ng : Bool) (n : Nat) (cs ds : List PV) (r : Bool) : eqaO ng n cs ds (some r) = (cs.length = n ∧ ds.length = n, .sc (.bool (bif ng then !r else r))) := _root_.id rfl
@[push_cast] theorem eqaV_mk (ng : Bool) (n : Nat) (cs ds : List PV) : eqaV ng n (.agg cs) (.agg ds) = eqaO ng n cs ds (eqCells cs ds) := by
  show (match eqCells cs ds with | some r => _ | none => _) = _
  cases eqCells cs ds <;> rfl
@[push_cast] theorem eqCells_nil : eqCells [] [] = some true := _root_.id rfl
@[push_cast] theorem eqCells_cons (k l : IntKind) (a b : Int) (r s : List PV) : eqCells (.sc (.int k a) :: r) (.sc (.int l b) :: s) = if k = l then (eqCells r s).map (decide (a = b) && ·) else none := by
  have : (a == b) = decide (a = b) := by by_cases h : a = b <;> simp [h]
  simp only [eqCells, this]
attribute [push_cast] Option.map_some Option.map_none
def notV : PV → Prop × PV
  | .sc (.bool b) => (True, .sc (.bool (!b)))
  | _ => (False, .bot)
@[push_cast] theorem notV_mk (b : Bool) : notV (.sc (.bool b)) = (True, .sc (.bool (!b))) := _root_.id rfl
def lenV : PV → Prop × PV
  | .view _ _ n => (True, .int n)
  | .sl _ _ xs => (True, .int xs.length)
  | .nil => (True, .int 0)
  | _ => (False, .bot)
@[push_cast] theorem lenV_view (i lo n : Nat) : lenV (.view i lo n) = (True, .sc (.int .i64 n)) := _root_.id rfl
@[push_cast] theorem lenV_sl (p : Bool) (es : Nat) (xs : List (List PV)) : lenV (.sl p es xs) = (True, .sc (.int .i64 xs.length)) := _root_.id rfl
@[push_cast] theorem lenV_nil : lenV .nil = (True, .sc (.int .i64 0)) := _root_.id rfl
def faV (off : Nat) : PV → Prop × PV
  | .ptr id o => (True, .ptr id (o + off))
  | .eptr id i o => (True, .eptr id i (o + off))
  | .iptr p cs o => (True, .iptr p cs (o + off))
  | _ => (False, .bot)
@[push_cast] theorem faV_ptr (off id o : Nat) : faV off (.ptr id o) = (True, .ptr id (o + off)) := _root_.id rfl
@[push_cast] theorem faV_eptr (off id i o : Nat) : faV off (.eptr id i o) = (True, .eptr id i (o + off)) := _root_.id rfl
@[push_cast] theorem faV_iptr (off : Nat) (p : Bool) (cs : List PV) (o : Nat) : faV off (.iptr p cs o) = (True, .iptr p cs (o + off)) := _root_.id rfl
def flV (agg : Bool) (off sz : Nat) : PV → Prop × PV
  | .agg cs => (off + sz ≤ cs.length, ldc agg sz off cs)
  | _ => (False, .bot)
@[push_cast] theorem flV_agg (agg : Bool) (off sz : Nat) (cs : List PV) : flV agg off sz (.agg cs) = (off + sz ≤ cs.length, ldc agg sz off cs) := _root_.id rfl
def ixsA (es id lo n : Nat) (j : Int) : Option Arr → Prop × PV
  | some A => (A.es = es ∧ 0 ≤ j ∧ j < n, .eptr id (lo + j.toNat) 0)
  | none => (False, .bot)
def ixsV (st : St) (es : Nat) : PV → PV → Prop × PV
  | .view id lo n, .sc (.int _ j) => ixsA es id lo n j (lk st.a id)
  | .sl p es' xs, .sc (.int _ j) => (es' = es ∧ 0 ≤ j ∧ j < xs.length, .iptr p (xs.getD j.toNat []) 0)
  | _, _ => (False, .bot)
@[push_cast] theorem ixsA_some (es id lo n : Nat) (j : Int) (e t : Nat) (xs : List (List PV)) : ixsA es id lo n j (some ⟨e, t, xs⟩) = (e = es ∧ 0 ≤ j ∧ j < n, .eptr id (lo + j.toNat) 0) := _root_.id rfl
@[push_cast] theorem ixsV_view (s : List (Nat × PV)) (b : List (Nat × List PV)) (a : List (Nat × Arr)) (m : List (Nat × Mp)) (es id lo n : Nat) (k : IntKind) (j : Int) : ixsV ⟨s, b, a, m⟩ es (.view id lo n) (.sc (.int k j)) = ixsA es id lo n j (lk a id) := _root_.id rfl
@[push_cast] theorem ixsV_sl (st : St) (es : Nat) (p : Bool) (es' : Nat) (xs : List (List PV)) (k : IntKind) (j : Int) : ixsV st es (.sl p es' xs) (.sc (.int k j)) = (es' = es ∧ 0 ≤ j ∧ j < xs.length, .iptr p (xs.getD j.toNat []) 0) := _root_.id rfl
def ixaV (n es : Nat) : PV → PV → Prop × PV
  | .ptr id o, .sc (.int _ j) => (0 ≤ j ∧ j < n, .ptr id (o + j.toNat * es))
  | .eptr id k o, .sc (.int _ j) => (0 ≤ j ∧ j < n, .eptr id k (o + j.toNat * es))
  | .iptr p cs o, .sc (.int _ j) => (0 ≤ j ∧ j < n, .iptr p cs (o + j.toNat * es))
  | _, _ => (False, .bot)
@[push_cast] theorem ixaV_ptr (n es id o : Nat) (k : IntKind) (j : Int) : ixaV n es (.ptr id o) (.sc (.int k j)) = (0 ≤ j ∧ j < n, .ptr id (o + j.toNat * es)) := _root_.id rfl
@[push_cast] theorem ixaV_eptr (n es id i o : Nat) (k : IntKind) (j : Int) : ixaV n es (.eptr id i o) (.sc (.int k j)) = (0 ≤ j ∧ j < n, .eptr id i (o + j.toNat * es)) := _root_.id rfl
@[push_cast] theorem ixaV_iptr (n es : Nat) (p : Bool) (cs : List PV) (o : Nat) (k : IntKind) (j : Int) : ixaV n es (.iptr p cs o) (.sc (.int k j)) = (0 ≤ j ∧ j < n, .iptr p cs (o + j.toNat * es)) := _root_.id rfl
def ixvV (agg : Bool) (n es : Nat) : PV → PV → Prop × PV
  | .agg cs, .sc (.int _ j) => (0 ≤ j ∧ j < n ∧ j.toNat * es + es ≤ cs.length, ldc agg es (j.toNat * es) cs)
  | _, _ => (False, .bot)
@[push_cast] theorem ixvV_agg (agg : Bool) (n es : Nat) (cs : List PV) (k : IntKind) (j : Int) : ixvV agg n es (.agg cs) (.sc (.int k j)) = (0 ≤ j ∧ j < n ∧ j.toNat * es + es ≤ cs.length, ldc agg es (j.toNat * es) cs) := _root_.id rfl
def extV (i : Nat) : PV → Prop × PV
  | .tup cs => (i < cs.length, cs.getD i .bot)
  | _ => (False, .bot)
@[push_cast] theorem extV_tup (i : Nat) (cs : List PV) : extV i (.tup cs) = (i < cs.length, nthL cs i) := by simp only [extV, nthL_eq]
def nckV : PV → Prop × PV
  | .ptr id o => (True, .ptr id o)
  | .eptr id i o => (True, .eptr id i o)
  | .iptr p cs o => (True, .iptr p cs o)
  | _ => (False, .bot)
@[push_cast] theorem nckV_ptr (id o : Nat) : nckV (.ptr id o) = (True, .ptr id o) := _root_.id rfl
@[push_cast] theorem nckV_eptr (id i o : Nat) : nckV (.eptr id i o) = (True, .eptr id i o) := _root_.id rfl
@[push_cast] theorem nckV_iptr (p : Bool) (cs : List PV) (o : Nat) : nckV (.iptr p cs o) = (True, .iptr p cs o) := _root_.id rfl
def pickV (c x y : PV) : Prop × PV := match c with | .sc (.bool true) => (True, x) | .sc (.bool false) => (True, y) | _ => (False, .bot)
@[push_cast] theorem pickV_t (x y : PV) : pickV (.sc (.bool true)) x y = (True, x) := _root_.id rfl
@[push_cast] theorem pickV_f (x y : PV) : pickV (.sc (.bool false)) x y = (True, y) := _root_.id rfl
def andQ {α : Type} (p : Prop) (q : Prop × α) : Prop × α := (p ∧ q.1, q.2)
@[push_cast] theorem andQ_mk {α : Type} (p a : Prop) (b : α) : andQ p (a, b) = (p ∧ a, b) := _root_.id rfl
@[push_cast] theorem bldF_nil (st : St) (cs : List PV) : bldF st [] cs = (True, cs) := _root_.id rfl
@[push_cast] theorem bldF_cons (st : St) (off sz : Nat) (x : Opd) (r : List (Nat × Nat × Opd)) (cs : List PV) :
    bldF st ((off, sz, x) :: r) cs = andQ (cellsOk (x.ev st) = true ∧ (cellsOf (x.ev st)).length = sz ∧ off + sz ≤ cs.length) (bldF st r (spl cs off (cellsOf (x.ev st)))) := by
  simp only [bldF, andQ, and_assoc]
def aggQ (q : Prop × List PV) : Prop × PV := (q.1, .agg q.2)
@[push_cast] theorem aggQ_mk (p : Prop) (cs : List PV) : aggQ (p, cs) = (p, .agg cs) := _root_.id rfl
def rowV (agg : Bool) (sz off : Nat) (cs : List PV) : Prop × PV := (off + sz ≤ cs.length, ldc agg sz off cs)
def rowE (agg : Bool) (sz i off : Nat) (A : Arr) : Prop × PV := (i < A.xs.length ∧ off + sz ≤ A.es, ldc agg sz off (A.xs.getD i []))
def ldB (agg : Bool) (sz off : Nat) : Option (List PV) → Prop × PV
  | some cs => rowV agg sz off cs
  | none => (False, .bot)
def ldE (agg : Bool) (sz i off : Nat) : Option Arr → Prop × PV
  | some A => rowE agg sz i off A
  | none => (False, .bot)
def ldV (st : St) (agg : Bool) (sz : Nat) : PV → Prop × PV
  | .ptr id off => ldB agg sz off (lk st.b id)
  | .eptr id i off => ldE agg sz i off (lk st.a id)
  | .iptr _ cs off => rowV agg sz off cs
  | _ => (False, .bot)
@[push_cast] theorem ldB_some (agg : Bool) (sz off : Nat) (cs : List PV) : ldB agg sz off (some cs) = rowV agg sz off cs := _root_.id rfl
@[push_cast] theorem ldE_some (agg : Bool) (sz i off : Nat) (A : Arr) : ldE agg sz i off (some A) = rowE agg sz i off A := _root_.id rfl
@[push_cast] theorem ldV_ptr (s : List (Nat × PV)) (b : List (Nat × List PV)) (a : List (Nat × Arr)) (m : List (Nat × Mp)) (agg : Bool) (sz id off : Nat) : ldV ⟨s, b, a, m⟩ agg sz (.ptr id off) = ldB agg sz off (lk b id) := _root_.id rfl
@[push_cast] theorem ldV_eptr (s : List (Nat × PV)) (b : List (Nat × List PV)) (a : List (Nat × Arr)) (m : List (Nat × Mp)) (agg : Bool) (sz id i off : Nat) : ldV ⟨s, b, a, m⟩ agg sz (.eptr id i off) = ldE agg sz i off (lk a id) := _root_.id rfl
@[push_cast] theorem ldV_iptr (st : St) (agg : Bool) (sz : Nat) (p : Bool) (cs : List PV) (off : Nat) : ldV st agg sz (.iptr p cs off) = rowV agg sz off cs := _root_.id rfl
@[push_cast] theorem rowV_cons (agg : Bool) (sz off : Nat) (c : PV) (cs : List PV) : rowV agg sz off (c :: cs) = (off + sz ≤ (c :: cs).length, ldc agg sz off (c :: cs)) := _root_.id rfl
@[push_cast] theorem rowE_cons (agg : Bool) (sz i off es ty : Nat) (x : List PV) (xs : List (List PV)) : rowE agg sz i off ⟨es, ty, x :: xs⟩ = (i < (x :: xs).length ∧ off + sz ≤ es, ldc agg sz off ((x :: xs).getD i [])) := _root_.id rfl
@[push_cast] theorem qS_row {α : Type} [Inhabited α] (d : Option Nat) (agg : Bool) (sz off i : Nat) (f : α → List PV) (l : List α) (r : List AO) (st : St) (K : St → Prop) (hs : 0 < sz) :
    qS P d (rowV agg sz off ((rows f l).getD i [])) r st K = (i < l.length ∧ qS P d (rowV agg sz off (f (l.getD i default))) r st K) := by
  by_cases h : i < l.length
  · rw [rows_getD f l h]; simp [h]
  · have : (rows f l).getD i [] = [] := by simp [rows, List.getD_eq_getElem?_getD, List.getElem?_eq_none (show l.length ≤ i by omega)]
    rw [this]
    simp only [qS, rowV, List.length_nil, h, false_and, eq_iff_iff, iff_false, not_and]
    intro h2; omega
@[push_cast] theorem qS_rowE {α : Type} [Inhabited α] (d : Option Nat) (agg : Bool) (sz off i es ty : Nat) (f : α → List PV) (l : List α) (r : List AO) (st : St) (K : St → Prop) :
    qS P d (rowE agg sz i off ⟨es, ty, rows f l⟩) r st K = ((i < l.length ∧ off + sz ≤ es) ∧ opsK P r (st.put d (ldc agg sz off (f (l.getD i default)))) K) := by
  by_cases h : i < l.length
  · simp only [qS, rowE, rows_getD f l h, rows_length]
  · simp [qS, rowE, h, rows_length]
def slcQ (es : Nat) (v : PV) (A : Option Arr) (q : Option (Int × Int)) : Prop × PV :=
  match v, A, q with
  | .view id l n, some A, some (p, q) => (A.es = es ∧ 0 ≤ p ∧ p ≤ q ∧ q ≤ n, .view id (l + p.toNat) (q.toNat - p.toNat))
  | .sl pm es' xs, _, some (p, q) => (es' = es ∧ 0 ≤ p ∧ p ≤ q ∧ q ≤ xs.length, .sl pm es ((xs.take q.toNat).drop p.toNat))
  | .nil, _, some (p, q) => (p = 0 ∧ q = 0, .nil)
  | _, _, _ => (False, .bot)
def slcA (st : St) : PV → Option Arr
  | .view id _ _ => lk st.a id
  | _ => none
def slcN : PV → Nat
  | .view _ _ n => n
  | .sl _ _ xs => xs.length
  | _ => 0
@[push_cast] theorem slcA_view (s : List (Nat × PV)) (b : List (Nat × List PV)) (a : List (Nat × Arr)) (m : List (Nat × Mp)) (id l n : Nat) : slcA ⟨s, b, a, m⟩ (.view id l n) = lk a id := _root_.id rfl
@[push_cast] theorem slcA_sl (st : St) (p : Bool) (es : Nat) (xs : List (List PV)) : slcA st (.sl p es xs) = none := _root_.id rfl
@[push_cast] theorem slcA_nil (st : St) : slcA st .nil = none := _root_.id rfl
@[push_cast] theorem slcN_view (id l n : Nat) : slcN (.view id l n) = n := _root_.id rfl
@[push_cast] theorem slcN_sl (p : Bool) (es : Nat) (xs : List (List PV)) : slcN (.sl p es xs) = xs.length := _root_.id rfl
@[push_cast] theorem slcN_nil : slcN .nil = 0 := _root_.id rfl
@[push_cast] theorem slcQ_view (es id l n e t : Nat) (xs : List (List PV)) (p q : Int) : slcQ es (.view id l n) (some ⟨e, t, xs⟩) (some (p, q)) = (e = es ∧ 0 ≤ p ∧ p ≤ q ∧ q ≤ n, .view id (l + p.toNat) (q.toNat - p.toNat)) := _root_.id rfl
@[push_cast] theorem slcQ_sl (es : Nat) (pm : Bool) (es' : Nat) (xs : List (List PV)) (p q : Int) : slcQ es (.sl pm es' xs) none (some (p, q)) = (es' = es ∧ 0 ≤ p ∧ p ≤ q ∧ q ≤ xs.length, .sl pm es ((xs.take q.toNat).drop p.toNat)) := _root_.id rfl
@[push_cast] theorem slcQ_nil (es : Nat) (p q : Int) : slcQ es .nil none (some (p, q)) = (p = 0 ∧ q = 0, .nil) := _root_.id rfl
def slcI (v : PV) : Option Int := match v with | .sc (.int _ a) => some a | _ => none
def slcP (a b : Option Int) : Option (Int × Int) := match a, b with | some a, some b => some (a, b) | _, _ => none
@[push_cast] theorem slcI_mk (k : IntKind) (a : Int) : slcI (.sc (.int k a)) = some a := _root_.id rfl
@[push_cast] theorem slcP_mk (a b : Int) : slcP (some a) (some b) = some (a, b) := _root_.id rfl
@[push_cast] theorem slcB_nn (st : St) (n : Nat) : slcB st n none none = some (0, (n : Int)) := _root_.id rfl
@[push_cast] theorem slcB_sn (st : St) (n : Nat) (x : Opd) : slcB st n (some x) none = slcP (slcI (x.ev st)) (some (n : Int)) := by
  simp only [slcB, slcI]; split <;> simp_all [slcP]
@[push_cast] theorem slcB_ns (st : St) (n : Nat) (x : Opd) : slcB st n none (some x) = slcP (some 0) (slcI (x.ev st)) := by
  simp only [slcB, slcI]; split <;> simp_all [slcP]
@[push_cast] theorem slcB_ss (st : St) (n : Nat) (x y : Opd) : slcB st n (some x) (some y) = slcP (slcI (x.ev st)) (slcI (y.ev st)) := by
  simp only [slcB, slcI]
  generalize x.ev st = u
  generalize y.ev st = v
  cases u with
  | sc u => cases v with
    | sc v => cases u <;> cases v <;> rfl
    | _ => cases u <;> rfl
  | _ => cases v <;> rfl
variable (d : Option Nat) (r : List AO) (st : St) (K : St → Prop)
@[push_cast] theorem o_nil : opsK P [] st K = K st := _root_.id rfl
@[push_cast] theorem o_mv (x : Opd) : opsK P (⟨d, none, .mv x⟩ :: r) st K = opsK P r (st.put d (x.ev st)) K := by
  simp only [opsK, grdK, opK, aev, isHeavy, Bool.false_eq_true, if_false, true_and]
@[push_cast] theorem o_ari (op : BinOp) (nw : Bool) (k : IntKind) (x y : Opd) : opsK P (⟨d, none, .ari op nw k x y⟩ :: r) st K = qS P d (vc2 (x.ev st) (y.ev st) (ariG op nw k)) r st K := _root_.id rfl
@[push_cast] theorem o_dvd (op : BinOp) (nw : Bool) (k : IntKind) (x y : Opd) : opsK P (⟨d, none, .dvd op nw k x y⟩ :: r) st K = qS P d (vc2 (x.ev st) (y.ev st) (dvdG op nw k)) r st K := _root_.id rfl
@[push_cast] theorem o_bit (op : BinOp) (k : IntKind) (x y : Opd) : opsK P (⟨d, none, .bit op k x y⟩ :: r) st K = qS P d (vc2 (x.ev st) (y.ev st) (bitG op k)) r st K := _root_.id rfl
@[push_cast] theorem o_shf (op : BinOp) (k : IntKind) (x y : Opd) : opsK P (⟨d, none, .shf op k x y⟩ :: r) st K = qS P d (vc2 (x.ev st) (y.ev st) (shfG op k)) r st K := _root_.id rfl
@[push_cast] theorem o_cmp (op : BinOp) (k : IntKind) (x y : Opd) : opsK P (⟨d, none, .cmp op k x y⟩ :: r) st K = qS P d (vc2 (x.ev st) (y.ev st) (cmpG op k)) r st K := _root_.id rfl
@[push_cast] theorem o_mn (mx : Bool) (x y : Opd) : opsK P (⟨d, none, .mn mx x y⟩ :: r) st K = qS P d (vc2 (x.ev st) (y.ev st) (mnG mx)) r st K := _root_.id rfl
@[push_cast] theorem o_neg (k : IntKind) (x : Opd) : opsK P (⟨d, none, .neg k x⟩ :: r) st K = qS P d (vc1 (x.ev st) (negG k)) r st K := _root_.id rfl
@[push_cast] theorem o_cnv (nw : Bool) (k : IntKind) (x : Opd) : opsK P (⟨d, none, .cnv nw k x⟩ :: r) st K = qS P d (vc1 (x.ev st) (cnvG nw k)) r st K := _root_.id rfl
@[push_cast] theorem o_eqb (ng : Bool) (x y : Opd) : opsK P (⟨d, none, .eqb ng x y⟩ :: r) st K = qS P d (eqbV ng (x.ev st) (y.ev st)) r st K := _root_.id rfl
@[push_cast] theorem o_eqa (ng : Bool) (n : Nat) (x y : Opd) : opsK P (⟨d, none, .eqa ng n x y⟩ :: r) st K = qS P d (eqaV ng n (x.ev st) (y.ev st)) r st K := _root_.id rfl
@[push_cast] theorem o_not (x : Opd) : opsK P (⟨d, none, .not x⟩ :: r) st K = qS P d (notV (x.ev st)) r st K := _root_.id rfl
@[push_cast] theorem o_len (x : Opd) : opsK P (⟨d, none, .len x⟩ :: r) st K = qS P d (lenV (x.ev st)) r st K := _root_.id rfl
@[push_cast] theorem o_lenA (n : Nat) (x : Opd) : opsK P (⟨d, none, .lenA n x⟩ :: r) st K = opsK P r (st.put d (.sc (.int .i64 n))) K := by
  simp only [opsK, grdK, opK, aev, isHeavy, Bool.false_eq_true, if_false, true_and]
@[push_cast] theorem o_fa (off : Nat) (x : Opd) : opsK P (⟨d, none, .fa off x⟩ :: r) st K = qS P d (faV off (x.ev st)) r st K := _root_.id rfl
@[push_cast] theorem o_fl (agg : Bool) (off sz : Nat) (x : Opd) : opsK P (⟨d, none, .fl agg off sz x⟩ :: r) st K = qS P d (flV agg off sz (x.ev st)) r st K := _root_.id rfl
@[push_cast] theorem o_ixs (es : Nat) (x i : Opd) : opsK P (⟨d, none, .ixs es x i⟩ :: r) st K = qS P d (ixsV st es (x.ev st) (i.ev st)) r st K := _root_.id rfl
@[push_cast] theorem o_ixa (n es : Nat) (x i : Opd) : opsK P (⟨d, none, .ixa n es x i⟩ :: r) st K = qS P d (ixaV n es (x.ev st) (i.ev st)) r st K := _root_.id rfl
@[push_cast] theorem o_ixv (agg : Bool) (n es : Nat) (x i : Opd) : opsK P (⟨d, none, .ixv agg n es x i⟩ :: r) st K = qS P d (ixvV agg n es (x.ev st) (i.ev st)) r st K := _root_.id rfl
@[push_cast] theorem o_ext (x : Opd) (i : Nat) : opsK P (⟨d, none, .ext x i⟩ :: r) st K = qS P d (extV i (x.ev st)) r st K := _root_.id rfl
@[push_cast] theorem o_nck (x : Opd) : opsK P (⟨d, none, .nck x⟩ :: r) st K = qS P d (nckV (x.ev st)) r st K := _root_.id rfl
@[push_cast] theorem o_pick (c x y : Opd) : opsK P (⟨d, none, .pick c x y⟩ :: r) st K = qS P d (pickV (c.ev st) (x.ev st) (y.ev st)) r st K := _root_.id rfl
@[push_cast] theorem o_bld (zero : List PV) (parts : List (Nat × Nat × Opd)) : opsK P (⟨d, none, .bld zero parts⟩ :: r) st K = qS P d (aggQ (bldF st parts zero)) r st K := _root_.id rfl
@[push_cast] theorem o_ld (agg : Bool) (sz : Nat) (x : Opd) : opsK P (⟨d, none, .ld agg sz x⟩ :: r) st K = qS P d (ldV st agg sz (x.ev st)) r st K := _root_.id rfl
@[push_cast] theorem o_slc (es : Nat) (x : Opd) (lo hi : Option Opd) : opsK P (⟨d, none, .slc es x lo hi⟩ :: r) st K = qS P d (slcQ es (x.ev st) (slcA st (x.ev st)) (slcB st (slcN (x.ev st)) lo hi)) r st K := by
  have : aev st (.slc es x lo hi) = slcQ es (x.ev st) (slcA st (x.ev st)) (slcB st (slcN (x.ev st)) lo hi) := by
    simp only [aev]
    cases hx : x.ev st with
    | view id l n =>
      simp only [slcA, slcN]
      cases lk st.a id <;> cases slcB st n lo hi <;> rfl
    | sl pm es' xs => simp only [slcA, slcN]; cases slcB st xs.length lo hi <;> rfl
    | nil => simp only [slcA, slcN]; cases slcB st 0 lo hi <;> rfl
    | _ => rfl
  simp only [opsK, grdK, opK, isHeavy, Bool.false_eq_true, if_false, this, qS]
end
end Go.Vc
namespace Go.Vc
open Go Go.RowKit
section
variable (P : Env)
def hS (x : Prop × St) (r : List AO) (K : St → Prop) : Prop := x.1 ∧ opsK P r x.2 K
@[push_cast] theorem hS_mk (p : Prop) (st : St) (r : List AO) (K : St → Prop) : hS P (p, st) r K = (p ∧ opsK P r st K) := _root_.id rfl
@[congr] theorem hS_congr {x x' : Prop × St} {r : List AO} {K : St → Prop} (h : x = x') : hS P x r K = hS P x' r K := by rw [h]
def boxH (st : St) (i : Nat) (v : PV) : Prop × St := (cellsOk v = true ∧ anyT (isId i) nul (cellsOf v) = false, st.newBox i (cellsOf v))
@[push_cast] theorem boxH_eq (st : St) (i : Nat) (v : PV) : boxH st i v = (cellsOk v = true ∧ anyT (isId i) nul (cellsOf v) = false, st.newBox i (cellsOf v)) := _root_.id rfl
def bslH (st1 : St) (i es ty : Nat) (zero : List PV) (n : Nat) (q : Prop × List (List PV)) : Prop × St := ((0 < es ∧ zero.length = es ∧ n * es ≤ 16777216) ∧ q.1, st1.newArr i ⟨es, ty, q.2⟩)
@[push_cast] theorem bslH_mk (st1 : St) (i es ty : Nat) (zero : List PV) (n : Nat) (p : Prop) (xs : List (List PV)) : bslH st1 i es ty zero n (p, xs) = ((0 < es ∧ zero.length = es ∧ n * es ≤ 16777216) ∧ p, st1.newArr i ⟨es, ty, xs⟩) := _root_.id rfl
@[push_cast] theorem frzParts_nil (st : St) : frzParts st [] = st := _root_.id rfl
@[push_cast] theorem frzParts_cons (st : St) (j : Nat) (x : Opd) (r : List (Nat × Opd)) : frzParts st ((j, x) :: r) = frzParts (st.frzs (cellsOf (x.ev st))) r := _root_.id rfl
@[push_cast] theorem bslF_nil (st : St) (es : Nat) (xs : List (List PV)) : bslF st es [] xs = (True, xs) := _root_.id rfl
@[push_cast] theorem bslF_cons (st : St) (es j : Nat) (x : Opd) (r : List (Nat × Opd)) (xs : List (List PV)) :
    bslF st es ((j, x) :: r) xs = andQ (cellsOk (x.ev st) = true ∧ pureL (cellsOf (x.ev st)) = true ∧ (cellsOf (x.ev st)).length = es ∧ j < xs.length) (bslF st es r (xs.set j (cellsOf (x.ev st)))) := by
  simp only [bslF, andQ, and_assoc, pureL_eq]
def mksH (st : St) (i es ty by_ : Nat) (zero : List PV) : PV → PV → Prop × St
  | .sc (.int _ n), .sc (.int _ m) => ((0 < es ∧ zero.length = es) ∧ 0 ≤ n ∧ n ≤ m ∧ m.toNat * by_ ≤ 140737488355328 ∧ m ≤ 9223372036854775807, st.newArr i ⟨es, ty, List.replicate n.toNat zero⟩)
  | _, _ => (False, st)
@[push_cast] theorem mksH_mk (st : St) (i es ty by_ : Nat) (zero : List PV) (k l : IntKind) (n m : Int) : mksH st i es ty by_ zero (.sc (.int k n)) (.sc (.int l m)) =
    ((0 < es ∧ zero.length = es) ∧ 0 ≤ n ∧ n ≤ m ∧ m.toNat * by_ ≤ 140737488355328 ∧ m ≤ 9223372036854775807, st.newArr i ⟨es, ty, List.replicate n.toNat zero⟩) := rfl
def stoB (s : List (Nat × PV)) (b : List (Nat × List PV)) (a : List (Nat × Arr)) (m : List (Nat × Mp)) (sz id off : Nat) (v : PV) : Option (List PV) → Prop × St
  | some cs => ((cellsOk v = true ∧ (cellsOf v).length = sz) ∧ off + sz ≤ cs.length, ⟨s, up b id (spl cs off (cellsOf v)), a, m⟩)
  | none => (False, ⟨s, b, a, m⟩)
@[push_cast] theorem stoB_some (s : List (Nat × PV)) (b : List (Nat × List PV)) (a : List (Nat × Arr)) (m : List (Nat × Mp)) (sz id off : Nat) (v : PV) (cs : List PV) :
    stoB s b a m sz id off v (some cs) = ((cellsOk v = true ∧ (cellsOf v).length = sz) ∧ off + sz ≤ cs.length, ⟨s, up b id (spl cs off (cellsOf v)), a, m⟩) := rfl
def stoE (st1 : St) (sz : Nat) (x v : PV) (id i off : Nat) : Option Arr → Prop × St
  | some A => (((cellsOk v = true ∧ pureL (cellsOf v) = true) ∧ (cellsOf v).length = sz ∧ x = .eptr id i off) ∧ off + sz ≤ A.es ∧ i < A.xs.length, { st1 with a := up st1.a id { A with xs := A.xs.set i (spl (A.xs.getD i []) off (cellsOf v)) } })
  | none => (False, st1)
@[push_cast] theorem stoE_some (s : List (Nat × PV)) (b : List (Nat × List PV)) (a : List (Nat × Arr)) (m : List (Nat × Mp)) (sz : Nat) (x v : PV) (id i off es ty : Nat) (xs : List (List PV)) :
    stoE ⟨s, b, a, m⟩ sz x v id i off (some ⟨es, ty, xs⟩) = (((cellsOk v = true ∧ pureL (cellsOf v) = true) ∧ (cellsOf v).length = sz ∧ x = .eptr id i off) ∧ off + sz ≤ es ∧ i < xs.length, ⟨s, b, up a id ⟨es, ty, xs.set i (spl (xs.getD i []) off (cellsOf v))⟩, m⟩) := rfl
def lkA (st : St) (id : Nat) : Option Arr := lk st.a id
@[push_cast] theorem lkA_mk (s : List (Nat × PV)) (b : List (Nat × List PV)) (a : List (Nat × Arr)) (m : List (Nat × Mp)) (id : Nat) : lkA ⟨s, b, a, m⟩ id = lk a id := _root_.id rfl
def stoH (st st1 : St) (sz : Nat) (x v : Opd) : PV → Prop × St
  | .ptr id off => stoB st.s st.b st.a st.m sz id off (v.ev st) (lk st.b id)
  | .eptr id i off => stoE st1 sz (x.ev st1) (v.ev st1) id i off (lkA st1 id)
  | _ => (False, st)
@[push_cast] theorem stoH_ptr (s : List (Nat × PV)) (b : List (Nat × List PV)) (a : List (Nat × Arr)) (m : List (Nat × Mp)) (st1 : St) (sz : Nat) (x v : Opd) (id off : Nat) : stoH ⟨s, b, a, m⟩ st1 sz x v (.ptr id off) = stoB s b a m sz id off (v.ev ⟨s, b, a, m⟩) (lk b id) := _root_.id rfl
@[push_cast] theorem stoH_eptr (st st1 : St) (sz : Nat) (x v : Opd) (id i off : Nat) : stoH st st1 sz x v (.eptr id i off) = stoE st1 sz (x.ev st1) (v.ev st1) id i off (lkA st1 id) := _root_.id rfl
def srcV (st : St) (es : Nat) : PV → Prop × List (List PV)
  | .nil => (True, [])
  | .sl _ es' ys => (es' = es, ys)
  | .view id lo n => srcA es lo n (lk st.a id)
  | _ => (False, [])
where
  srcA (es lo n : Nat) : Option Arr → Prop × List (List PV)
    | some A => (A.es = es, (A.xs.drop lo).take n)
    | none => (False, [])
theorem srcV_eq (st : St) (es : Nat) (v : PV) : srcOf st es v = srcV st es v := by
  cases v <;> simp only [srcOf, srcV]
  split <;> simp_all [srcV.srcA]
@[push_cast] theorem srcV_nil (st : St) (es : Nat) : srcV st es .nil = (True, []) := _root_.id rfl
@[push_cast] theorem srcV_sl (st : St) (es : Nat) (p : Bool) (es' : Nat) (ys : List (List PV)) : srcV st es (.sl p es' ys) = (es' = es, ys) := _root_.id rfl
@[push_cast] theorem srcV_view (s : List (Nat × PV)) (b : List (Nat × List PV)) (a : List (Nat × Arr)) (m : List (Nat × Mp)) (es id lo n : Nat) : srcV ⟨s, b, a, m⟩ es (.view id lo n) = srcV.srcA es lo n (lk a id) := _root_.id rfl
@[push_cast] theorem srcA_some (es lo n e t : Nat) (xs : List (List PV)) : srcV.srcA es lo n (some ⟨e, t, xs⟩) = (e = es, (xs.drop lo).take n) := _root_.id rfl
attribute [push_cast] List.drop_zero
def appA (st : St) (i es ty by_ id lo n : Nat) (q : Prop × List (List PV)) : Option Arr → Prop × St
  | some A => (((lo = 0 ∧ A.es = es ∧ A.ty = ty) ∧ q.1) ∧ n = A.xs.length ∧ (n + q.2.length) * by_ ≤ 140737488355328 ∧ n + q.2.length ≤ 9223372036854775807,
      { s := up (st.kill nul (fun j => j == id)).s i (.view id 0 (n + q.2.length)), b := (st.kill nul (fun j => j == id)).b, a := up st.a id { A with xs := A.xs ++ q.2 }, m := (st.kill nul (fun j => j == id)).m })
  | none => (False, st)
@[push_cast] theorem appA_some (s : List (Nat × PV)) (b : List (Nat × List PV)) (a : List (Nat × Arr)) (m : List (Nat × Mp)) (i es ty by_ id lo n : Nat) (p : Prop) (ys : List (List PV)) (e t : Nat) (xs : List (List PV)) :
    appA ⟨s, b, a, m⟩ i es ty by_ id lo n (p, ys) (some ⟨e, t, xs⟩) = (((lo = 0 ∧ e = es ∧ t = ty) ∧ p) ∧ n = xs.length ∧ (n + ys.length) * by_ ≤ 140737488355328 ∧ n + ys.length ≤ 9223372036854775807,
      ⟨up (killS nul (isId id) s) i (.view id 0 (n + ys.length)), killB nul (isId id) b, up a id ⟨e, t, xs ++ ys⟩, m⟩) := by
  simp only [appA, St.kill, killS_eq, killB_eq, killM_nul]; rfl
def appN (st : St) (i es ty by_ : Nat) (p : Prop) : List (List PV) → Prop × St
  | [] => (0 < es ∧ p, { st with s := up st.s i .nil })
  | y :: r => ((0 < es ∧ p) ∧ (r.length + 1) * by_ ≤ 140737488355328 ∧ r.length + 1 ≤ 9223372036854775807, st.newArr i ⟨es, ty, y :: r⟩)
@[push_cast] theorem appN_nil (s : List (Nat × PV)) (b : List (Nat × List PV)) (a : List (Nat × Arr)) (m : List (Nat × Mp)) (i es ty by_ : Nat) (p : Prop) : appN ⟨s, b, a, m⟩ i es ty by_ p [] = (0 < es ∧ p, ⟨up s i .nil, b, a, m⟩) := _root_.id rfl
@[push_cast] theorem appN_cons (st : St) (i es ty by_ : Nat) (p : Prop) (y : List PV) (r : List (List PV)) : appN st i es ty by_ p (y :: r) = ((0 < es ∧ p) ∧ (r.length + 1) * by_ ≤ 140737488355328 ∧ r.length + 1 ≤ 9223372036854775807, st.newArr i ⟨es, ty, y :: r⟩) := _root_.id rfl
def appH (st : St) (i es ty by_ : Nat) (q : Prop × List (List PV)) : PV → Prop × St
  | .nil => appN st i es ty by_ q.1 q.2
  | .view id lo n => appA st i es ty by_ id lo n q (lk st.a id)
  | _ => (False, st)
@[push_cast] theorem appH_nil (st : St) (i es ty by_ : Nat) (p : Prop) (ys : List (List PV)) : appH st i es ty by_ (p, ys) .nil = appN st i es ty by_ p ys := _root_.id rfl
@[push_cast] theorem appH_view (s : List (Nat × PV)) (b : List (Nat × List PV)) (a : List (Nat × Arr)) (m : List (Nat × Mp)) (i es ty by_ id lo n : Nat) (q : Prop × List (List PV)) : appH ⟨s, b, a, m⟩ i es ty by_ q (.view id lo n) = appA ⟨s, b, a, m⟩ i es ty by_ id lo n q (lk a id) := _root_.id rfl
def cpyA (st : St) (d : Option Nat) (es id lo n : Nat) (q : Prop × List (List PV)) : Option Arr → Prop × St
  | some A => ((0 < es ∧ A.es = es) ∧ q.1, ({ st with a := up st.a id { A with xs := cpyF A.xs lo (q.2.take n) } } : St).put d (.int (min q.2.length n : Nat)))
  | none => (False, st)
@[push_cast] theorem cpyA_some (s : List (Nat × PV)) (b : List (Nat × List PV)) (a : List (Nat × Arr)) (m : List (Nat × Mp)) (d : Option Nat) (es id lo n : Nat) (p : Prop) (ys : List (List PV)) (e t : Nat) (xs : List (List PV)) :
    cpyA ⟨s, b, a, m⟩ d es id lo n (p, ys) (some ⟨e, t, xs⟩) = ((0 < es ∧ e = es) ∧ p, (⟨s, b, up a id ⟨e, t, cpyF xs lo (ys.take n)⟩, m⟩ : St).put d (.int (min ys.length n : Nat))) := rfl
def cpyH (st : St) (d : Option Nat) (es : Nat) (q : Prop × List (List PV)) : PV → Prop × St
  | .view id lo n => cpyA st d es id lo n q (lk st.a id)
  | _ => (False, st)
@[push_cast] theorem cpyH_view (s : List (Nat × PV)) (b : List (Nat × List PV)) (a : List (Nat × Arr)) (m : List (Nat × Mp)) (d : Option Nat) (es id lo n : Nat) (q : Prop × List (List PV)) : cpyH ⟨s, b, a, m⟩ d es q (.view id lo n) = cpyA ⟨s, b, a, m⟩ d es id lo n q (lk a id) := _root_.id rfl
variable (i : Nat) (r : List AO) (st : St) (K : St → Prop)
@[push_cast] theorem o_cpy (d : Option Nat) (es : Nat) (x y : Opd) : opsK P (⟨d, none, .cpy es x y⟩ :: r) st K = hS P (cpyH st d es (srcV st es (y.ev st)) (x.ev st)) r K := by
  have : hev st d (.cpy es x y) = cpyH st d es (srcV st es (y.ev st)) (x.ev st) := by
    simp only [hev, srcV_eq]
    generalize x.ev st = u
    generalize srcV st es (y.ev st) = q
    cases u with
    | view id lo n => simp only [cpyH]; cases lk st.a id <;> rfl
    | _ => rfl
  simp only [opsK, grdK, opK, isHeavy, if_true, hS, this]
@[push_cast] theorem o_alc (zero : List PV) : opsK P (⟨some i, none, .alc zero⟩ :: r) st K = opsK P r (st.newBox i zero) K := by
  simp only [opsK, grdK, opK, hev, isHeavy, if_true, true_and]
@[push_cast] theorem o_box (x : Opd) : opsK P (⟨some i, none, .box x⟩ :: r) st K = hS P (boxH st i (x.ev st)) r K := by
  simp only [opsK, grdK, opK, hev, isHeavy, if_true, hS, boxH, anyT_eq]; rfl
@[push_cast] theorem o_bsl (es ty : Nat) (zero : List PV) (n : Nat) (parts : List (Nat × Opd)) : opsK P (⟨some i, none, .bsl es ty zero n parts⟩ :: r) st K = hS P (bslH (frzParts st parts) i es ty zero n (bslF (frzParts st parts) es parts (List.replicate n zero))) r K := _root_.id rfl
@[push_cast] theorem o_mks (es ty by_ : Nat) (zero : List PV) (l c : Opd) : opsK P (⟨some i, none, .mks es ty by_ zero l c⟩ :: r) st K = hS P (mksH st i es ty by_ zero (l.ev st) (c.ev st)) r K := by
  have : hev st (some i) (.mks es ty by_ zero l c) = mksH st i es ty by_ zero (l.ev st) (c.ev st) := by
    simp only [hev]
    generalize l.ev st = u
    generalize c.ev st = v
    cases u with
    | sc u => cases v with
      | sc v => cases u <;> cases v <;> rfl
      | _ => cases u <;> rfl
    | _ => cases v <;> rfl
  simp only [opsK, grdK, opK, isHeavy, if_true, hS, this]
@[push_cast] theorem o_sto (sz : Nat) (x v : Opd) : opsK P (⟨none, none, .sto sz x v⟩ :: r) st K = hS P (stoH st (st.frzs (cellsOf (v.ev st))) sz x v (x.ev st)) r K := by
  have : hev st none (.sto sz x v) = stoH st (st.frzs (cellsOf (v.ev st))) sz x v (x.ev st) := by
    simp only [hev]
    generalize x.ev st = u
    cases u with
    | ptr id off => simp only [stoH]; cases lk st.b id <;> rfl
    | eptr id j off =>
      simp only [stoH, lkA]
      cases lk (st.frzs (cellsOf (v.ev st))).a id with
      | none => rfl
      | some A => simp only [stoE, pureL_eq]
    | _ => rfl
  simp only [opsK, grdK, opK, isHeavy, if_true, hS, this]
@[push_cast] theorem o_app (es ty by_ : Nat) (s x : Opd) : opsK P (⟨some i, none, .app es ty by_ s x⟩ :: r) st K = hS P (appH st i es ty by_ (srcV st es (x.ev st)) (s.ev st)) r K := by
  have : hev st (some i) (.app es ty by_ s x) = appH st i es ty by_ (srcV st es (x.ev st)) (s.ev st) := by
    simp only [hev, srcV_eq]
    generalize s.ev st = u
    generalize srcV st es (x.ev st) = q
    cases u with
    | nil => obtain ⟨p, ys⟩ := q; cases ys <;> rfl
    | view id lo n => simp only [appH]; cases lk st.a id <;> rfl
    | _ => rfl
  simp only [opsK, grdK, opK, isHeavy, if_true, hS, this]
end
section
variable (P : Env) (Q : Exit → St → Prop) (st : St)
@[push_cast] theorem a_skip : awp P .skip Q st = Q .normal st := _root_.id rfl
@[push_cast] theorem a_reg (keep : List Nat) (ops : List AO) : awp P (.reg keep ops) Q st = opsK P ops (st.keepS keep) (Q .normal) := _root_.id rfl
@[push_cast] theorem a_seq (x y : AC) : awp P (.seq x y) Q st = awp P x (Exit.thn (awp P y Q) Q) st := _root_.id rfl
@[push_cast] theorem a_cond (c : Opd) (x y : AC) : awp P (.cond c x y) Q st = condK (c.ev st) (awp P x Q st) (awp P y Q st) := _root_.id rfl
@[push_cast] theorem a_block (id : Nat) (b : AC) : awp P (.block id b) Q st = awp P b (Exit.inB id Q) st := _root_.id rfl
@[push_cast] theorem a_ret : awp P .ret Q st = Q .ret st := _root_.id rfl
@[push_cast] theorem a_exit (id : Nat) : awp P (.exit id) Q st = Q (.exit id) st := _root_.id rfl
variable (n : St → Prop)
@[push_cast] theorem thn_normal : Exit.thn n Q .normal st = n st := _root_.id rfl
@[push_cast] theorem thn_ret : Exit.thn n Q .ret st = Q .ret st := _root_.id rfl
@[push_cast] theorem thn_exit (id : Nat) : Exit.thn n Q (.exit id) st = Q (.exit id) st := _root_.id rfl
@[push_cast] theorem inB_normal (id : Nat) : Exit.inB id Q .normal st = Q .normal st := _root_.id rfl
@[push_cast] theorem inB_ret (id : Nat) : Exit.inB id Q .ret st = Q .ret st := _root_.id rfl
@[push_cast] theorem inB_exit (id id' : Nat) : Exit.inB id Q (.exit id') st = if id' = id then Q .normal st else Q (.exit id') st := _root_.id rfl
@[push_cast] theorem condK_t (x y : Prop) : condK (.sc (.bool true)) x y = x := by simp [condK]
@[push_cast] theorem condK_f (x y : Prop) : condK (.sc (.bool false)) x y = y := by simp [condK]
end
theorem cond_of {b : Bool} {x y : Prop} (h1 : b = true → x) (h2 : b = false → y) : condK (.sc (.bool b)) x y := ⟨h1, h2⟩
theorem cond_dec {p : Prop} [Decidable p] {x y : Prop} (h1 : p → x) (h2 : ¬ p → y) : condK (.sc (.bool (decide p))) x y := ⟨fun h => h1 (of_decide_eq_true h), fun h => h2 (of_decide_eq_false h)⟩
def rp : List (Nat × PV) → Nat → PV → List (Nat × PV)
  | [], _, _ => []
  | (k, u) :: r, i, v => if k = i then (k, v) :: r else (k, u) :: rp r i v
@[push_cast] theorem rp_nil (i : Nat) (v : PV) : rp [] i v = [] := _root_.id rfl
@[push_cast] theorem rp_cons (k i : Nat) (u v : PV) (r : List (Nat × PV)) : rp ((k, u) :: r) i v = if k = i then (k, v) :: r else (k, u) :: rp r i v := _root_.id rfl
theorem rp_same (sl : List (Nat × PV)) (s : Nat) (c : PV) (hc : getL sl s = c) : rp sl s c = sl := by
  induction sl with
  | nil => rfl
  | cons x t ih =>
    obtain ⟨k, v⟩ := x
    simp only [getL] at hc
    simp only [rp]
    split
    · rename_i e; rw [if_pos e] at hc; rw [hc]
    · rename_i e; rw [if_neg e] at hc; rw [ih hc]
theorem grd_of {P : Env} {d : Option Nat} {s : Nat} {want : Bool} {op : AOp} {r : List AO} {sl : List (Nat × PV)} {bx : List (Nat × List PV)} {ar : List (Nat × Arr)} {mm : List (Nat × Mp)} {K : St → Prop} (b : Bool) (h : getL sl s = .sc (.bool b))
    (h1 : b = want → opsK P (⟨d, none, op⟩ :: r) ⟨rp sl s (.sc (.bool want)), bx, ar, mm⟩ K) (h2 : b = !want → opsK P r ((⟨rp sl s (.sc (.bool !want)), bx, ar, mm⟩ : St).put d (.tup [])) K) :
    opsK P (⟨d, some (s, want), op⟩ :: r) ⟨sl, bx, ar, mm⟩ K := by
  have hup := fun c (hc : getL sl s = c) => rp_same sl s c hc
  have hg : (⟨sl, bx, ar, mm⟩ : St).get s = .sc (.bool b) := by rw [get_mk]; exact h
  unfold opsK grdK
  simp only [hg]
  refine ⟨fun e => ?_, fun e => ?_⟩
  · have := h1 e
    subst e
    rw [hup _ h] at this
    exact this
  · have e' : b = !want := by cases b <;> cases want <;> simp_all
    have := h2 e'
    rw [← e', hup _ h] at this
    exact this
section
variable {P : Env} {d : Option Nat} {s : Nat} {op : AOp} {r : List AO} {sl : List (Nat × PV)} {bx : List (Nat × List PV)} {ar : List (Nat × Arr)} {mm : List (Nat × Mp)} {K : St → Prop}
@[push_cast] theorem grd_tt (h : getL sl s = .sc (.bool true)) : opsK P (⟨d, some (s, true), op⟩ :: r) ⟨sl, bx, ar, mm⟩ K = opsK P (⟨d, none, op⟩ :: r) ⟨sl, bx, ar, mm⟩ K := by
  have hg : (⟨sl, bx, ar, mm⟩ : St).get s = .sc (.bool true) := by rw [get_mk]; exact h
  rw [opsK, opsK]; simp [grdK, hg]; rfl
@[push_cast] theorem grd_ff (h : getL sl s = .sc (.bool false)) : opsK P (⟨d, some (s, false), op⟩ :: r) ⟨sl, bx, ar, mm⟩ K = opsK P (⟨d, none, op⟩ :: r) ⟨sl, bx, ar, mm⟩ K := by
  have hg : (⟨sl, bx, ar, mm⟩ : St).get s = .sc (.bool false) := by rw [get_mk]; exact h
  rw [opsK, opsK]; simp [grdK, hg]; rfl
@[push_cast] theorem grd_tf (h : getL sl s = .sc (.bool false)) : opsK P (⟨d, some (s, true), op⟩ :: r) ⟨sl, bx, ar, mm⟩ K = opsK P r ((⟨sl, bx, ar, mm⟩ : St).put d (.tup [])) K := by
  have hg : (⟨sl, bx, ar, mm⟩ : St).get s = .sc (.bool false) := by rw [get_mk]; exact h
  rw [opsK]; simp [grdK, hg]
@[push_cast] theorem grd_ft (h : getL sl s = .sc (.bool true)) : opsK P (⟨d, some (s, false), op⟩ :: r) ⟨sl, bx, ar, mm⟩ K = opsK P r ((⟨sl, bx, ar, mm⟩ : St).put d (.tup [])) K := by
  have hg : (⟨sl, bx, ar, mm⟩ : St).get s = .sc (.bool true) := by rw [get_mk]; exact h
  rw [opsK]; simp [grdK, hg]
end
section
variable {P : Env} {d : Option Nat} {s : Nat} {w : Bool} {op : AOp} {r : List AO} {sl : List (Nat × PV)} {bx : List (Nat × List PV)} {ar : List (Nat × Arr)} {mm : List (Nat × Mp)} {K : St → Prop}
@[push_cast] theorem grd_u (h : getL sl s = .tup []) : opsK P (⟨d, some (s, w), op⟩ :: r) ⟨sl, bx, ar, mm⟩ K = opsK P r ((⟨sl, bx, ar, mm⟩ : St).put d (.tup [])) K := by
  have hg : (⟨sl, bx, ar, mm⟩ : St).get s = .tup [] := by rw [get_mk]; exact h
  rw [opsK]; simp [grdK, hg]
end
def rsL (st : St) : List PV → List PV
  | [] => []
  | c :: r => c.rs1 st :: rsL st r
def rs0L (st : St) : List PV → List PV
  | [] => []
  | c :: r => c.rs0 st :: rs0L st r
section
variable (st : St)
theorem rsL_eq (cs : List PV) : cs.map (PV.rs1 st) = rsL st cs := by induction cs <;> simp_all [rsL]
theorem rs0L_eq (cs : List PV) : cs.map (PV.rs0 st) = rs0L st cs := by induction cs <;> simp_all [rs0L]
@[push_cast] theorem rsL_nil : rsL st [] = [] := _root_.id rfl
@[push_cast] theorem rsL_cons (c : PV) (r : List PV) : rsL st (c :: r) = c.rs1 st :: rsL st r := _root_.id rfl
@[push_cast] theorem rs0L_nil : rs0L st [] = [] := _root_.id rfl
@[push_cast] theorem rs0L_cons (c : PV) (r : List PV) : rs0L st (c :: r) = c.rs0 st :: rs0L st r := _root_.id rfl
def rsV (es0 : Unit) (lo n : Nat) : Option Arr → PV
  | some A => .sl false A.es ((A.xs.drop lo).take n)
  | none => match es0 with | () => .bot
def rsB : Nat → Option (List PV) → PV
  | off, some cs => .iptr false (rs0L st cs) off
  | _, none => .bot
def rsE (i off : Nat) : Option Arr → PV
  | some A => .iptr false (A.xs.getD i []) off
  | none => .bot
@[push_cast] theorem rsV_some (u : Unit) (lo n e t : Nat) (xs : List (List PV)) : rsV u lo n (some ⟨e, t, xs⟩) = .sl false e ((xs.drop lo).take n) := _root_.id rfl
@[push_cast] theorem rsB_some (off : Nat) (cs : List PV) : rsB st off (some cs) = .iptr false (rs0L st cs) off := _root_.id rfl
@[push_cast] theorem rsE_some (i off e t : Nat) (xs : List (List PV)) : rsE i off (some ⟨e, t, xs⟩) = .iptr false (xs.getD i []) off := _root_.id rfl
end
section
variable (s : List (Nat × PV)) (b : List (Nat × List PV)) (a : List (Nat × Arr)) (m : List (Nat × Mp))
@[push_cast] theorem rs0_view (id lo n : Nat) : PV.rs0 ⟨s, b, a, m⟩ (.view id lo n) = rsV () lo n (lk a id) := by simp only [PV.rs0]; cases lk a id <;> rfl
@[push_cast] theorem rs0_eptr (id i o : Nat) : PV.rs0 ⟨s, b, a, m⟩ (.eptr id i o) = rsE i o (lk a id) := by simp only [PV.rs0]; cases lk a id <;> rfl
@[push_cast] theorem rs0_ptr (id o : Nat) : PV.rs0 ⟨s, b, a, m⟩ (.ptr id o) = .bot := _root_.id rfl
@[push_cast] theorem rs0_sc (v : Value) : PV.rs0 ⟨s, b, a, m⟩ (.sc v) = .sc v := _root_.id rfl
@[push_cast] theorem rs0_nil : PV.rs0 ⟨s, b, a, m⟩ .nil = .nil := _root_.id rfl
@[push_cast] theorem rs0_bot : PV.rs0 ⟨s, b, a, m⟩ .bot = .bot := _root_.id rfl
@[push_cast] theorem rs0_sl (p : Bool) (es : Nat) (xs : List (List PV)) : PV.rs0 ⟨s, b, a, m⟩ (.sl p es xs) = .sl p es xs := _root_.id rfl
@[push_cast] theorem rs0_iptr (p : Bool) (cs : List PV) (o : Nat) : PV.rs0 ⟨s, b, a, m⟩ (.iptr p cs o) = .iptr p cs o := _root_.id rfl
@[push_cast] theorem rs1_view (id lo n : Nat) : PV.rs1 ⟨s, b, a, m⟩ (.view id lo n) = rsV () lo n (lk a id) := rs0_view s b a m id lo n
@[push_cast] theorem rs1_eptr (id i o : Nat) : PV.rs1 ⟨s, b, a, m⟩ (.eptr id i o) = rsE i o (lk a id) := rs0_eptr s b a m id i o
@[push_cast] theorem rs1_ptr (id o : Nat) : PV.rs1 ⟨s, b, a, m⟩ (.ptr id o) = rsB ⟨s, b, a, m⟩ o (lk b id) := by simp only [PV.rs1, rs0L_eq]; cases lk b id <;> rfl
@[push_cast] theorem rs1_sc (v : Value) : PV.rs1 ⟨s, b, a, m⟩ (.sc v) = .sc v := _root_.id rfl
@[push_cast] theorem rs1_nil : PV.rs1 ⟨s, b, a, m⟩ .nil = .nil := _root_.id rfl
@[push_cast] theorem rs1_bot : PV.rs1 ⟨s, b, a, m⟩ .bot = .bot := _root_.id rfl
@[push_cast] theorem rs1_sl (p : Bool) (es : Nat) (xs : List (List PV)) : PV.rs1 ⟨s, b, a, m⟩ (.sl p es xs) = .sl p es xs := _root_.id rfl
@[push_cast] theorem rs1_iptr (p : Bool) (cs : List PV) (o : Nat) : PV.rs1 ⟨s, b, a, m⟩ (.iptr p cs o) = .iptr p cs o := _root_.id rfl
@[push_cast] theorem rsA_agg (cs : List PV) : PV.rsA ⟨s, b, a, m⟩ (.agg cs) = .agg (rsL ⟨s, b, a, m⟩ cs) := by simp only [PV.rsA, rsL_eq]
@[push_cast] theorem rsA_view (id lo n : Nat) : PV.rsA ⟨s, b, a, m⟩ (.view id lo n) = rsV () lo n (lk a id) := rs0_view s b a m id lo n
@[push_cast] theorem rsA_eptr (id i o : Nat) : PV.rsA ⟨s, b, a, m⟩ (.eptr id i o) = rsE i o (lk a id) := rs0_eptr s b a m id i o
@[push_cast] theorem rsA_ptr (id o : Nat) : PV.rsA ⟨s, b, a, m⟩ (.ptr id o) = rsB ⟨s, b, a, m⟩ o (lk b id) := rs1_ptr s b a m id o
@[push_cast] theorem rsA_sc (v : Value) : PV.rsA ⟨s, b, a, m⟩ (.sc v) = .sc v := _root_.id rfl
@[push_cast] theorem rsA_nil : PV.rsA ⟨s, b, a, m⟩ .nil = .nil := _root_.id rfl
@[push_cast] theorem rsA_bot : PV.rsA ⟨s, b, a, m⟩ .bot = .bot := _root_.id rfl
@[push_cast] theorem rsA_sl (p : Bool) (es : Nat) (xs : List (List PV)) : PV.rsA ⟨s, b, a, m⟩ (.sl p es xs) = .sl p es xs := _root_.id rfl
@[push_cast] theorem rsA_iptr (p : Bool) (cs : List PV) (o : Nat) : PV.rsA ⟨s, b, a, m⟩ (.iptr p cs o) = .iptr p cs o := _root_.id rfl
end
def argsV (st : St) : List Opd → List PV
  | [] => []
  | x :: r => (x.ev st).rsA st :: argsV st r
@[push_cast] theorem argsV_nil (st : St) : argsV st [] = [] := _root_.id rfl
@[push_cast] theorem argsV_cons (st : St) (x : Opd) (r : List Opd) : argsV st (x :: r) = (x.ev st).rsA st :: argsV st r := _root_.id rfl
theorem argsV_eq (st : St) (l : List Opd) : (l.map fun x => (x.ev st).rsA st) = argsV st l := by induction l <;> simp_all [argsV]
def calK (P : Env) (d : Option Nat) (f : Nat) (args : List PV) (r : List AO) (st : St) (K : St → Prop) : Prop := ∃ post, FnOK P.p f args post ∧ ∀ v, post v → opsK P r (st.put d v) K
@[congr] theorem calK_congr {P : Env} {d : Option Nat} {f : Nat} {args args' : List PV} {r : List AO} {st st' : St} {K : St → Prop} (h1 : args = args') (h2 : st = st') : calK P d f args r st K = calK P d f args' r st' K := by rw [h1, h2]
@[push_cast] theorem o_cal (P : Env) (d : Option Nat) (f : Nat) (args : List Opd) (r : List AO) (st : St) (K : St → Prop) : opsK P (⟨d, none, .cal f args⟩ :: r) st K = calK P d f (argsV st args) r st K := by
  simp only [opsK, grdK, opK, calK, argsV_eq]
theorem cal_eq {P : Env} {d : Option Nat} {f : Nat} {args : List PV} {r : List AO} {st : St} {K : St → Prop} {v : PV} (hc : FnEq P.p f args v) (h : opsK P r (st.put d v) K) : calK P d f args r st K :=
  ⟨_, hc, fun u hu => by subst hu; exact h⟩
theorem loop_of {P : Env} {ks : List Nat} {body : AC} {Q : Exit → St → Prop} {st : St} (I : Nat → St → Prop) (n0 : Nat) (h0 : I n0 (st.gc ks))
    (hr : ∀ n st', I n st' → awp P body (Exit.thn (fun st'' => ∃ n', n' < n ∧ I n' (st''.gc ks)) Q) st') : awp P (.loop ks body) Q st := ⟨I, n0, h0, hr⟩
section
variable (rvs : List RV) (post : PV → Prop)
@[push_cast] theorem retK_ret (st : St) : retK rvs post .ret st = ((resV st rvs).1 ∧ flatB (resV st rvs).2 = true ∧ Perm (resV st rvs).2 ∧ post (resV st rvs).2) := by simp [retK, isEnd]
@[push_cast] theorem retK_normal (st : St) : retK rvs post .normal st = ((resV st rvs).1 ∧ flatB (resV st rvs).2 = true ∧ Perm (resV st rvs).2 ∧ post (resV st rvs).2) := by simp [retK, isEnd]
end
def rvW (st : St) : RV → Prop × PV := fun r => r.val st
@[push_cast] theorem resV_one (st : St) (r : RV) : resV st [r] = rvW (r.frz st) r := _root_.id rfl
def rvT (st : St) : List RV → Prop × List PV
  | [] => (True, [])
  | r :: rs => andT (rvW st r) (rvT st rs)
where
  andT (x : Prop × PV) (y : Prop × List PV) : Prop × List PV := (x.1 ∧ y.1, x.2 :: y.2)
def tupT (x : Prop × List PV) : Prop × PV := (x.1, .tup x.2)
@[push_cast] theorem andT_mk (p q : Prop) (v : PV) (vs : List PV) : rvT.andT (p, v) (q, vs) = (p ∧ q, v :: vs) := _root_.id rfl
@[push_cast] theorem rvT_nil (st : St) : rvT st [] = (True, []) := _root_.id rfl
@[push_cast] theorem rvT_cons (st : St) (r : RV) (rs : List RV) : rvT st (r :: rs) = rvT.andT (rvW st r) (rvT st rs) := _root_.id rfl
@[push_cast] theorem tupT_mk (p : Prop) (vs : List PV) : tupT (p, vs) = (p, .tup vs) := _root_.id rfl
theorem rvT_eq (st : St) (rs : List RV) : ((∀ r ∈ rs, (r.val st).1) = (rvT st rs).1) ∧ (rs.map fun r => (r.val st).2) = (rvT st rs).2 := by
  induction rs with
  | nil => simp [rvT]
  | cons r rs ih => simp [rvT, rvT.andT, rvW, ← ih.1, ← ih.2]
@[push_cast] theorem resV_two (st : St) (r1 r2 : RV) (rs : List RV) : resV st (r1 :: r2 :: rs) = tupT (rvT (frzAll st (r1 :: r2 :: rs)) (r1 :: r2 :: rs)) := by
  have h := rvT_eq (frzAll st (r1 :: r2 :: rs)) (r1 :: r2 :: rs)
  show ((∀ r ∈ r1 :: r2 :: rs, (r.val (frzAll st (r1 :: r2 :: rs))).1), PV.tup ((r1 :: r2 :: rs).map fun r => (r.val (frzAll st (r1 :: r2 :: rs))).2)) = _
  rw [h.1, h.2]; rfl
@[push_cast] theorem resV_zero (st : St) : resV st [] = (True, .tup []) := by simp [resV]
@[push_cast] theorem frzAll_nil (st : St) : frzAll st [] = st := _root_.id rfl
@[push_cast] theorem frzAll_cons (st : St) (r : RV) (rs : List RV) : frzAll st (r :: rs) = frzAll (r.frz st) rs := _root_.id rfl
def frzW (st : St) : PV → St
  | .agg cs => st.frzs cs
  | .view id _ _ => st.frz id
  | .eptr id _ _ => st.frz id
  | _ => st
theorem frzW_eq (st : St) (v : PV) : frzVal st v = frzW st v := by cases v <;> rfl
@[push_cast] theorem frz_tmp (st : St) (t : Nat) : RV.frz st (.tmp t) = frzW st (st.get t) := frzW_eq st _
@[push_cast] theorem frzW_agg (st : St) (cs : List PV) : frzW st (.agg cs) = st.frzs cs := _root_.id rfl
@[push_cast] theorem frzW_view (st : St) (id lo n : Nat) : frzW st (.view id lo n) = st.frz id := _root_.id rfl
@[push_cast] theorem frzW_sc (st : St) (v : Value) : frzW st (.sc v) = st := _root_.id rfl
@[push_cast] theorem frzW_nil (st : St) : frzW st .nil = st := _root_.id rfl
@[push_cast] theorem frzW_sl (st : St) (p : Bool) (es : Nat) (xs : List (List PV)) : frzW st (.sl p es xs) = st := _root_.id rfl
@[push_cast] theorem frzW_ptr (st : St) (id o : Nat) : frzW st (.ptr id o) = st := _root_.id rfl
@[push_cast] theorem frzW_iptr (st : St) (p : Bool) (cs : List PV) (o : Nat) : frzW st (.iptr p cs o) = st := _root_.id rfl
def frzC (st : St) : PV → St
  | .ptr id _ => frzD st (lk st.b id)
  | _ => st
where
  frzD (st : St) : Option (List PV) → St
    | some cs => st.frzs cs
    | none => st
@[push_cast] theorem frz_cell (st : St) (t : Nat) (agg : Bool) (sz : Nat) : RV.frz st (.cell t agg sz) = frzC st (st.get t) := by
  simp only [RV.frz]
  cases st.get t <;> simp only [frzC]
  rename_i id o
  cases lk st.b id <;> rfl
@[push_cast] theorem frzC_ptr (s : List (Nat × PV)) (b : List (Nat × List PV)) (a : List (Nat × Arr)) (m : List (Nat × Mp)) (id o : Nat) : frzC ⟨s, b, a, m⟩ (.ptr id o) = frzC.frzD ⟨s, b, a, m⟩ (lk b id) := _root_.id rfl
@[push_cast] theorem frzD_some (st : St) (cs : List PV) : frzC.frzD st (some cs) = st.frzs cs := _root_.id rfl
@[push_cast] theorem rvW_tmp (st : St) (t : Nat) : rvW st (.tmp t) = (True, st.get t) := _root_.id rfl
def rvC (st : St) (agg : Bool) (sz : Nat) : PV → Prop × PV
  | .ptr id off => rvD agg sz off (lk st.b id)
  | _ => (False, .bot)
where
  rvD (agg : Bool) (sz off : Nat) : Option (List PV) → Prop × PV
    | some cs => (off + sz ≤ cs.length, ldc agg sz off cs)
    | none => (False, .bot)
@[push_cast] theorem rvW_cell (st : St) (t : Nat) (agg : Bool) (sz : Nat) : rvW st (.cell t agg sz) = rvC st agg sz (st.get t) := by
  simp only [rvW, RV.val]
  cases st.get t <;> simp only [rvC]
  rename_i id o
  cases lk st.b id <;> rfl
@[push_cast] theorem rvC_ptr (s : List (Nat × PV)) (b : List (Nat × List PV)) (a : List (Nat × Arr)) (m : List (Nat × Mp)) (agg : Bool) (sz id o : Nat) : rvC ⟨s, b, a, m⟩ agg sz (.ptr id o) = rvC.rvD agg sz o (lk b id) := _root_.id rfl
@[push_cast] theorem rvD_some (agg : Bool) (sz off : Nat) (cs : List PV) : rvC.rvD agg sz off (some cs) = (off + sz ≤ cs.length, ldc agg sz off cs) := _root_.id rfl
@[push_cast] theorem flat_sc (v : Value) : flatB (.sc v) = true := _root_.id rfl
@[push_cast] theorem flat_sl (p : Bool) (es : Nat) (xs : List (List PV)) : flatB (.sl p es xs) = true := _root_.id rfl
@[push_cast] theorem flat_agg (cs : List PV) : flatB (.agg cs) = true := _root_.id rfl
@[push_cast] theorem flat_nil : flatB .nil = true := _root_.id rfl
@[push_cast] theorem flat_tup (cs : List PV) : flatB (.tup cs) = cs.all fun c => !isTup c := _root_.id rfl
attribute [push_cast] List.all_cons List.all_nil Bool.not_false Bool.not_true
@[push_cast] theorem isTup_sc (v : Value) : isTup (.sc v) = false := _root_.id rfl
@[push_cast] theorem isTup_sl (p : Bool) (es : Nat) (xs : List (List PV)) : isTup (.sl p es xs) = false := _root_.id rfl
@[push_cast] theorem isTup_agg (cs : List PV) : isTup (.agg cs) = false := _root_.id rfl
@[push_cast] theorem isTup_nil : isTup .nil = false := _root_.id rfl
attribute [push_cast] perm_sc perm_nil perm_sl perm_agg perm_tup perm_ints perm_rows List.forall_mem_cons
@[push_cast] theorem perm_none (P : PV → Prop) : (∀ x ∈ ([] : List PV), P x) ↔ True := by simp
@[push_cast] theorem slots0_eq (l : List PV) : slots0 l = slots0.go 0 l := _root_.id rfl
@[push_cast] theorem slots0_nil (k : Nat) : slots0.go k [] = [] := _root_.id rfl
@[push_cast] theorem slots0_cons (k : Nat) (c : PV) (r : List PV) : slots0.go k (c :: r) = (k, c) :: slots0.go (k + 1) r := _root_.id rfl
end Go.Vc
