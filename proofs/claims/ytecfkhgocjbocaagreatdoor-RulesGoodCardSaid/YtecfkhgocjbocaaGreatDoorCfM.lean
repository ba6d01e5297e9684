/-
  Layer 5 (plain): the order of lines; what may be, is set, deleted, found, named.
-/
import Derived.Test.YtecfkhgocjbocaaGreatDoorPrM
import Derived.Lib.Bytealg
namespace Go.Proofs.YtecfkhgocjbocaaGreatDoor
set_option linter.unusedVariables false
set_option linter.unusedSimpArgs false
open Go

namespace CF
abbrev cmpT (a b : List UInt8) : Int := Lib.compareBytes a b
theorem cmpT_range (a b : List UInt8) : cmpT a b = -1 ∨ cmpT a b = 0 ∨ cmpT a b = 1 := by
  induction a generalizing b with
  | nil => cases b <;> simp [Lib.compareBytes]
  | cons x a ih =>
    cases b with
    | nil => simp [Lib.compareBytes]
    | cons y b =>
      unfold cmpT Lib.compareBytes
      split
      · simp
      · split
        · simp
        · exact ih b
theorem cmpT_zero (a b : List UInt8) : cmpT a b = 0 ↔ a = b := by
  induction a generalizing b with
  | nil => cases b <;> simp [Lib.compareBytes]
  | cons x a ih =>
    cases b with
    | nil => simp [Lib.compareBytes]
    | cons y b =>
      unfold cmpT Lib.compareBytes
      split
      · rename_i h
        simp only [List.cons.injEq]
        constructor
        · intro h2; omega
        · intro h2; rw [h2.1] at h; exact absurd h (by simp)
      · split
        · rename_i h1 h
          simp only [List.cons.injEq]
          constructor
          · intro h2; omega
          · intro h2; rw [h2.1] at h; exact absurd h (by simp)
        · rename_i h1 h2
          have hxy : x = y := by
            simp only [UInt8.lt_iff_toNat_lt] at h1 h2
            exact UInt8.toNat_inj.1 (by omega)
          have := ih b
          simp only [List.cons.injEq, hxy, true_and]
          exact this
theorem cmpT_neg (a b : List UInt8) : cmpT b a = - cmpT a b := by
  induction a generalizing b with
  | nil => cases b <;> simp [Lib.compareBytes]
  | cons x a ih =>
    cases b with
    | nil => simp [Lib.compareBytes]
    | cons y b =>
      have := ih b
      unfold cmpT Lib.compareBytes
      by_cases h1 : x < y
      · have h2 : ¬ y < x := by simp only [UInt8.lt_iff_toNat_lt] at *; omega
        rw [if_pos h1, if_neg h2, if_pos h1]; simp
      · by_cases h2 : y < x
        · rw [if_pos h2, if_neg h1, if_pos h2]
        · rw [if_neg h2, if_neg h1, if_neg h1, if_neg h2]
          exact this
theorem cmpT_trans (a b c : List UInt8) (h1 : cmpT a b < 0) (h2 : cmpT b c < 0) : cmpT a c < 0 := by
  induction a generalizing b c with
  | nil =>
    cases c with
    | nil => cases b <;> simp [Lib.compareBytes] at h1 h2
    | cons z c => simp [Lib.compareBytes]
  | cons x a ih =>
    cases b with
    | nil => simp [Lib.compareBytes] at h1
    | cons y b =>
      cases c with
      | nil => simp [Lib.compareBytes] at h2
      | cons z c =>
        unfold cmpT Lib.compareBytes at h1 h2 ⊢
        simp only [UInt8.lt_iff_toNat_lt] at *
        by_cases e1 : x.toNat < y.toNat
        · by_cases e2 : y.toNat < z.toNat
          · rw [if_pos (by omega)]; decide
          · rw [if_neg e2] at h2
            by_cases e3 : z.toNat < y.toNat
            · rw [if_pos e3] at h2; omega
            · rw [if_pos (by omega)]; decide
        · rw [if_neg e1] at h1
          by_cases e4 : y.toNat < x.toNat
          · rw [if_pos e4] at h1; omega
          · rw [if_neg e4] at h1
            by_cases e2 : y.toNat < z.toNat
            · rw [if_pos (by omega)]; decide
            · rw [if_neg e2] at h2
              by_cases e3 : z.toNat < y.toNat
              · rw [if_pos e3] at h2; omega
              · rw [if_neg e3] at h2
                rw [if_neg (by omega), if_neg (by omega)]
                exact ih b c h1 h2
theorem bytesLess_cmp (a b : List UInt8) : Op.bytesLess a b = decide (cmpT a b < 0) := by
  induction a generalizing b with
  | nil => cases b <;> simp [Lib.compareBytes, Op.bytesLess]
  | cons x a ih =>
    cases b with
    | nil => simp [Lib.compareBytes, Op.bytesLess]
    | cons y b =>
      unfold cmpT Lib.compareBytes Op.bytesLess
      rw [ih b]
      by_cases h1 : x < y
      · rw [if_pos h1]; simp [h1]
      · by_cases h2 : y < x
        · rw [if_neg h1, if_pos h2]
          have : x ≠ y := by
            intro e; rw [e] at h2; simp at h2
          simp [h1, this]
        · have : x = y := by
            simp only [UInt8.lt_iff_toNat_lt] at h1 h2
            exact UInt8.toNat_inj.1 (by omega)
          rw [if_neg h1, if_neg h2]
          simp [this]
def cmpZ (x y : Int) : Int := if x < y then -1 else if y < x then 1 else 0
theorem cmpZ_zero (x y : Int) : cmpZ x y = 0 ↔ x = y := by
  unfold cmpZ
  by_cases h1 : x < y
  · rw [if_pos h1]; omega
  · by_cases h2 : y < x
    · rw [if_neg h1, if_pos h2]; omega
    · rw [if_neg h1, if_neg h2]; omega
theorem cmpZ_lt (x y : Int) : cmpZ x y < 0 ↔ x < y := by
  unfold cmpZ
  by_cases h1 : x < y
  · rw [if_pos h1]; omega
  · by_cases h2 : y < x
    · rw [if_neg h1, if_pos h2]; omega
    · rw [if_neg h1, if_neg h2]; omega
theorem cmpZ_neg (x y : Int) : cmpZ y x = - cmpZ x y := by
  unfold cmpZ
  by_cases h1 : x < y
  · rw [if_pos h1, if_neg (by omega), if_pos h1]; omega
  · by_cases h2 : y < x
    · rw [if_pos h2, if_neg h1, if_pos h2]
    · rw [if_neg h1, if_neg h2, if_neg h1, if_neg h2]; omega
/-- which of two lines is ahead -/
def ordL (a b : Ln) : Int := if cmpZ a.head b.head = 0 then (if cmpT a.name b.name = 0 then cmpT a.leaf b.leaf else cmpT a.name b.name) else cmpZ a.head b.head
theorem ordL_zero (a b : Ln) : ordL a b = 0 ↔ a.head = b.head ∧ a.name = b.name ∧ a.leaf = b.leaf := by
  unfold ordL
  by_cases h1 : cmpZ a.head b.head = 0
  · rw [if_pos h1]
    by_cases h2 : cmpT a.name b.name = 0
    · rw [if_pos h2, cmpT_zero, (cmpZ_zero _ _).1 h1, (cmpT_zero _ _).1 h2]; simp
    · rw [if_neg h2]
      constructor
      · intro h; exact absurd h h2
      · rintro ⟨_, h, _⟩; exact absurd ((cmpT_zero _ _).2 h) h2
  · rw [if_neg h1]
    constructor
    · intro h; exact absurd h h1
    · rintro ⟨h, _⟩; exact absurd ((cmpZ_zero _ _).2 h) h1
theorem ordL_neg (a b : Ln) : ordL b a = - ordL a b := by
  unfold ordL
  rw [cmpZ_neg a.head b.head, cmpT_neg a.name b.name, cmpT_neg a.leaf b.leaf]
  by_cases h1 : cmpZ a.head b.head = 0
  · rw [if_pos (by omega), if_pos h1]
    by_cases h2 : cmpT a.name b.name = 0
    · rw [if_pos (by omega), if_pos h2]
    · rw [if_neg (by omega), if_neg h2]
  · rw [if_neg (by omega), if_neg h1]
theorem ordL_lt (a b : Ln) : ordL a b < 0 ↔ a.head < b.head ∨ (a.head = b.head ∧ (cmpT a.name b.name < 0 ∨ (a.name = b.name ∧ cmpT a.leaf b.leaf < 0))) := by
  unfold ordL
  by_cases h1 : cmpZ a.head b.head = 0
  · rw [if_pos h1]
    have e1 := (cmpZ_zero _ _).1 h1
    by_cases h2 : cmpT a.name b.name = 0
    · rw [if_pos h2]
      have e2 := (cmpT_zero _ _).1 h2
      constructor
      · intro h; exact .inr ⟨e1, .inr ⟨e2, h⟩⟩
      · rintro (h | ⟨_, h | ⟨_, h⟩⟩)
        · omega
        · omega
        · exact h
    · rw [if_neg h2]
      constructor
      · intro h; exact .inr ⟨e1, .inl h⟩
      · rintro (h | ⟨_, h | ⟨h, _⟩⟩)
        · omega
        · exact h
        · exact absurd ((cmpT_zero _ _).2 h) h2
  · rw [if_neg h1, cmpZ_lt]
    constructor
    · intro h; exact .inl h
    · rintro (h | ⟨h, _⟩)
      · exact h
      · exact absurd ((cmpZ_zero _ _).2 h) h1
theorem ordL_trans (a b c : Ln) (h1 : ordL a b < 0) (h2 : ordL b c < 0) : ordL a c < 0 := by
  rw [ordL_lt] at *
  rcases h1 with h1 | ⟨e1, h1⟩
  · rcases h2 with h2 | ⟨e2, h2⟩
    · exact .inl (by omega)
    · exact .inl (by omega)
  · rcases h2 with h2 | ⟨e2, h2⟩
    · exact .inl (by omega)
    · refine .inr ⟨by omega, ?_⟩
      rcases h1 with h1 | ⟨f1, h1⟩
      · rcases h2 with h2 | ⟨f2, h2⟩
        · exact .inl (cmpT_trans _ _ _ h1 h2)
        · rw [← f2]; exact .inl h1
      · rcases h2 with h2 | ⟨f2, h2⟩
        · rw [f1]; exact .inl h2
        · exact .inr ⟨by rw [f1, f2], cmpT_trans _ _ _ h1 h2⟩
theorem ordL_same {a b : Ln} (h : ordL a b = 0) (c : Ln) : ordL a c = ordL b c ∧ ordL c a = ordL c b := by
  obtain ⟨h1, h2, h3⟩ := (ordL_zero a b).1 h
  unfold ordL
  rw [h1, h2, h3]
  exact ⟨rfl, rfl⟩
def lessL (a b : Ln) : Bool := decide (ordL a b < 0)
/-- the reference's order -/
theorem lessL_ref (a b : Ln) : lessL a b = if a.head = b.head then (if a.name = b.name then Op.bytesLess a.leaf b.leaf else Op.bytesLess a.name b.name) else decide (a.head < b.head) := by
  unfold lessL
  rw [Bool.eq_iff_iff, decide_eq_true_iff, ordL_lt]
  by_cases h1 : a.head = b.head
  · rw [if_pos h1]
    by_cases h2 : a.name = b.name
    · rw [if_pos h2, bytesLess_cmp, decide_eq_true_iff]
      have := (cmpT_zero _ _).2 h2
      constructor
      · rintro (h | ⟨_, h | ⟨_, h⟩⟩)
        · omega
        · omega
        · exact h
      · intro h; exact .inr ⟨h1, .inr ⟨h2, h⟩⟩
    · rw [if_neg h2, bytesLess_cmp, decide_eq_true_iff]
      constructor
      · rintro (h | ⟨_, h | ⟨h, _⟩⟩)
        · omega
        · exact h
        · exact absurd h h2
      · intro h; exact .inr ⟨h1, .inl h⟩
  · rw [if_neg h1, decide_eq_true_iff]
    constructor
    · rintro (h | ⟨h, _⟩)
      · exact h
      · exact absurd h h1
    · intro h; exact .inl h

/-- may a line be? -/
def rightL (l : Ln) : Bool := (findR l.head l.leaf).2 && namedR l.head l.name && rightR (findR l.head l.leaf).1 l.value
def lnAt (C : List Ln) (k : Nat) : Ln := C.getD k ln0
/-- is the line at k one that may stand there? -/
def okAt (C : List Ln) (k : Nat) : Bool := rightL (lnAt C k) && (decide (k = 0) || lessL (lnAt C (k - 1)) (lnAt C k))
def okTo (C : List Ln) (k : Nat) : Bool := (List.range k).all (okAt C)
def RightC (C : List Ln) : Bool := okTo C C.length && decide (C.length ≤ 64)
theorem okTo_succ (C : List Ln) (k : Nat) : okTo C (k + 1) = (okTo C k && okAt C k) := by
  unfold okTo
  rw [List.range_succ, List.all_append]
  simp
theorem okTo_no (C : List Ln) (k m : Nat) (hk : k < m) (h : okAt C k = false) : okTo C m = false := by
  unfold okTo
  rw [Bool.eq_false_iff]
  intro h2
  have := List.all_eq_true.1 h2 k (List.mem_range.2 hk)
  rw [h] at this
  cases this
theorem RightC_no (C : List Ln) (k : Nat) (hk : k < C.length) (h : okAt C k = false) : RightC C = false := by
  unfold RightC
  rw [okTo_no C k _ hk h]
  rfl
theorem lnAt_get (C : List Ln) (k : Nat) (h : k < C.length) : lnAt C k = C[k] := by
  unfold lnAt
  rw [List.getD_eq_getElem?_getD, List.getElem?_eq_getElem h]
  rfl
def Srt (C : List Ln) : Prop := ∀ i j, i < j → j < C.length → ordL (lnAt C i) (lnAt C j) < 0
theorem srt_of (C : List Ln) (h : ∀ k, k + 1 < C.length → ordL (lnAt C k) (lnAt C (k + 1)) < 0) : Srt C := by
  intro i j hij hj
  induction j with
  | zero => omega
  | succ j ih =>
    by_cases e : i = j
    · subst e; exact h i hj
    · exact ordL_trans _ _ _ (ih (by omega) (by omega)) (h j hj)
theorem RightC_iff (C : List Ln) : RightC C = true ↔ (∀ l ∈ C, rightL l = true) ∧ Srt C ∧ C.length ≤ 64 := by
  unfold RightC okTo
  rw [Bool.and_eq_true, List.all_eq_true, decide_eq_true_iff]
  constructor
  · rintro ⟨h1, h2⟩
    refine ⟨fun l hl => ?_, srt_of C fun k hk => ?_, h2⟩
    · obtain ⟨k, hk, rfl⟩ := List.getElem_of_mem hl
      have := h1 k (List.mem_range.2 hk)
      unfold okAt at this
      rw [Bool.and_eq_true, lnAt_get C k hk] at this
      exact this.1
    · have := h1 (k + 1) (List.mem_range.2 hk)
      unfold okAt at this
      rw [Bool.and_eq_true, Bool.or_eq_true, decide_eq_true_iff] at this
      rcases this.2 with h | h
      · omega
      · unfold lessL at h
        rw [decide_eq_true_iff] at h
        exact h
  · rintro ⟨h1, h2, h3⟩
    refine ⟨fun k hk => ?_, h3⟩
    have hk := List.mem_range.1 hk
    unfold okAt
    rw [Bool.and_eq_true, Bool.or_eq_true, decide_eq_true_iff]
    refine ⟨by rw [lnAt_get C k hk]; exact h1 _ (List.getElem_mem hk), ?_⟩
    by_cases e : k = 0
    · exact .inl e
    · refine .inr ?_
      unfold lessL
      rw [decide_eq_true_iff]
      exact h2 (k - 1) k (by omega) hk
theorem srt_mono {C : List Ln} (h : Srt C) (l : Ln) (a b : Nat) (hab : a ≤ b) (hb : b < C.length) (h2 : ordL (lnAt C b) l < 0) : ordL (lnAt C a) l < 0 := by
  by_cases e : a = b
  · subst e; exact h2
  · exact ordL_trans _ _ _ (h a b (by omega) hb) h2

/-- a line is laid where it belongs -/
def insC : List Ln → Ln → List Ln
  | [], l => [l]
  | x :: r, l => if ordL x l < 0 then x :: insC r l else if ordL x l = 0 then l :: r else l :: x :: r
theorem ins_at (C : List Ln) (l : Ln) (i : Nat) (hi : i ≤ C.length) (h : ∀ j < i, ordL (lnAt C j) l < 0) : insC C l = C.take i ++ insC (C.drop i) l := by
  induction C generalizing i with
  | nil => obtain rfl : i = 0 := by simpa using hi
           rfl
  | cons x r ih =>
    cases i with
    | zero => rfl
    | succ i =>
      have h0 : ordL x l < 0 := h 0 (by omega)
      have := ih i (by simpa using hi) (fun j hj => h (j + 1) (by omega))
      rw [List.take_succ_cons, List.drop_succ_cons, List.cons_append, ← this]
      show (if ordL x l < 0 then _ else _) = _
      rw [if_pos h0]
theorem ins_eq (C : List Ln) (l : Ln) (i : Nat) (hi : i < C.length) (h : ∀ j < i, ordL (lnAt C j) l < 0) (h2 : ordL (lnAt C i) l = 0) : insC C l = C.set i l := by
  rw [ins_at C l i (by omega) h, List.set_eq_take_append_cons_drop, if_pos hi]
  congr 1
  rw [List.drop_eq_getElem_cons hi]
  rw [lnAt_get C i hi] at h2
  show (if ordL C[i] l < 0 then _ else _) = _
  rw [if_neg (by omega), if_pos h2]
theorem ins_new (C : List Ln) (l : Ln) (i : Nat) (hi : i ≤ C.length) (h : ∀ j < i, ordL (lnAt C j) l < 0) (h2 : i < C.length → 0 < ordL (lnAt C i) l) : insC C l = C.take i ++ l :: C.drop i := by
  rw [ins_at C l i hi h]
  congr 1
  by_cases e : i < C.length
  · rw [List.drop_eq_getElem_cons e]
    have := h2 e
    rw [lnAt_get C i e] at this
    show (if ordL C[i] l < 0 then _ else _) = _
    rw [if_neg (by omega), if_neg (by omega)]
  · rw [List.drop_of_length_le (by omega)]
    rfl
theorem ins_mem (C : List Ln) (l x : Ln) (h : x ∈ insC C l) : x = l ∨ x ∈ C := by
  induction C with
  | nil => simp [insC] at h; exact .inl h
  | cons y r ih =>
    unfold insC at h
    split at h
    · rcases List.mem_cons.1 h with h | h
      · exact .inr (by rw [h]; exact List.mem_cons_self)
      · rcases ih h with h | h
        · exact .inl h
        · exact .inr (List.mem_cons_of_mem _ h)
    · split at h
      · rcases List.mem_cons.1 h with h | h
        · exact .inl h
        · exact .inr (List.mem_cons_of_mem _ h)
      · rcases List.mem_cons.1 h with h | h
        · exact .inl h
        · exact .inr h
theorem ins_len (C : List Ln) (l : Ln) : (insC C l).length = C.length ∨ (insC C l).length = C.length + 1 := by
  induction C with
  | nil => exact .inr rfl
  | cons y r ih =>
    unfold insC
    split
    · simp only [List.length_cons]; omega
    · split
      · exact .inl rfl
      · exact .inr rfl
/-- what is sorted, as a relation of each with all behind it -/
theorem srt_cons (x : Ln) (r : List Ln) : Srt (x :: r) ↔ (∀ y ∈ r, ordL x y < 0) ∧ Srt r := by
  constructor
  · intro h
    refine ⟨fun y hy => ?_, fun i j hij hj => ?_⟩
    · obtain ⟨k, hk, rfl⟩ := List.getElem_of_mem hy
      have := h 0 (k + 1) (by omega) (by simpa using hk)
      rwa [lnAt_get (x :: r) (k + 1) (by simpa using hk), lnAt_get (x :: r) 0 (by simp)] at this
    · have := h (i + 1) (j + 1) (by omega) (by simpa using hj)
      exact this
  · rintro ⟨h1, h2⟩ i j hij hj
    cases j with
    | zero => omega
    | succ j =>
      have hj' : j < r.length := by simpa using hj
      cases i with
      | zero =>
        show ordL x (lnAt r j) < 0
        rw [lnAt_get r j hj']
        exact h1 _ (List.getElem_mem hj')
      | succ i => exact h2 i j (by omega) hj'
theorem srt_ins (C : List Ln) (l : Ln) (h : Srt C) : Srt (insC C l) := by
  induction C with
  | nil => rw [show insC [] l = [l] from rfl, srt_cons]; exact ⟨by simp, h⟩
  | cons x r ih =>
    rw [srt_cons] at h
    unfold insC
    split
    · rename_i h1
      rw [srt_cons]
      refine ⟨fun y hy => ?_, ih h.2⟩
      rcases ins_mem r l y hy with e | e
      · rw [e]; exact h1
      · exact h.1 y e
    · split
      · rename_i h1 h2
        rw [srt_cons]
        exact ⟨fun y hy => by rw [← (ordL_same h2 y).1]; exact h.1 y hy, h.2⟩
      · rename_i h1 h2
        have h3 : ordL l x < 0 := by rw [ordL_neg]; omega
        rw [srt_cons, srt_cons]
        refine ⟨fun y hy => ?_, h⟩
        rcases List.mem_cons.1 hy with e | e
        · rw [e]; exact h3
        · exact ordL_trans _ _ _ h3 (h.1 y e)
theorem right_ins (C : List Ln) (l : Ln) (h : RightC C = true) (hl : rightL l = true) (h64 : (insC C l).length ≤ 64) : RightC (insC C l) = true := by
  rw [RightC_iff] at *
  exact ⟨fun x hx => (ins_mem C l x hx).elim (fun e => by rw [e]; exact hl) (h.1 x), srt_ins C l h.2.1, h64⟩
/-- what a set tells: the error, the lines -/
def setE (C : List Ln) (l : Ln) : Int := if (RightC C && rightL l) = true then (if (insC C l).length ≤ 64 then 0 else 5) else 1
def setC (C : List Ln) (l : Ln) : List Ln := if setE C l = 0 then insC C l else []
/-- is this a line of that head, name and leaf ("": of all)? -/
def hits (h : Int) (nm lf : List UInt8) (x : Ln) : Bool := decide (x.head = h) && (decide (x.name = nm) && (decide (lf = []) || decide (x.leaf = lf)))
def delL (C : List Ln) (h : Int) (nm lf : List UInt8) : List Ln := C.filter fun x => !hits h nm lf x
def delE (C : List Ln) (h : Int) (nm lf : List UInt8) : Int := if RightC C = true then (if (delL C h nm lf).length = C.length then 6 else 0) else 1
def delC (C : List Ln) (h : Int) (nm lf : List UInt8) : List Ln := if delE C h nm lf = 0 then delL C h nm lf else []
/-- a leaf's value -/
def valC (C : List Ln) (h : Int) (nm lf : List UInt8) : List UInt8 := if RightC C = true then (match C.find? fun x => decide (ordL x ⟨h, nm, lf, []⟩ = 0) with
    | some x => x.value
    | none => (findR h lf).1.dft) else []
def nameStep (h : Int) (out : List (List UInt8)) (x : Ln) : List (List UInt8) := if x.head = h ∧ (out = [] ∨ out.getLastD [] ≠ x.name) then out ++ [x.name] else out
/-- a head's names -/
def namC (C : List Ln) (h : Int) : List (List UInt8) := if RightC C = true ∧ h ≠ 0 then C.foldl (nameStep h) [] else []
end CF
end Go.Proofs.YtecfkhgocjbocaaGreatDoor
