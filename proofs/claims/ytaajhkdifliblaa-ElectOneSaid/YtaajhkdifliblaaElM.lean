/-
  Plain words of layer 13: voters, and who is elected.
-/
import Derived.Test.YtaajhkdifliblaaBase
namespace Go.Proofs.Ytaajhkdifliblaa.EL
set_option linter.unusedVariables false
set_option linter.unusedSimpArgs false

structure Vot where
  id : Int
  addr : Int
  prio : Int
  dr : Int
  bdr : Int
  deriving DecidableEq
def zeroV : Vot := ⟨0, 0, 0, 0, 0⟩
def speaks (v : Vot) : Bool := decide (v.dr = v.addr)
def deputy (v : Vot) : Bool := !speaks v && decide (v.bdr = v.addr)
def other (v : Vot) : Bool := !speaks v
def better (a b : Vot) : Bool := decide (b.prio < a.prio) || (decide (a.prio = b.prio) && decide (b.id < a.id))
def bestStep (p : Vot → Bool) (s : Vot × Bool) (v : Vot) : Vot × Bool := if (decide (0 < v.prio) && p v && (!s.2 || better v s.1)) = true then (v, true) else s
def bestOf (p : Vot → Bool) (l : List Vot) : Vot × Bool := l.foldl (bestStep p) (zeroV, false)
def votAt (l : List Vot) (k : Nat) : Vot := l.getD k zeroV
theorem bestOf_succ (p : Vot → Bool) (l : List Vot) (k : Nat) (h : k < l.length) : bestOf p (l.take (k + 1)) = bestStep p (bestOf p (l.take k)) (votAt l k) := by
  unfold bestOf votAt
  rw [List.take_succ_eq_append_getElem h, List.foldl_append, List.getD_eq_getElem?_getD, List.getElem?_eq_getElem h]
  rfl
/-- the two voters that a round finds: the speaker, the deputy -/
def roundV (l : List Vot) : Vot × Vot :=
  let b := if (bestOf deputy l).2 = true then (bestOf deputy l).1 else (bestOf other l).1
  (if (bestOf speaks l).2 = true then (bestOf speaks l).1 else b, b)
def turned (v : Vot) (dr bdr : Int) : Bool := (decide (dr = v.addr) != speaks v) || (decide (bdr = v.addr) != decide (v.bdr = v.addr))
def named (v : Vot) (dr bdr : Int) : Vot := { v with dr := dr, bdr := bdr }
def roundA (l : List Vot) : Int × Int := ((roundV l).1.addr, (roundV l).2.addr)
def electV (l : List Vot) : Int × Int :=
  if l.length = 0 then (0, 0)
  else if turned (votAt l 0) (roundA l).1 (roundA l).2 = true then roundA (l.set 0 (named (votAt l 0) (roundA l).1 (roundA l).2)) else roundA l
/-- the others' list, the k-th one ahead -/
def others (l : List Vot) (k : Nat) : List Vot := (l.drop k).take 1 ++ (l.take k ++ l.drop (k + 1))
def passTo (l : List Vot) : Nat → List Vot × Bool
  | 0 => (l, false)
  | k + 1 =>
    let s := passTo l k
    let v := votAt s.1 k
    let r := electV (others s.1 k)
    (s.1.set k (named v r.1 r.2), s.2 || (decide (v.dr ≠ r.1) || decide (v.bdr ≠ r.2)))
theorem passTo_length (l : List Vot) (k : Nat) : (passTo l k).1.length = l.length := by
  induction k with
  | zero => rfl
  | succ k ih => simp only [passTo, List.length_set, ih]
/-- pass by pass, so many being left -/
def stab (l : List Vot) : Nat → Int × Int × Nat
  | 0 => ((votAt (passTo l l.length).1 0).dr, (votAt (passTo l l.length).1 0).bdr, 16)
  | f + 1 => if (passTo l l.length).2 = true then stab (passTo l l.length).1 f else ((votAt (passTo l l.length).1 0).dr, (votAt (passTo l l.length).1 0).bdr, 15 - f)
def stable (l : List Vot) : Int × Int × Nat := if l.length = 0 then (0, 0, 0) else stab l 15
end Go.Proofs.Ytaajhkdifliblaa.EL
namespace Go.Proofs.Ytaajhkdifliblaa
open Go Go.RowKit EL
/-- a voter's cells -/
abbrev vC (v : Vot) : Array Value := #[.int .u32 v.id, .int .u32 v.addr, .int .i64 v.prio, .int .u32 v.dr, .int .u32 v.bdr]
def votC (v : Vot) : List Value := [.int .u32 v.id, .int .u32 v.addr, .int .i64 v.prio, .int .u32 v.dr, .int .u32 v.bdr]
def VS (l : List Vot) : List Value := l.flatMap votC
theorem VS_length (l : List Vot) : (VS l).length = l.length * 5 := by
  unfold VS
  induction l with
  | nil => rfl
  | cons x l ih => simp [List.flatMap_cons, votC, ih]; omega
theorem VS_append (l r : List Vot) : VS (l ++ r) = VS l ++ VS r := by simp [VS]
theorem VS_one (l : List Vot) : ∀ u ∈ VS l, u.oneCell' = true := by
  intro u hu
  simp only [VS, List.mem_flatMap, votC] at hu
  obtain ⟨x, _, hu⟩ := hu
  simp at hu
  rcases hu with rfl | rfl | rfl | rfl | rfl <;> rfl
theorem VS_get (l : List Vot) (k j : Nat) (hk : k < l.length) (hj : j < 5) : (VS l)[k * 5 + j]? = (votC (votAt l k))[j]? := by
  unfold VS votAt
  induction l generalizing k with
  | nil => simp at hk
  | cons x l ih =>
    cases k with
    | zero =>
      simp only [List.flatMap_cons, Nat.zero_mul, Nat.zero_add, List.getD_cons_zero]
      rw [List.getElem?_append_left (by simp [votC]; omega)]
    | succ k =>
      simp only [List.flatMap_cons, List.getD_cons_succ]
      rw [List.getElem?_append_right (by simp [votC]; omega)]
      have : (k + 1) * 5 + j - (votC x).length = k * 5 + j := by simp [votC]; omega
      rw [this]
      exact ih k (by simp at hk; omega)
theorem VS_take (l : List Vot) (k : Nat) : (VS l).take (k * 5) = VS (l.take k) := by
  unfold VS
  induction l generalizing k with
  | nil => simp
  | cons x l ih =>
    cases k with
    | zero => simp
    | succ k =>
      rw [List.take_succ_cons, List.flatMap_cons, List.flatMap_cons, ← ih k, List.take_append, show (k + 1) * 5 - (votC x).length = k * 5 by simp [votC]; omega, List.take_of_length_le (by simp [votC]; omega)]
theorem VS_drop (l : List Vot) (k : Nat) : (VS l).drop (k * 5) = VS (l.drop k) := by
  unfold VS
  induction l generalizing k with
  | nil => simp
  | cons x l ih =>
    cases k with
    | zero => simp
    | succ k =>
      rw [List.drop_succ_cons, List.flatMap_cons, ← ih k, List.drop_append, show (k + 1) * 5 - (votC x).length = k * 5 by simp [votC]; omega, List.drop_of_length_le (by simp [votC]; omega)]
      rfl
/-- what a walk wants at a voter -/
theorem Sl.vot {w : World} {A : Option Addr} {n c : Nat} {l : List Vot} (h : Sl w 5 (.slice A n c) (VS l)) {k : Nat} (hk : k < n) :
    ∃ b off, A = some ⟨b, off, none⟩ ∧ b < w.heap.size ∧ w.cell? ⟨b, off + k * 5, none⟩ = some (.int .u32 (votAt l k).id) ∧ w.cell? ⟨b, off + k * 5 + 1, none⟩ = some (.int .u32 (votAt l k).addr) ∧
      w.cell? ⟨b, off + k * 5 + 2, none⟩ = some (.int .i64 (votAt l k).prio) ∧ w.cell? ⟨b, off + k * 5 + 3, none⟩ = some (.int .u32 (votAt l k).dr) ∧ w.cell? ⟨b, off + k * 5 + 4, none⟩ = some (.int .u32 (votAt l k).bdr) := by
  obtain ⟨A', n', c', he, hl, _, _, hr⟩ := h
  injection he with h1 h2 h3
  subst h1; subst h2; subst h3
  obtain ⟨b, off, rfl, hlt, hc⟩ := hr (by omega)
  rw [VS_length] at hl
  have hkl : k < l.length := by omega
  refine ⟨b, off, rfl, hlt, ?_, ?_, ?_, ?_, ?_⟩
  · have := hc (k * 5 + 0) (by omega); rw [VS_get l k 0 hkl (by omega)] at this; exact this
  · have := hc (k * 5 + 1) (by omega); rw [VS_get l k 1 hkl (by omega)] at this; exact this
  · have := hc (k * 5 + 2) (by omega); rw [VS_get l k 2 hkl (by omega)] at this; exact this
  · have := hc (k * 5 + 3) (by omega); rw [VS_get l k 3 hkl (by omega)] at this; exact this
  · have := hc (k * 5 + 4) (by omega); rw [VS_get l k 4 hkl (by omega)] at this; exact this
theorem Sl.lenV {w : World} {A : Option Addr} {n c : Nat} {l : List Vot} (h : Sl w 5 (.slice A n c) (VS l)) : l.length = n ∧ n ≤ c ∧ c ≤ 9223372036854775807 := by
  obtain ⟨A', n', c', he, hl, h2, h3, hr⟩ := h
  injection he with h4 h5 h6
  subst h4; subst h5; subst h6
  rw [VS_length] at hl
  exact ⟨by omega, h2, by simpa [maxLen] using h3⟩
end Go.Proofs.Ytaajhkdifliblaa
