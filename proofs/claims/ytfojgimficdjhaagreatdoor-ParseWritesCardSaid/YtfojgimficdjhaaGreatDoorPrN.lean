/-
  Layer 6's words (plain): what a command's words are; the code and the reference write the same.
-/
import Derived.Test.YtfojgimficdjhaaGreatDoorPrM
import Derived.Lib.Join
import Derived.Lib.ItoaNum
namespace Go.Proofs.YtfojgimficdjhaaGreatDoor
set_option linter.unusedVariables false
set_option linter.unusedSimpArgs false

/-- what a text tells is in bounds -/
theorem readT_rng {s : List UInt8} {c : Cmd} (h : readT s = some c) : 1 ≤ c.what ∧ c.what ≤ 9 ∧ 0 ≤ c.n ∧ c.n ≤ 65535 := by
  unfold readT at h
  split at h
  case h_2 => cases h
  case h_1 w r _ _ =>
  split at h
  · cases h
  unfold readL at h
  have hp := plainW_eq w
  split at h
  · rename_i h0
    split at h
    · injection h with h
      subst h
      simp only
      omega
    · cases h
  split at h
  · split at h
    · unfold countW at h
      split at h
      · rename_i h1
        injection h with h
        subst h
        simp only
        omega
      · cases h
    · cases h
  split at h
  · split at h
    · unfold countW at h
      split at h
      · rename_i h1
        injection h with h
        subst h
        simp only
        omega
      · cases h
    · cases h
  split at h
  · rw [Option.map_eq_some_iff] at h
    obtain ⟨l, _, rfl⟩ := h
    simp only
    omega
  split at h
  · rw [Option.map_eq_some_iff] at h
    obtain ⟨l, _, rfl⟩ := h
    simp only
    omega
  · cases h
/-- a command's words, as the code lays them -/
def headL (l : Ln) : List (List UInt8) := if l.head = 1 then [wArea, l.name] else if l.head = 2 then [wInter, l.name] else []
def optL (x : List UInt8) : List (List UInt8) := if x = [] then [] else [x]
def wordsW (c : Cmd) : List (List UInt8) :=
  if c.what = 3 then [wShow] else if c.what = 4 then [wCompare] else if c.what = 5 then [wCheck] else if c.what = 6 then [wCommit] else if c.what = 8 then [wConfirm]
  else if c.what = 7 then [wCC, Go.Lib.itoa c.n] else if c.what = 9 then [wRoll, Go.Lib.itoa c.n]
  else [if c.what = 2 then wDelete else wSet] ++ headL c.line ++ optL c.line.leaf ++ optL c.line.value
def textW (c : Cmd) : List UInt8 := Go.Lib.join (wordsW c) [32]
/-- as the reference does -/
def headT (l : Ln) : List UInt8 := if l.head = 1 then [32, 97, 114, 101, 97, 32] ++ l.name else if l.head = 2 then [32, 105, 110, 116, 101, 114, 102, 97, 99, 101, 32] ++ l.name else []
def optT (x : List UInt8) : List UInt8 := if x = [] then [] else 32 :: x
def digsT (n : Int) : List UInt8 := if n < 0 then [45] else SC.digs n.toNat
def textR (c : Cmd) : List UInt8 :=
  if c.what = 1 then wSet ++ headT c.line ++ optT c.line.leaf ++ optT c.line.value
  else if c.what = 2 then wDelete ++ headT c.line ++ optT c.line.leaf ++ optT c.line.value
  else if c.what = 3 then wShow else if c.what = 4 then wCompare else if c.what = 5 then wCheck else if c.what = 6 then wCommit else if c.what = 8 then wConfirm
  else if c.what = 7 then wCC ++ [32] ++ digsT c.n else if c.what = 9 then wRoll ++ [32] ++ digsT c.n else []
theorem joinTail_app (a b : List (List UInt8)) : Go.Lib.joinTail [32] (a ++ b) = Go.Lib.joinTail [32] a ++ Go.Lib.joinTail [32] b := by simp [Go.Lib.joinTail]
theorem headL_T (l : Ln) : Go.Lib.joinTail [32] (headL l) = headT l := by
  unfold headL headT
  split
  · simp [Go.Lib.joinTail, wArea]
  split
  · simp [Go.Lib.joinTail, wInter]
  · rfl
theorem optL_T (x : List UInt8) : Go.Lib.joinTail [32] (optL x) = optT x := by
  unfold optL optT
  split <;> simp [Go.Lib.joinTail]
theorem itoa_T (n : Int) (h : 0 ≤ n) : Go.Lib.itoa n = digsT n := by
  unfold digsT
  rw [if_neg (by omega), ← SC.itoa_digs]
  congr 1
  omega
theorem text_same (c : Cmd) (h1 : 1 ≤ c.what) (h2 : c.what ≤ 9) (h3 : 0 ≤ c.n) : textW c = textR c := by
  have h : c.what = 1 ∨ c.what = 2 ∨ c.what = 3 ∨ c.what = 4 ∨ c.what = 5 ∨ c.what = 6 ∨ c.what = 7 ∨ c.what = 8 ∨ c.what = 9 := by omega
  unfold textW wordsW textR
  rcases h with h | h | h | h | h | h | h | h | h
  · rw [if_neg (by omega), if_neg (by omega), if_neg (by omega), if_neg (by omega), if_neg (by omega), if_neg (by omega), if_neg (by omega), if_neg (by omega), if_pos h]
    simp only [List.singleton_append, List.cons_append, List.append_assoc]
    rw [Go.Lib.join_cons]
    simp only [joinTail_app, headL_T, optL_T, show Go.Lib.joinTail [32] [] = [] from rfl, List.nil_append]
  · rw [if_neg (by omega), if_neg (by omega), if_neg (by omega), if_neg (by omega), if_neg (by omega), if_neg (by omega), if_neg (by omega), if_pos h, if_neg (by omega), if_pos h]
    simp only [List.singleton_append, List.cons_append, List.append_assoc]
    rw [Go.Lib.join_cons]
    simp only [joinTail_app, headL_T, optL_T, show Go.Lib.joinTail [32] [] = [] from rfl, List.nil_append]
  · rw [if_pos h, if_neg (by omega), if_neg (by omega), if_pos h]
    exact Go.Lib.join_one _ _
  · rw [if_neg (by omega), if_pos h, if_neg (by omega), if_neg (by omega), if_neg (by omega), if_pos h]
    exact Go.Lib.join_one _ _
  · rw [if_neg (by omega), if_neg (by omega), if_pos h, if_neg (by omega), if_neg (by omega), if_neg (by omega), if_neg (by omega), if_pos h]
    exact Go.Lib.join_one _ _
  · rw [if_neg (by omega), if_neg (by omega), if_neg (by omega), if_pos h, if_neg (by omega), if_neg (by omega), if_neg (by omega), if_neg (by omega), if_neg (by omega), if_pos h]
    exact Go.Lib.join_one _ _
  · have := itoa_T c.n h3
    rw [if_neg (by omega), if_neg (by omega), if_neg (by omega), if_neg (by omega), if_neg (by omega), if_pos h, if_neg (by omega), if_neg (by omega), if_neg (by omega), if_neg (by omega), if_neg (by omega), if_neg (by omega), if_neg (by omega), if_pos h]
    rw [Go.Lib.join_cons, this]
    simp [Go.Lib.joinTail]
  · rw [if_neg (by omega), if_neg (by omega), if_neg (by omega), if_neg (by omega), if_pos h, if_neg (by omega), if_neg (by omega), if_neg (by omega), if_neg (by omega), if_neg (by omega), if_neg (by omega), if_pos h]
    exact Go.Lib.join_one _ _
  · have := itoa_T c.n h3
    rw [if_neg (by omega), if_neg (by omega), if_neg (by omega), if_neg (by omega), if_neg (by omega), if_neg (by omega), if_pos h, if_neg (by omega), if_neg (by omega), if_neg (by omega), if_neg (by omega), if_neg (by omega), if_neg (by omega), if_neg (by omega), if_neg (by omega), if_pos h]
    rw [Go.Lib.join_cons, this]
    simp [Go.Lib.joinTail]
/-- both write, or neither does, and then the same -/
theorem write_same (c : Cmd) : (readT (textW c) = some c ↔ readT (textR c) = some c) ∧ (readT (textW c) = some c → textW c = textR c) := by
  by_cases h : 1 ≤ c.what ∧ c.what ≤ 9 ∧ 0 ≤ c.n
  · rw [text_same c h.1 h.2.1 h.2.2]
    exact ⟨Iff.rfl, fun _ => rfl⟩
  · have n1 : ∀ s, readT s ≠ some c := fun s hs => h (by have := readT_rng hs; omega)
    exact ⟨⟨fun h => absurd h (n1 _), fun h => absurd h (n1 _)⟩, fun h => absurd h (n1 _)⟩
end Go.Proofs.YtfojgimficdjhaaGreatDoor
