/-
  A slice of one struct, made in one step (seats with XRw1).
-/
import Derived.Test.YtecfkhgocjbocaaGreatDoorRw1
namespace Go.Proofs.YtecfkhgocjbocaaGreatDoor
set_option linter.unusedVariables false
set_option linter.unusedSimpArgs false
open Go Go.RowKit

theorem fold_set (l : List Value) : ∀ (k : Nat) (b : Array Value) (i : Nat), k + l.length ≤ b.size → ((l.zipIdx k).foldl (fun cs (x : Value × Nat) => cs.setIfInBounds (0 + x.2) x.1) b)[i]? = if k ≤ i ∧ i < k + l.length then l[i - k]? else b[i]? := by
  induction l with
  | nil => intro k b i h; simp; omega
  | cons x l ih =>
    intro k b i h
    simp only [List.length_cons] at h
    rw [List.zipIdx_cons, List.foldl_cons, ih (k + 1) _ i (by simp; omega)]
    simp only [Nat.zero_add, List.length_cons]
    by_cases h1 : i = k
    · subst h1
      rw [if_neg (by omega), if_pos (by omega), Nat.sub_self, Array.getElem?_setIfInBounds]
      simp
      omega
    · by_cases h2 : k + 1 ≤ i ∧ i < k + 1 + l.length
      · rw [if_pos h2, if_pos (by omega), show i - k = (i - (k + 1)) + 1 by omega, List.getElem?_cons_succ]
      · rw [if_neg h2, if_neg (by omega), Array.getElem?_setIfInBounds, if_neg (by omega)]
theorem fold_all (cs b : Array Value) (h : cs.size = b.size) : cs.zipIdx.foldl (fun cs (x : Value × Nat) => cs.setIfInBounds (0 + x.2) x.1) b = cs := by
  rw [← Array.foldl_toList, Array.toList_zipIdx]
  apply Array.ext_getElem?
  intro i
  rw [fold_set cs.toList 0 b i (by simp; omega)]
  by_cases hi : i < cs.size
  · rw [if_pos ⟨by omega, by simp; omega⟩]
    simp
  · rw [if_neg (by simp; omega), Array.getElem?_eq_none (by omega), Array.getElem?_eq_none (by omega)]
theorem run_build1 {P : Program} {w : World} {t e : TypeId} {size bytes : Nat} (hT : ST P t e size bytes) (cs : Array Value) (hs : cs.size = size) (h0 : 0 < size) (hm : size ≤ 1000) :
    (Instr.buildSlice t 1 #[(0, .agg cs)]).run P w = .ok (.slice (some ⟨w.heap.size, 0, none⟩) 1 1) (w.alloc (.cells cs e)) := by
  obtain ⟨ht, _, i, z, hi, hz, hsi, hby, hzs⟩ := hT
  subst hs
  have hf2 : ∀ b : Array Value, b.size = cs.size → Array.foldl (fun (cs : Array Value) (x : Value × Nat) => cs.setIfInBounds x.snd x.fst) b cs.zipIdx 0 cs.size = cs := by
    intro b hb
    have := fold_all cs b hb.symm
    simpa using this
  have hca : (Value.agg cs).cells = cs := rfl
  have hg : ¬ 16777216 < cs.size := by omega
  simp [Instr.buildSlice, run_underlying ht, Sem.run_bind, sizeOf, zeroValue, typeInfo, hi, hz, hsi, Instr.fill, hca, h0, hg, Nat.ne_of_gt h0, newRow, newObj, Result.andThen]
  rw [hf2 _ (by simp)]
  rfl
/-- as a loud operation -/
theorem runs_build1 {P : Program} {o : Oper} {a : Act} {w : World} {R : Value → World → Prop} {t e : TypeId} {size bytes : Nat} (hT : ST P t e size bytes) (x : Operand) (ho : o.op = .buildSlice t 1 #[(0, x)])
    (cs : Array Value) (hx : a.eval x = .agg cs) (hs : cs.size = size) (h0 : 0 < size) (hm : size ≤ 1000) (h : R (.slice (some ⟨w.heap.size, 0, none⟩) 1 1) (w.alloc (.cells cs e))) : runs P o a w R :=
  runs_value (by
    have hrun := run_build1 (P := P) (w := w) hT cs hs h0 hm
    unfold execOp
    simp only [ho, List.map_toArray, List.map_cons, List.map_nil, hx, Sem.run_bind, hrun, Result.andThen_ok]
    rfl) h
theorem wpList_build1 {P : Program} {ops : Array Oper} {rest : List Oper} {op : Oper} {a : Act} {w : World} {Q : Exit → Act → World → Prop} (hgd : op.guard = none) {t e : TypeId} {size bytes : Nat} (hT : ST P t e size bytes) (x : Operand) (ho : op.op = .buildSlice t 1 #[(0, x)])
    (cs : Array Value) (hx : a.eval x = .agg cs) (hs : cs.size = size) (h0 : 0 < size) (hm : size ≤ 1000)
    (h : wpList P ops Q rest (a.put op.dst (.slice (some ⟨w.heap.size, 0, none⟩) 1 1)) (w.alloc (.cells cs e))) : wpList P ops Q (op :: rest) a w :=
  wpList_plain hgd fun _ hK => by
    have hrun := run_build1 (P := P) (w := w) hT cs hs h0 hm
    unfold Oper.wp execOp
    simp only [ho, List.map_toArray, List.map_cons, List.map_nil, hx, Sem.run_bind, hrun, Result.andThen_ok]
    exact hK _ _ h
end Go.Proofs.YtecfkhgocjbocaaGreatDoor
