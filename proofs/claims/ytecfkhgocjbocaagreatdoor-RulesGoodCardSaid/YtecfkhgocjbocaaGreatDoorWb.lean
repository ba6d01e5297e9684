/-
  Structs built of parts, some of them structs, in one step.
-/
import Derived.Test.YtecfkhgocjbocaaGreatDoorWh
import Derived.Great.BuildSlice
namespace Go.Proofs.YtecfkhgocjbocaaGreatDoor
set_option linter.unusedVariables false
set_option linter.unusedSimpArgs false
open Go Go.RowKit

theorem wpList_buildV {P : Program} {ops : Array Oper} {rest : List Oper} {o : Oper} {a : Act} {w : World} {Q : Exit → Act → World → Prop} (hg : o.guard = none) (t : TypeId) (parts : List (Nat × Operand)) (ho : o.op = .build t parts.toArray)
    (d : Option Tmp) (hd : o.dst = d) (vals : List (Nat × Value)) (hv : parts.map (fun p => (p.1, a.eval p.2)) = vals) (cells : Array Value) (hf : P.built t vals = some cells)
    (h : wpList P ops Q rest (a.put d (.agg cells)) w) : wpList P ops Q (o :: rest) a w :=
  wpList_buildTo hg t parts.toArray ho d hd cells (by
    have e : (parts.toArray.map fun ((i, x) : Nat × Operand) => (i, a.eval x)).toList = vals := by rw [Array.toList_map]; exact hv
    rw [e]; exact hf) h
theorem runs_buildV {P : Program} {o : Oper} {a : Act} {w : World} {R : Value → World → Prop} (t : TypeId) (parts : List (Nat × Operand)) (ho : o.op = .build t parts.toArray)
    (vals : List (Nat × Value)) (hv : parts.map (fun p => (p.1, a.eval p.2)) = vals) (cells : Array Value) (hf : P.built t vals = some cells) (h : R (.agg cells) w) : runs P o a w R :=
  runs_value (v := .agg cells) (w' := w) (by
    have e : (parts.toArray.map fun ((i, x) : Nat × Operand) => (i, a.eval x)).toList = vals := by rw [Array.toList_map]; exact hv
    unfold execOp
    simp only [ho, Sem.run_bind, run_build w t _ cells (by rw [e]; exact hf), Result.andThen_ok]
    rfl) h
end Go.Proofs.YtecfkhgocjbocaaGreatDoor
