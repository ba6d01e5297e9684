/-
  Whole structs by value: stored into a block, loaded out of it, handed back as a result, each in one step.
-/
import Derived.Test.YtecfkhgocjbocaaGreatDoorRg1
import Derived.Deep.WholeRow
import Derived.Laws.ResultCell
namespace Go.Proofs.YtecfkhgocjbocaaGreatDoor
set_option linter.unusedVariables false
set_option linter.unusedSimpArgs false
open Go Go.RowKit

theorem run_storeAt_row {P : Program} {w : World} (ty : TypeId) {g : Nat} {c : Array Value} (c' : Array Value) (hg : w.heap[g]? = some (.cells c ty (0, 0))) (hi : (P.info? ty).map (·.size) = some c'.size) (hs : c.size = c'.size) (h1 : c'.all (·.oneCell') = true) :
    (Instr.storeAt ty (.pointer (some ⟨g, 0, none⟩)) (.agg c')).run P w = .ok () (w.setRow g c') := by
  simp only [Instr.storeAt, Instr.sureAddr, Sem.run_bind, Sem.run_pure, Result.andThen]
  exact run_storeVar_row _ _ ty ty c c' hg hi hs h1
theorem setRow_grown (w : World) (g : Nat) (c : Array Value) : w.grownBy (w.setRow g c) (some g) := ⟨rfl, rfl, rfl, by simp, fun k hk hne => setRow_other w g k _ (fun h => hne (by rw [h]))⟩
/-- a whole struct stored into a block that is known whole -/
theorem wpList_store_whole {P : Program} {ops : Array Oper} {rest : List Oper} {op : Oper} {a : Act} {w : World} {Q : Exit → Act → World → Prop} (hgd : op.guard = none) (ty : TypeId) (x y : Operand) (ho : op.op = .store ty x y)
    {g : Nat} {c : Array Value} (c' : Array Value) (hx : a.eval x = .pointer (some ⟨g, 0, none⟩)) (hy : a.eval y = .agg c') (hg : w.heap[g]? = some (.cells c ty (0, 0))) (hi : (P.info? ty).map (·.size) = some c'.size) (hs : c.size = c'.size) (h1 : c'.all (·.oneCell') = true)
    (h : ∀ w', w'.heap[g]? = some (.cells c' ty (0, 0)) → w.grownBy w' (some g) → wpList P ops Q rest (a.put op.dst undef) w') : wpList P ops Q (op :: rest) a w :=
  wpList_plain hgd fun _ hK => by
    have hrun := run_storeAt_row (P := P) (w := w) ty c' hg hi hs h1
    unfold Oper.wp execOp
    simp only [ho, hx, hy, Sem.run_bind, hrun, Result.andThen_ok]
    exact hK _ _ (h _ (setRow_heap w g c c' ty (0, 0) hg) (setRow_grown w g c'))
/-- the same as a loud operation -/
theorem runs_store_whole {P : Program} {o : Oper} {a : Act} {w : World} {R : Value → World → Prop} (ty : TypeId) (x y : Operand) (ho : o.op = .store ty x y)
    {g : Nat} {c : Array Value} (c' : Array Value) (hx : a.eval x = .pointer (some ⟨g, 0, none⟩)) (hy : a.eval y = .agg c') (hg : w.heap[g]? = some (.cells c ty (0, 0))) (hi : (P.info? ty).map (·.size) = some c'.size) (hs : c.size = c'.size) (h1 : c'.all (·.oneCell') = true)
    (h : R undef (w.setRow g c')) : runs P o a w R :=
  runs_skip (w' := w.setRow g c') (by
    have hrun := run_storeAt_row (P := P) (w := w) ty c' hg hi hs h1
    unfold execOp
    simp only [ho, hx, hy, Sem.run_bind, hrun, Result.andThen_ok]
    rfl) h
theorem kept_setRow {S : Nat → Prop} (w : World) (g : Nat) (c : Array Value) (hS : S g) : Kept S w (w.setRow g c) := Kept.of_grown (setRow_grown w g c) (fun g' hg' => by injection hg' with hg'; rw [← hg']; exact hS)
/-- a struct and a value as results -/
theorem ret_row2 {P : Program} {fn : Func} {R : Ending → World → Prop} {a : Act} {w : World} {p u : Tmp} {ty : TypeId} (h : fn.results = #[.cell p ty, .tmp u]) {g : Nat} {cs : Array Value} {x : Value} {d : TypeDesc}
    (hp : a.tmps.getD p undef = .pointer (some ⟨g, 0, none⟩)) (hx : a.tmps.getD u undef = x) (hg : w.heap[g]? = some (.cells cs ty (0, 0)))
    (hu : P.underlying ty = some d) (hd : (match d with | .struct _ | .array _ _ => true | _ => false) = true) (hi : (P.info? ty).map (·.size) = some cs.size)
    (hdf : a.defers = []) (hR : R (.returned (.tuple #[.agg cs, x])) w) : bodyPost P fn R .ret a w := by
  refine bodyPost_ret (v := .tuple #[.agg cs, x]) ?_ hdf hR
  rw [results_cell_tmp h, hp, hx]
  have hl := run_loadVar_row w g ty ty cs (0, 0) d hg hu hd hi
  simp [asAddr, hl, Result.andThen]
/-- a struct as the result -/
theorem ret_row1 {P : Program} {fn : Func} {R : Ending → World → Prop} {a : Act} {w : World} {p : Tmp} {ty : TypeId} (h : fn.results = #[.cell p ty]) {g : Nat} {cs : Array Value} {d : TypeDesc}
    (hp : a.tmps.getD p undef = .pointer (some ⟨g, 0, none⟩)) (hg : w.heap[g]? = some (.cells cs ty (0, 0)))
    (hu : P.underlying ty = some d) (hd : (match d with | .struct _ | .array _ _ => true | _ => false) = true) (hi : (P.info? ty).map (·.size) = some cs.size)
    (hdf : a.defers = []) (hR : R (.returned (.agg cs)) w) : bodyPost P fn R .ret a w :=
  bodyPost_ret (results_cell_row h a.tmps w g ty cs (0, 0) d hp hg hu hd hi) hdf hR
end Go.Proofs.YtecfkhgocjbocaaGreatDoor
