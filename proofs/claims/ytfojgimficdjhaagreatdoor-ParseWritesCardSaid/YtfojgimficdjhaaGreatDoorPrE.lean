/-
  Two lines, two commands, compared by value.
-/
import Derived.Test.YtfojgimficdjhaaGreatDoorPrA
import Derived.Laws.StructEq
namespace Go.Proofs.YtfojgimficdjhaaGreatDoor
set_option linter.unusedVariables false
set_option linter.unusedSimpArgs false
open Go Go.RowKit

theorem eqF_one {P : Program} {d : Nat} {xs ys : Array Value} {f : Field} {fs : List Field} {w : World} {x y : Value} {b c : Bool} (hn : f.name ≠ "_") (ha : (isAgg f.type).run P w = .ok false w) (hx : xs[f.offset]? = some x) (hy : ys[f.offset]? = some y)
    (he : (Op.equalIn d f.type x y).run P w = .ok b w) (hr : (Op.eqFields d xs ys fs).run P w = .ok c w) : (Op.eqFields d xs ys (f :: fs)).run P w = .ok (b && c) w := by
  have p1 : (part f.type xs f.offset).run P w = .ok x w := by
    unfold part
    simp only [Sem.run_bind, ha, Result.andThen_ok, Bool.false_eq_true, if_false, hx, Sem.run_pure]
  have p2 : (part f.type ys f.offset).run P w = .ok y w := by
    unfold part
    simp only [Sem.run_bind, ha, Result.andThen_ok, Bool.false_eq_true, if_false, hy, Sem.run_pure]
  unfold Op.eqFields
  rw [if_pos hn]
  simp only [Sem.run_bind, p1, p2, he, Result.andThen_ok]
  cases b with
  | true => simpa using hr
  | false => simp
theorem eqF_agg {P : Program} {d : Nat} {xs ys : Array Value} {f : Field} {fs : List Field} {w : World} {n : Nat} {x y : Array Value} {b c : Bool} (hn : f.name ≠ "_") (ha : (isAgg f.type).run P w = .ok true w) (hz : (sizeOf f.type).run P w = .ok n w) (hx : xs.extract f.offset (f.offset + n) = x) (hy : ys.extract f.offset (f.offset + n) = y)
    (he : (Op.equalIn d f.type (.agg x) (.agg y)).run P w = .ok b w) (hr : (Op.eqFields d xs ys fs).run P w = .ok c w) : (Op.eqFields d xs ys (f :: fs)).run P w = .ok (b && c) w := by
  have p1 : (part f.type xs f.offset).run P w = .ok (.agg x) w := by
    unfold part
    simp only [Sem.run_bind, ha, Result.andThen_ok, if_true, hz, Sem.run_pure, hx]
  have p2 : (part f.type ys f.offset).run P w = .ok (.agg y) w := by
    unfold part
    simp only [Sem.run_bind, ha, Result.andThen_ok, if_true, hz, Sem.run_pure, hy]
  unfold Op.eqFields
  rw [if_pos hn]
  simp only [Sem.run_bind, p1, p2, he, Result.andThen_ok]
  cases b with
  | true => simpa using hr
  | false => simp
def lnB (l m : Ln) : Bool := l.head == m.head && ((S8 l.name).toList == (S8 m.name).toList && ((S8 l.leaf).toList == (S8 m.leaf).toList && ((S8 l.value).toList == (S8 m.value).toList && true)))
def cmB (c d : Cmd) : Bool := c.what == d.what && (lnB c.line d.line && (c.n == d.n && true))
theorem s8_inj (a b : List UInt8) : ((S8 a).toList == (S8 b).toList) = true ↔ a = b := by
  have h1 : (S8 a).toList = a := Lib.toList_data _
  have h2 : (S8 b).toList = b := Lib.toList_data _
  rw [h1, h2, beq_iff_eq]
theorem lnB_iff (l m : Ln) : lnB l m = true ↔ l = m := by
  obtain ⟨a1, a2, a3, a4⟩ := l
  obtain ⟨b1, b2, b3, b4⟩ := m
  unfold lnB
  simp only [Bool.and_eq_true, beq_iff_eq, and_true, Ln.mk.injEq]
  rw [← s8_inj a2 b2, ← s8_inj a3 b3, ← s8_inj a4 b4]
  simp only [beq_iff_eq]
theorem cmB_iff (c d : Cmd) : cmB c d = true ↔ c = d := by
  obtain ⟨a1, a2, a3⟩ := c
  obtain ⟨b1, b2, b3⟩ := d
  unfold cmB
  simp only [Bool.and_eq_true, beq_iff_eq, and_true, Cmd.mk.injEq, lnB_iff]
theorem eqLn (d : Nat) (l m : Ln) (w : World) : (Op.equalIn (d + 2) 23 (.agg (lnV l)) (.agg (lnV m))).run Tryz.prog w = .ok (lnB l m) w := by
  rw [run_equalIn_struct w (d + 1) 23 _ _ (by kernel_rfl) (by kernel_rfl)]
  have hf : (Tryz.prog.fieldsOf 23).toList = [⟨"Head", 3, 0, false, "", "", 0⟩, ⟨"Name", 9, 1, false, "", "", 8⟩, ⟨"Leaf", 9, 2, false, "", "", 24⟩, ⟨"Value", 9, 3, false, "", "", 40⟩] := by kernel_rfl
  rw [hf]
  refine eqF_one (by decide) (Tryz.isAgg3 _) rfl rfl (run_equalIn_int w _ _ _ _ _ _ Tryz.underlying3) ?_
  refine eqF_one (by decide) (Tryz.isAgg9 _) rfl rfl (run_equalIn_string w _ _ _ _ Tryz.underlying9) ?_
  refine eqF_one (by decide) (Tryz.isAgg9 _) rfl rfl (run_equalIn_string w _ _ _ _ Tryz.underlying9) ?_
  refine eqF_one (by decide) (Tryz.isAgg9 _) rfl rfl (run_equalIn_string w _ _ _ _ Tryz.underlying9) ?_
  rfl
theorem eqCm (d : Nat) (c e : Cmd) (w : World) : (Op.equalIn (d + 3) 25 (.agg (cmV c)) (.agg (cmV e))).run Tryz.prog w = .ok (cmB c e) w := by
  rw [run_equalIn_struct w (d + 2) 25 _ _ (by kernel_rfl) (by kernel_rfl)]
  have hf : (Tryz.prog.fieldsOf 25).toList = [⟨"What", 3, 0, false, "", "", 0⟩, ⟨"Line", 23, 1, false, "", "", 8⟩, ⟨"N", 3, 5, false, "", "", 64⟩] := by kernel_rfl
  rw [hf]
  refine eqF_one (by decide) (Tryz.isAgg3 _) rfl rfl (run_equalIn_int w _ _ _ _ _ _ Tryz.underlying3) ?_
  refine eqF_agg (n := 4) (by decide) (by kernel_rfl) (by kernel_rfl) rfl rfl (eqLn d c.line e.line w) ?_
  refine eqF_one (by decide) (Tryz.isAgg3 _) rfl rfl (run_equalIn_int w _ _ _ _ _ _ Tryz.underlying3) ?_
  rfl

set_option maxRecDepth 100000 in
theorem eqlCm (c e : Cmd) (w : World) : (binOp .eql 25 (.agg (cmV c)) (.agg (cmV e))).run Tryz.prog w = .ok (.bool (cmB c e)) w := by
  rw [run_eql_struct, show (10000 : Nat) = 9997 + 3 by decide, eqCm 9997]
  rfl
set_option maxRecDepth 100000 in
theorem neqCm (c e : Cmd) (w : World) : (binOp .neq 25 (.agg (cmV c)) (.agg (cmV e))).run Tryz.prog w = .ok (.bool (!cmB c e)) w := by
  rw [run_neq_struct, show (10000 : Nat) = 9997 + 3 by decide, eqCm 9997]
  rfl
theorem eqLnR (d : Nat) (l m : Ln) (w : World) : (Op.equalIn (d + 2) 29 (.agg (lnV l)) (.agg (lnV m))).run Tryz.prog w = .ok (lnB l m) w := by
  rw [run_equalIn_struct w (d + 1) 29 _ _ (by kernel_rfl) (by kernel_rfl)]
  have hf : (Tryz.prog.fieldsOf 29).toList = [⟨"Head", 3, 0, false, "", "", 0⟩, ⟨"Name", 9, 1, false, "", "", 8⟩, ⟨"Leaf", 9, 2, false, "", "", 24⟩, ⟨"Value", 9, 3, false, "", "", 40⟩] := by kernel_rfl
  rw [hf]
  refine eqF_one (by decide) (Tryz.isAgg3 _) rfl rfl (run_equalIn_int w _ _ _ _ _ _ Tryz.underlying3) ?_
  refine eqF_one (by decide) (Tryz.isAgg9 _) rfl rfl (run_equalIn_string w _ _ _ _ Tryz.underlying9) ?_
  refine eqF_one (by decide) (Tryz.isAgg9 _) rfl rfl (run_equalIn_string w _ _ _ _ Tryz.underlying9) ?_
  refine eqF_one (by decide) (Tryz.isAgg9 _) rfl rfl (run_equalIn_string w _ _ _ _ Tryz.underlying9) ?_
  rfl
theorem eqCmR (d : Nat) (c e : Cmd) (w : World) : (Op.equalIn (d + 3) 31 (.agg (cmV c)) (.agg (cmV e))).run Tryz.prog w = .ok (cmB c e) w := by
  rw [run_equalIn_struct w (d + 2) 31 _ _ (by kernel_rfl) (by kernel_rfl)]
  have hf : (Tryz.prog.fieldsOf 31).toList = [⟨"What", 3, 0, false, "", "", 0⟩, ⟨"Line", 29, 1, false, "", "", 8⟩, ⟨"N", 3, 5, false, "", "", 64⟩] := by kernel_rfl
  rw [hf]
  refine eqF_one (by decide) (Tryz.isAgg3 _) rfl rfl (run_equalIn_int w _ _ _ _ _ _ Tryz.underlying3) ?_
  refine eqF_agg (n := 4) (by decide) (by kernel_rfl) (by kernel_rfl) rfl rfl (eqLnR d c.line e.line w) ?_
  refine eqF_one (by decide) (Tryz.isAgg3 _) rfl rfl (run_equalIn_int w _ _ _ _ _ _ Tryz.underlying3) ?_
  rfl

set_option maxRecDepth 100000 in
theorem eqlCmR (c e : Cmd) (w : World) : (binOp .eql 31 (.agg (cmV c)) (.agg (cmV e))).run Tryz.prog w = .ok (.bool (cmB c e)) w := by
  rw [run_eql_struct, show (10000 : Nat) = 9997 + 3 by decide, eqCmR 9997]
  rfl
set_option maxRecDepth 100000 in
theorem neqCmR (c e : Cmd) (w : World) : (binOp .neq 31 (.agg (cmV c)) (.agg (cmV e))).run Tryz.prog w = .ok (.bool (!cmB c e)) w := by
  rw [run_neq_struct, show (10000 : Nat) = 9997 + 3 by decide, eqCmR 9997]
  rfl
theorem cmB_same (c : Cmd) : cmB c c = true := (cmB_iff c c).2 rfl
theorem eqlCm_same (c : Cmd) (w : World) : (binOp .eql 25 (.agg (cmV c)) (.agg (cmV c))).run Tryz.prog w = .ok (.bool true) w := by
  have := eqlCm c c w
  rw [cmB_same] at this
  exact this
theorem eqlCmR_same (c : Cmd) (w : World) : (binOp .eql 31 (.agg (cmV c)) (.agg (cmV c))).run Tryz.prog w = .ok (.bool true) w := by
  have := eqlCmR c c w
  rw [cmB_same] at this
  exact this
theorem guardCm : (Tryz.prog).eqGuardType (Tryz.prog).depth 25 = false := by kernel_rfl
theorem guardCmR : (Tryz.prog).eqGuardType (Tryz.prog).depth 31 = false := by kernel_rfl
/-- a comparison of two structs, as an operation -/
theorem exec_cmp {P : Program} {o : Oper} {a : Act} {w : World} {op : BinOp} {t t2 : TypeId} {x y : Operand} {xs ys : Array Value} {v : Value} (ho : o.op = .binOp op t x y t2) (hx : a.eval x = .agg xs) (hy : a.eval y = .agg ys) (hm : P.eqGuardType P.depth t = false)
    (hr : (binOp op t (.agg xs) (.agg ys)).run P w = .ok v w) : (execOp a.eval o).run P w = .ok (.value v) w := by
  unfold execOp
  simp only [ho, hx, hy, Sem.run_bind, run_eqGuard_agg w op t x y xs ys hm, hr, Result.andThen_ok]
  rfl
theorem runs_cmp {P : Program} {o : Oper} {a : Act} {w : World} {R : Value → World → Prop} {op : BinOp} {t t2 : TypeId} {x y : Operand} {xs ys : Array Value} {v : Value} (ho : o.op = .binOp op t x y t2) (hx : a.eval x = .agg xs) (hy : a.eval y = .agg ys) (hm : P.eqGuardType P.depth t = false)
    (hr : (binOp op t (.agg xs) (.agg ys)).run P w = .ok v w) (h : R v w) : runs P o a w R := runs_value (exec_cmp ho hx hy hm hr) h
/-- the same outside of a region that draws, guarded or not -/
theorem wpList_cmp {P : Program} {ops : Array Oper} {rest : List Oper} {o : Oper} {a : Act} {w : World} {Q : Exit → Act → World → Prop} (hw : Region.wanted o (yielded ops a.tmps) = true) {op : BinOp} {t t2 : TypeId} {x y : Operand} {xs ys : Array Value} {v : Value} (ho : o.op = .binOp op t x y t2) (hx : a.eval x = .agg xs) (hy : a.eval y = .agg ys) (hm : P.eqGuardType P.depth t = false)
    (hr : (binOp op t (.agg xs) (.agg ys)).run P w = .ok v w) (h : wpList P ops Q rest (a.put o.dst v) w) : wpList P ops Q (o :: rest) a w :=
  wpList_step fun K hK => by
    simp only [hw, if_true]
    unfold Oper.wp
    rw [exec_cmp ho hx hy hm hr]
    exact hK _ _ h
end Go.Proofs.YtfojgimficdjhaaGreatDoor
