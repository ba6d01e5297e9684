/-
  Contracts of package schema: Table (its length); the law's reads.
-/
import Derived.Test.YtecfkhgocjbocaaGreatDoorSd8
import Derived.Test.YtecfkhgocjbocaaGreatDoorRw1
import Derived.Great.BuildSlice
namespace Go.Proofs.YtecfkhgocjbocaaGreatDoor
set_option linter.unusedVariables false
set_option linter.unusedSimpArgs false
open Go Go.RowKit

/-- a row by value -/
abbrev rowC (head : Int) (name : ByteArray) (kind lo hi : Int) (A : Option Addr) (n c : Nat) (dft : ByteArray) (class_ : Int) : Array Value :=
  #[.int .i64 head, .string name, .int .i64 kind, .int .i64 lo, .int .i64 hi, .slice A n c, .string dft, .int .i64 class_]
theorem rowC_one (head : Int) (name : ByteArray) (kind lo hi : Int) (A : Option Addr) (n c : Nat) (dft : ByteArray) (class_ : Int) : (rowC head name kind lo hi A n c dft class_).all (·.oneCell') = true := by simp [rowC, Value.oneCell']
theorem wpList_buildR {P : Program} {ops : Array Oper} {rest : List Oper} {o : Oper} {a : Act} {w : World} {Q : Exit → Act → World → Prop} (hg : o.guard = none) (t : TypeId) (parts : List (Nat × Operand)) (ho : o.op = .build t parts.toArray)
    (vals : List (Nat × Value)) (hv : parts.map (fun p => (p.1, a.eval p.2)) = vals) (cells : Array Value) (hf : P.built t vals = some cells)
    (h : wpList P ops Q rest (a.put o.dst (.agg cells)) w) : wpList P ops Q (o :: rest) a w :=
  wpList_buildTo hg t parts.toArray ho o.dst rfl cells (by
    have e : (parts.toArray.map fun ((i, x) : Nat × Operand) => (i, a.eval x)).toList = vals := by rw [Array.toList_map]; exact hv
    rw [e]; exact hf) h
theorem row_built (head : Int) (name : ByteArray) (lo hi : Int) (dft : ByteArray) (class_ : Int) : (Tryz.prog).built 93 [(0, .int .i64 head), (1, .string name), (2, .int .i64 2), (3, .int .i64 lo), (4, .int .i64 hi), (6, .string dft), (7, .int .i64 class_)] = some (rowC head name 2 lo hi none 0 0 dft class_) := by kernel_rfl
set_option maxRecDepth 100000 in
set_option maxHeartbeats 800000 in
theorem number_any (head : Int) (name : ByteArray) (lo hi : Int) (dft : ByteArray) (class_ : Int) (w : World) : Calls Tryz.prog 122 #[.int .i64 head, .string name, .int .i64 lo, .int .i64 hi, .string dft, .int .i64 class_] w fun e w' => e = .returned (.agg (rowC head name 2 lo hi none 0 0 dft class_)) ∧ Below w.heap.size w w' := by
  have HB := hid (row_built head name lo hi dft class_)
  have hb0 := (Below.refl w.heap.size w).alloc (Nat.le_refl _) (.cells (rowC 0 ⟨#[]⟩ 0 0 0 none 0 0 ⟨#[]⟩ 0) 93)
  have hg0 := heap_alloc_new w (.cells (rowC 0 ⟨#[]⟩ 0 0 0 none 0 0 ⟨#[]⟩ 0) 93)
  go_enter Tryz.func122, Tryz.ntmps122
  go_upto_region 1 with fail
  generalize w.alloc (.cells (rowC 0 ⟨#[]⟩ 0 0 0 none 0 0 ⟨#[]⟩ 0) 93) = w0 at *
  go_wp2_with (first | refine wpList_buildR rfl 93 [(0, .tmp 13), (1, .tmp 14), (2, .const (.int .i64 2)), (3, .tmp 15), (4, .tmp 16), (6, .tmp 17), (7, .tmp 18)] rfl [(0, .int .i64 head), (1, .string name), (2, .int .i64 2), (3, .int .i64 lo), (4, .int .i64 hi), (6, .string dft), (7, .int .i64 class_)] rfl _ HB.out ?_ | refine wpList_store_whole rfl 93 (.tmp 12) (.tmp 19) rfl (rowC head name 2 lo hi none 0 0 dft class_) rfl rfl hg0 (by kernel_rfl) rfl (rowC_one _ _ _ _ _ _ _ _ _ _) ?_)
  intro wz hgz hgrz
  have hbz := hb0.trans ((Below.refl w.heap.size w0).grown hgrz hb0.size (by intro k hk; injection hk with hk; omega))
  go_wp2_with fail
  exact ret_row1 (fn := Tryz.f122) (cs := rowC head name 2 lo hi none 0 0 dft class_) rfl rfl hgz Tryz.underlying93 rfl (by kernel_rfl) rfl ⟨rfl, hbz⟩
/-- '[]T{..}' of structs, in one step -/
theorem wpList_buildSliceR {P : Program} {ops : Array Oper} {rest : List Oper} {o : Oper} {a : Act} {w : World} {Q : Exit → Act → World → Prop} (hg : o.guard = none) (t e : TypeId) (len : Nat) (parts : List (Nat × Operand)) (ho : o.op = .buildSlice t len parts.toArray)
    (vals : List (Nat × Value)) (hv : parts.map (fun p => (p.1, a.eval p.2)) = vals) (cells : Array Value) (ie : TypeInfo) (z : Value) (hu : P.underlying t = some (.slice e)) (hie : P.info? e = some ie) (hz : ie.zero = some z) (hsmall : ¬ len * ie.size > 2 ^ 24) (hpos : ¬ len * ie.size = 0)
    (hf : Instr.fill (fun i => some (i * ie.size, ie.size)) ((Array.range (len * ie.size)).map (z.cells[· % z.cells.size]!)) vals = some cells)
    (h : wpList P ops Q rest (a.put o.dst (.slice (some ⟨w.heap.size, 0, none⟩) len len)) (w.alloc (.cells cells e))) : wpList P ops Q (o :: rest) a w :=
  wpList_buildSlice hg t e len parts.toArray ho cells ie z hu hie hz hsmall hpos (by
    have e' : (parts.toArray.map fun ((i, x) : Nat × Operand) => (i, a.eval x)).toList = vals := by rw [Array.toList_map]; exact hv
    rw [e']; exact hf) h
end Go.Proofs.YtecfkhgocjbocaaGreatDoor
