/-
  The shelf's contract of a Builder's WriteString laid at this program; a Builder's words.
-/
import Derived.Test.YtecfkhgocjbocaaGreatDoorSh3
import Derived.Test.YtecfkhgocjbocaaGreatDoorBl
namespace Go.Proofs.YtecfkhgocjbocaaGreatDoor
set_option linter.unusedVariables false
set_option linter.unusedSimpArgs false
open Go Go.RowKit Go.Shelf

def Tryz.lays166_ren : Go.Shelf.Ren := ⟨fun | 166 => 61 | 240 => 92 | 276 => 123 | n => n, fun | 0 => 0 | 3 => 3 | 4 => 4 | 9 => 9 | 20 => 20 | 37 => 38 | 70 => 105 | 72 => 107 | 75 => 109 | 164 => 169 | 5 => 5 | 80 => 113 | n => n, fun n => n⟩
theorem Tryz.lays166 : Lays.n166 Tryz.prog Tryz.lays166_ren :=
  { mixed := by kernel_rfl
    f166 := Tryz.func61.trans (congrArg some (by kernel_rfl))
    f240 := Tryz.func92.trans (congrArg some (by kernel_rfl))
    f276 := Tryz.func123.trans (congrArg some (by kernel_rfl))
    t0 := Tryz.underlying0
    a0 := Tryz.isAgg0
    z0 := Tryz.sizeOf0
    v0 := Tryz.zeroValue0
    t3 := Tryz.underlying3
    a3 := Tryz.isAgg3
    z3 := Tryz.sizeOf3
    v3 := Tryz.zeroValue3
    t4 := Tryz.underlying4
    a4 := Tryz.isAgg4
    z4 := Tryz.sizeOf4
    v4 := Tryz.zeroValue4
    t9 := Tryz.underlying9
    a9 := Tryz.isAgg9
    z9 := Tryz.sizeOf9
    v9 := Tryz.zeroValue9
    t20 := Tryz.underlying20
    a20 := Tryz.isAgg20
    z20 := Tryz.sizeOf20
    v20 := Tryz.zeroValue20
    t37 := Tryz.underlying38
    a37 := Tryz.isAgg38
    z37 := Tryz.sizeOf38
    v37 := Tryz.zeroValue38
    t70 := Tryz.underlying105
    a70 := Tryz.isAgg105
    z70 := Tryz.sizeOf105
    v70 := Tryz.zeroValue105
    t72 := Tryz.underlying107
    a72 := Tryz.isAgg107
    z72 := Tryz.sizeOf107
    v72 := Tryz.zeroValue107
    t75 := Tryz.underlying109
    a75 := Tryz.isAgg109
    z75 := Tryz.sizeOf109
    v75 := Tryz.zeroValue109
    t164 := Tryz.underlying169
    a164 := Tryz.isAgg169
    z164 := Tryz.sizeOf169
    v164 := Tryz.zeroValue169 }
theorem builder_x166 : Builder.Extra Tryz.prog Tryz.lays166_ren where
  sizeBuilder := by kernel_rfl
  liesBuilder := by kernel_rfl
  t5 := Tryz.underlying5
  a5 := Tryz.isAgg5
  z5 := Tryz.sizeOf5
  v5 := Tryz.zeroValue5
  infoByte := by kernel_rfl
  cellsByte := by kernel_rfl
  sizeByte := by kernel_rfl
  neB5 := by decide
theorem builder_x169 : Builder.Extra Tryz.prog Tryz.lays169_ren where
  sizeBuilder := by kernel_rfl
  liesBuilder := by kernel_rfl
  t5 := Tryz.underlying5
  a5 := Tryz.isAgg5
  z5 := Tryz.sizeOf5
  v5 := Tryz.zeroValue5
  infoByte := by kernel_rfl
  cellsByte := by kernel_rfl
  sizeByte := by kernel_rfl
  neB5 := by decide
/-- a Builder of the call's own that holds these bytes -/
def IsB (B b : Nat) (l : List UInt8) (w : World) : Prop := Lib.IsBuilderF 107 5 B b (Lib.byteCells l) w
/-- all blocks but the Builder's own, and but rows of bytes -/
abbrev KeptB (b : Nat) (w w' : World) : Prop := Lib.OthersKept 5 (some b) w w'
theorem writeString_any (B b : Nat) (l r : List UInt8) (w : World) (h : IsB B b l w) (hl : l.length + r.length ≤ 140737488355328) (hB : B ≤ w.heap.size) :
    Calls Tryz.prog 61 #[.pointer (some ⟨b, 0, none⟩), .string (S8 r)] w fun e w' => e = .returned (.tuple #[.int .i64 (r.length : Nat), .nilIface]) ∧ IsB B b (l ++ r) w' ∧ Below B w w' ∧ KeptB b w w' := by
  refine (Any.Builder_WriteString_k Tryz.lays166 builder_x166 B b (Lib.byteCells l) (S8 r) w h (by simp only [Lib.byteCells, List.length_map, S8_size]; omega) hB).mono ?_
  rintro e w' ⟨rfl, h1, h2, h3⟩
  refine ⟨by rw [S8_size], .inr ?_, h2, h3⟩
  have e1 : Lib.byteCells l ++ Lib.strCells (S8 r) = Lib.byteCells (l ++ r) := by
    show _ = List.map _ _
    rw [List.map_append]
    rfl
  rw [e1] at h1
  exact h1
theorem builderString_any (B b : Nat) (l : List UInt8) (w : World) (h : IsB B b l w) (hB : B ≤ w.heap.size) :
    Calls Tryz.prog 63 #[.pointer (some ⟨b, 0, none⟩)] w fun e w' => e = .returned (.string (S8 l)) ∧ Below B w w' :=
  (Any.Builder_String_any_k Tryz.lays169 builder_x169 B b l w h hB).mono fun e w' ⟨h1, _, h2, _⟩ => ⟨h1, h2⟩
theorem isB_new (w : World) : IsB w.heap.size w.heap.size [] (w.alloc (.cells #[.pointer none, .slice none 0 0] 107)) := .of (Lib.fresh_isBuilder _ _ w)
theorem isB_below {B b : Nat} {l : List UInt8} {w w' : World} (h : IsB B b l w) (hb : Below w.heap.size w w') : IsB B b l w' := by
  have key : ∀ p, Lib.BuilderAtF 107 5 B b p (Lib.byteCells l) w → Lib.BuilderAtF 107 5 B b p (Lib.byteCells l) w' := by
    rintro p ⟨h1, v, h2, h3, h4⟩
    exact ⟨h1, v, (hb.block b (Array.getElem?_eq_some_iff.1 h2).1).trans h2, h3.kept (below_grown hb none) (by cases hv : v.ownBlock <;> simp), h4⟩
  exact h.elim (fun x => .inl (key _ x)) (fun x => .inr (key _ x))
end Go.Proofs.YtecfkhgocjbocaaGreatDoor
