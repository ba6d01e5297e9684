/-
  Layer 4's rows: the table, what is found, what may be (plain); a row by value and in memory.
-/
import Derived.Test.YtecfkhgocjbocaaGreatDoorSd9
import Derived.Deep.MidRow
namespace Go.Proofs.YtecfkhgocjbocaaGreatDoor
set_option linter.unusedVariables false
set_option linter.unusedSimpArgs false
open Go Go.RowKit

structure Rw where
  head : Int
  name : List UInt8
  kind : Int
  lo : Int
  hi : Int
  cho : List (List UInt8)
  dft : List UInt8
  cls : Int
/-- no row -/
def row0 : Rw := ⟨0, [], 0, 0, 0, [], [], 0⟩
def cNormal : List UInt8 := [110, 111, 114, 109, 97, 108]
def cBroad : List UInt8 := [98, 114, 111, 97, 100, 99, 97, 115, 116]
def TAB : List Rw := [
  ⟨0, [114, 111, 117, 116, 101, 114, 45, 105, 100], 0, 0, 0, [], [], 6⟩,
  ⟨1, [99, 111, 115, 116], 2, 0, 65535, [], [49], 2⟩,
  ⟨1, [116, 121, 112, 101], 3, 0, 0, [cNormal, [115, 116, 117, 98], [110, 115, 115, 97]], cNormal, 3⟩,
  ⟨2, [97, 100, 100, 114, 101, 115, 115], 1, 0, 0, [], [], 4⟩,
  ⟨2, [97, 114, 101, 97], 0, 0, 0, [], [], 5⟩,
  ⟨2, [97, 117, 116, 104], 4, 0, 8, [], [], 3⟩,
  ⟨2, [99, 111, 115, 116], 2, 1, 65535, [], [49, 48], 2⟩,
  ⟨2, [100, 101, 97, 100], 2, 1, 65535, [], [52, 48], 3⟩,
  ⟨2, [104, 101, 108, 108, 111], 2, 1, 65535, [], [49, 48], 3⟩,
  ⟨2, [110, 101, 116, 119, 111, 114, 107], 3, 0, 0, [cBroad, [112, 111, 105, 110, 116, 45, 116, 111, 45, 112, 111, 105, 110, 116]], cBroad, 4⟩,
  ⟨2, [112, 114, 105, 111, 114, 105, 116, 121], 2, 0, 255, [], [49], 1⟩,
  ⟨2, [114, 101, 116, 114, 97, 110, 115, 109, 105, 116], 2, 1, 3600, [], [53], 0⟩]
def tabAt (i : Nat) : Rw := TAB.getD i row0
theorem tab_cho (i : Nat) : (tabAt i).cho.length ≤ 3 := by
  unfold tabAt
  match i with
  | 0 | 1 | 2 | 3 | 4 | 5 | 6 | 7 | 8 | 9 | 10 | 11 => decide
  | _ + 12 => exact Nat.zero_le _
theorem tab_kind (i : Nat) : (tabAt i).kind = 0 ∨ (tabAt i).kind = 1 ∨ (tabAt i).kind = 2 ∨ (tabAt i).kind = 3 ∨ (tabAt i).kind = 4 := by
  unfold tabAt
  match i with
  | 0 | 1 | 2 | 3 | 4 | 5 | 6 | 7 | 8 | 9 | 10 | 11 => decide
  | _ + 12 => exact .inl rfl
/-- a row by value -/
def rwL (r : Rw) (A : Option Addr) : List Value := [.int .i64 r.head, .string (S8 r.name), .int .i64 r.kind, .int .i64 r.lo, .int .i64 r.hi, .slice A r.cho.length r.cho.length, .string (S8 r.dft), .int .i64 r.cls]
abbrev rwV (r : Rw) (A : Option Addr) : Array Value := (rwL r A).toArray
/-- a row's choices in memory -/
def Cho (w : World) (r : Rw) (A : Option Addr) : Prop := Sl w 1 (.slice A r.cho.length r.cho.length) (STR r.cho)
theorem Cho.below {w w' : World} {r : Rw} {A : Option Addr} (h : Cho w r A) (hb : Below w.heap.size w w') : Cho w' r A := Sl.below h hb
theorem Cho.none (w : World) (r : Rw) (h : r.cho = []) : Cho w r .none := by
  unfold Cho
  rw [h]
  exact ⟨_, _, _, rfl, rfl, Nat.le_refl _, by decide, fun h => absurd h (by decide)⟩
/-- the table in memory -/
structure TabIn (w : World) (b : Nat) (ch : Nat → Option Addr) : Prop where
  lt : b < w.heap.size
  cell : ∀ i, i < 12 → w.rangeAt b (i * 8) (rwL (tabAt i) (ch i))
  cho : ∀ i, Cho w (tabAt i) (ch i)
theorem TabIn.below {w w' : World} {b : Nat} {ch : Nat → Option Addr} (h : TabIn w b ch) (hb : Below w.heap.size w w') : TabIn w' b ch :=
  ⟨Nat.lt_of_lt_of_le h.lt hb.size, fun i hi j v hv => (hb.cell (p := ⟨b, i * 8 + j, .none⟩) h.lt).trans (h.cell i hi j v hv), fun i => (h.cho i).below hb⟩
theorem sub_get {C cs : List Value} {o : Nat} (h : (C.drop o).take cs.length = cs) {j : Nat} {v : Value} (hj : cs[j]? = some v) : C[o + j]? = some v := by
  rw [← h] at hj
  have hlt : j < cs.length := by
    have := (List.getElem?_eq_some_iff.1 hj).1
    rw [List.length_take] at this
    omega
  rw [List.getElem?_take_of_lt hlt, List.getElem?_drop] at hj
  exact hj
theorem blkCell {w : World} {g : Nat} {cs : Array Value} {T : TypeId} (h : w.heap[g]? = some (.cells cs T (0, 0))) (i : Nat) : w.cell? ⟨g, i, .none⟩ = cs[i]? := by simp [World.cell?, h]
/-- where the choices lie -/
def chAt (g1 g2 : Nat) (i : Nat) : Option Addr := if i = 2 then some ⟨g1, 0, .none⟩ else if i = 9 then some ⟨g2, 0, .none⟩ else .none
def tabCells (g1 g2 : Nat) : List Value := (List.range 12).flatMap fun i => rwL (tabAt i) (chAt g1 g2 i)
theorem tabCells_sub (g1 g2 : Nat) (i : Nat) (hi : i < 12) : ((tabCells g1 g2).drop (i * 8)).take 8 = rwL (tabAt i) (chAt g1 g2 i) := by
  match i, hi with
  | 0, _ | 1, _ | 2, _ | 3, _ | 4, _ | 5, _ | 6, _ | 7, _ | 8, _ | 9, _ | 10, _ | 11, _ => rfl
theorem tabIn_new (w : World) (g1 g2 : Nat) (C : Array Value) (T : TypeId) (hC : C = (tabCells g1 g2).toArray) (s1 : Sl w 1 (.slice (some ⟨g1, 0, .none⟩) 3 3) (STR (tabAt 2).cho)) (s2 : Sl w 1 (.slice (some ⟨g2, 0, .none⟩) 2 2) (STR (tabAt 9).cho)) :
    TabIn (w.alloc (.cells C T)) w.heap.size (chAt g1 g2) := by
  subst hC
  refine ⟨by rw [World.alloc]; simp, fun i hi j v hv => ?_, fun i => ?_⟩
  · have h1 : (tabCells g1 g2).toArray[i * 8 + j]? = some v := by
      rw [List.getElem?_toArray]
      exact sub_get (cs := rwL (tabAt i) (chAt g1 g2 i)) (by rw [show (rwL (tabAt i) (chAt g1 g2 i)).length = 8 from rfl]; exact tabCells_sub g1 g2 i hi) hv
    rw [← h1]
    exact (blkCell (heap_alloc_new w (.cells (tabCells g1 g2).toArray T)) (i * 8 + j))
  · refine Cho.below (w := w) ?_ ((Below.refl _ _).alloc (Nat.le_refl _) _)
    unfold chAt
    by_cases h2 : i = 2
    · subst h2; exact s1
    by_cases h9 : i = 9
    · subst h9; exact s2
    rw [if_neg h2, if_neg h9]
    refine Cho.none _ _ ?_
    unfold tabAt
    match i, h2, h9 with
    | 0, _, _ | 1, _, _ | 3, _, _ | 4, _, _ | 5, _, _ | 6, _, _ | 7, _, _ | 8, _, _ | 10, _, _ | 11, _, _ => rfl
    | 2, h, _ => exact absurd rfl h
    | 9, _, h => exact absurd rfl h
    | _ + 12, _, _ => rfl
end Go.Proofs.YtecfkhgocjbocaaGreatDoor
