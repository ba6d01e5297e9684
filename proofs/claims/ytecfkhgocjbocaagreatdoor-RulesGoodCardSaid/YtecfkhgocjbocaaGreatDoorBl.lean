/-
  A text's bytes; rows of texts.
-/
import Derived.Test.YtecfkhgocjbocaaGreatDoorProg
import Derived.Test.YtecfkhgocjbocaaGreatDoorBase
import Derived.Lib.CutLaws
namespace Go.Proofs.YtecfkhgocjbocaaGreatDoor
set_option linter.unusedVariables false
set_option linter.unusedSimpArgs false
open Go Go.RowKit

/-- a text's bytes -/
abbrev bl (s : ByteArray) : List UInt8 := s.data.toList
theorem bl_len (s : ByteArray) : (bl s).length = s.size := (Lib.size_eq s).symm
theorem bl_get (s : ByteArray) (k : Nat) (h : k < s.size) : Hid (s[k] = (bl s).getD k 0) := by
  show _ = _
  have : k < (bl s).length := by rw [bl_len]; exact h
  rw [List.getD_eq_getElem?_getD, List.getElem?_eq_getElem this]
  rfl
theorem bl_ext (s : ByteArray) (a b : Nat) : bl (s.extract a b) = ((bl s).drop a).take (b - a) := Lib.extract_data s a b
theorem bl_mk (l : List UInt8) : bl ⟨l.toArray⟩ = l := rfl
def STR (l : List (List UInt8)) : List Value := l.map fun x => Value.string ⟨x.toArray⟩
theorem STR_one (l : List (List UInt8)) : ∀ u ∈ STR l, u.oneCell' = true := by
  intro u hu
  obtain ⟨c, _, rfl⟩ := List.mem_map.1 hu
  rfl
theorem bl_eq (s : ByteArray) : s = ⟨(bl s).toArray⟩ := (Lib.mk_data s).symm
theorem st_strs : ST Tryz.prog 33 9 1 16 := .mk Tryz.underlying33 (z := .string ⟨#[]⟩) (by kernel_rfl) rfl (by omega)
theorem STR_length (l : List (List UInt8)) : (STR l).length = l.length := by simp [STR]
theorem STR_append (l r : List (List UInt8)) : STR (l ++ r) = STR l ++ STR r := by simp [STR]
theorem bl_S8 (l : List UInt8) : bl (S8 l) = l := rfl
theorem S8_bl (s : ByteArray) : s = S8 (bl s) := bl_eq s
theorem S8_add (a b : List UInt8) : S8 a ++ S8 b = S8 (a ++ b) := by
  rw [S8_bl (S8 a ++ S8 b)]
  congr 1
theorem S8_size (l : List UInt8) : (S8 l).size = l.length := by rw [← bl_len]; rfl
theorem STR_cell {w : World} {A : Option Addr} {n c : Nat} {l : List (List UInt8)} (h : Sl w 1 (.slice A n c) (STR l)) {k : Nat} (hk : k < n) : ∃ b off, A = some ⟨b, off, none⟩ ∧ b < w.heap.size ∧ w.cell? ⟨b, off + k, none⟩ = some (.string (S8 (l.getD k []))) := by
  obtain ⟨A', n', c', he, hl, hnc, hcm, hr⟩ := h
  injection he with e1 e2 e3
  subst e1; subst e2; subst e3
  obtain ⟨b, off, rfl, hlt, hc⟩ := hr (by omega)
  refine ⟨b, off, rfl, hlt, (hc k (by omega)).trans ?_⟩
  rw [STR_length, Nat.mul_one] at hl
  unfold STR
  rw [List.getElem?_map, List.getD_eq_getElem?_getD, List.getElem?_eq_getElem (by omega)]
  rfl
end Go.Proofs.YtecfkhgocjbocaaGreatDoor
