/-
  The law's full; what a disk is in memory.
-/
import Derived.Test.YtfhlidlmipleaaaDk1
import Derived.Test.YtfhlidlmipleaaaLsa5
import Derived.Laws.OwnMore
import Derived.Deep.MidRow
namespace Go.Proofs.Ytfhlidlmipleaaa
set_option linter.unusedVariables false
set_option linter.unusedSimpArgs false
open Go Go.RowKit

def fullTo (c : UInt8) (j : Nat) : List UInt8 := List.replicate j c ++ List.replicate (64 - j) 0
theorem fullTo_len (c : UInt8) (j : Nat) (h : j ≤ 64) : (fullTo c j).length = 64 := by simp [fullTo]; omega
theorem fullTo_succ (c : UInt8) (j : Nat) (h : j < 64) : (fullTo c j).set j c = fullTo c (j + 1) := by
  refine List.ext_getElem? fun i => ?_
  unfold fullTo
  rw [List.getElem?_set]
  by_cases e : j = i
  · subst e
    rw [if_pos rfl, if_pos (by simp; omega), List.getElem?_append_left (by simp), List.getElem?_replicate, if_pos (by omega)]
  · rw [if_neg e]
    by_cases h1 : i < j
    · rw [List.getElem?_append_left (by simpa using h1), List.getElem?_append_left (by simp; omega), List.getElem?_replicate, List.getElem?_replicate, if_pos h1, if_pos (by omega)]
    · rw [List.getElem?_append_right (by simp; omega), List.getElem?_append_right (by simp; omega), List.getElem?_replicate, List.getElem?_replicate]
      simp only [List.length_replicate]
      by_cases h2 : i < 64
      · rw [if_pos (by omega), if_pos (by omega)]
      · rw [if_neg (by omega), if_neg (by omega)]
def fullL (c : UInt8) : List UInt8 := List.replicate 64 c
set_option maxRecDepth 100000 in
set_option maxHeartbeats 800000 in
theorem full_any (c : UInt8) (w : World) : Calls Try.prog 25 #[.int .u8 (c.toNat : Int)] w fun e w' => ∃ g, e = .returned (.slice (some ⟨g, 0, none⟩) 64 64) ∧ w.heap.size ≤ g ∧ g < w'.heap.size ∧
      w'.ownsRow w.heap.size 5 1 (.slice (some ⟨g, 0, none⟩) 64 64) 64 (B8 (fullL c)) ∧ Below w.heap.size w w' := by
  obtain ⟨ht, _, i, z, hi, hz, hsi, hby, hzs⟩ := st_bytes
  obtain ⟨w1, hm, hown, hg⟩ := run_makeSlice_full (P := Try.prog) w w.heap.size 27 5 i z 1 ht hi hz hsi .i64 .i64 64 (by omega) (by rw [hby]; omega) (by simp [maxLen]) (Nat.le_refl _)
  have hz0 : z = .int .u8 0 := by
    have h0 : (Try.prog.info? 5).map (fun i => i.zero) = some (some (.int .u8 0)) := by kernel_rfl
    rw [hi] at h0
    simp only [Option.map_some, Option.some.injEq] at h0
    rw [hz] at h0
    injection h0
  subst hz0
  have hmc : (madeCells (Value.int .u8 0).cells (64 * 1)).toList = B8 (fullTo c 0) := by kernel_rfl
  rw [hmc] at hown
  have hb1 : Below w.heap.size w w1 := (Below.refl _ _).grown hg (Nat.le_refl _) (by intro k hk; cases hk)
  clear ht hi hz hsi hby hzs hg
  have hm' : (Instr.makeSlice 27 (.int .i64 64) (.int .i64 64)).run Try.prog w = .ok (.slice (some ⟨w.heap.size, 0, none⟩) 64 64) w1 := hm
  clear hm
  go_enter Try.func25, Try.ntmps25
  go_wp2_with fail
  go_loopw [4] (fun i wr => ∃ j : Nat, j ≤ 64 ∧ i = .int .i64 j ∧ wr.ownsRow w.heap.size 5 1 (.slice (some ⟨w.heap.size, 0, none⟩) 64 64) 64 (B8 (fullTo c j)) ∧ Below w.heap.size w wr) (fun i _ => 64 - (intOf i).toNat)
  case atStart => exact ⟨0, Nat.zero_le _, rfl, hown, hb1⟩
  case round =>
    obtain ⟨j, hj, rfl, ho, hbr⟩ := hrel
    clear hown hb1 hm'
    by_cases hlt : j < 64
    · obtain ⟨p0, p1⟩ := own_byte ho j hlt
      have ho2 := (ho.stored j (.int .u8 (c.toNat : Int))).1
      rw [B8_set, fullTo_succ c j hlt] at ho2
      have hb2 := hbr.setCell (p := ⟨w.heap.size, j, none⟩) (Nat.le_refl _) (.int .u8 (c.toNat : Int))
      go_wp2_with fail
      go_light
      exact ⟨⟨j + 1, by omega, by go_num, ho2, hb2⟩, by simp [intOf]; omega⟩
    · obtain rfl : j = 64 := by omega
      have hlt2 := (ho.lt w.heap.size rfl).2
      rw [show fullTo c 64 = fullL c by simp [fullTo, fullL]] at ho
      go_wp2_with fail
      go_ret
      exact ⟨w.heap.size, rfl, Nat.le_refl _, hlt2, ho, hbr⟩
end Go.Proofs.Ytfhlidlmipleaaa
