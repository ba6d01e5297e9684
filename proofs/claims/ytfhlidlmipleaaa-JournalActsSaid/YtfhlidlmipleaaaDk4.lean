/-
  Contracts of disk: New, clear, keep.
-/
import Derived.Test.YtfhlidlmipleaaaDk3
namespace Go.Proofs.Ytfhlidlmipleaaa
set_option linter.unusedVariables false
set_option linter.unusedSimpArgs false
open Go Go.RowKit

def zero64 : List UInt8 := List.replicate 64 0
theorem st_secs : ST Try.prog 140 146 64 64 := .mk Try.underlying140 (z := secV zero64) (by kernel_rfl) rfl (by omega)
theorem B8_zero (n : Nat) : B8 (List.replicate n 0) = List.replicate n (.int .u8 0) := by simp [B8]
theorem SEC_zero (n : Nat) : SEC (List.replicate n zero64) = List.replicate (n * 64) (.int .u8 0) := by
  induction n with
  | zero => rfl
  | succ n ih =>
    unfold SEC at ih ⊢
    rw [List.replicate_succ, List.flatMap_cons, ih]
    unfold zero64
    rw [B8_zero, List.replicate_append_replicate]
    congr 1
    omega
theorem rep_get (k j : Nat) (v : Value) (h : j < k) : (List.replicate k v).toArray[j]! = v := by simp [h]
theorem made_zero (m : Nat) : (madeCells (secV zero64).cells m).toList = List.replicate m (.int .u8 0) := by
  refine List.ext_getElem? fun i => ?_
  have hz : ∀ j, j < 64 → (secV zero64).cells[j]! = .int .u8 0 := by
    intro j hj
    unfold secV zero64
    rw [B8_zero]
    exact rep_get 64 j _ hj
  have hs : (secV zero64).cells.size = 64 := by unfold secV zero64; rw [B8_zero]; simp [Value.cells]
  unfold madeCells
  rw [List.getElem?_replicate]
  by_cases h : i < m
  · rw [if_pos h]
    simp only [Array.toList_map, List.getElem?_map, Array.toList_range, List.getElem?_range h, Option.map_some]
    rw [hs, hz _ (Nat.mod_lt _ (by omega))]
  · rw [if_neg h]
    simp [Nat.le_of_not_lt h]
theorem SEC_length (l : List (List UInt8)) (h : ∀ s ∈ l, s.length = 64) : (SEC l).length = l.length * 64 := by
  unfold SEC
  induction l with
  | nil => rfl
  | cons x l ih =>
    rw [List.flatMap_cons, List.length_append, ih (fun s hs => h s (List.mem_cons_of_mem _ hs)), B8_length, h x (List.mem_cons_self ..)]
    simp; omega
def newD (n : Nat) : Dk := ⟨List.replicate n zero64, [], [], false, -1⟩
theorem mkMapD (w : World) : (Instr.makeMap 141 none).run Try.prog w = .ok (.map (some w.heap.size)) (w.alloc (.map #[] 0)) := by
  simp [Instr.makeMap, run_underlying Try.underlying141, go_sem]
set_option maxRecDepth 100000 in
set_option maxHeartbeats 800000 in
theorem newDisk_any (n : Nat) (w : World) (h1 : 1 ≤ n) (h2 : n ≤ 1024) :
    Calls Try.prog 22 #[.int .i64 n] w fun e w' => ∃ d gs cs r, e = .returned (.tuple #[.pointer (some ⟨d, 0, none⟩), .int .i64 0]) ∧ DkAt w.heap.size w' (newD n) d gs cs r none 0 ∧ d < w'.heap.size ∧ Below w.heap.size w w' := by
  obtain ⟨ht, _, i, z, hi, hz, hsi, hby, hzs⟩ := st_secs
  have hz0 : z = secV zero64 := by
    have h0 : (Try.prog.info? 146).map (fun i => i.zero) = some (some (secV zero64)) := by kernel_rfl
    rw [hi] at h0
    simp only [Option.map_some, Option.some.injEq] at h0
    rw [hz] at h0
    injection h0
  obtain ⟨w1, hm, hown, hg⟩ := run_makeSlice_full (P := Try.prog) w w.heap.size 140 146 i z 64 ht hi hz hsi .i64 .i64 n (by omega) (by rw [hby]; omega) (by simp [maxLen]; omega) (Nat.le_refl _)
  subst hz0
  rw [made_zero, ← SEC_zero] at hown
  have hb1 : Below w.heap.size w w1 := (Below.refl _ _).grown hg (Nat.le_refl _) (by intro k hk; cases hk)
  have hlt := (hown.lt w.heap.size rfl).2
  clear ht hi hz hsi hby hzs hg
  have hmm := mkMapD w1
  have hD : DkAt w.heap.size ((w1.alloc (.map #[] 0)).alloc (.cells (dkC (newD n) w.heap.size n w1.heap.size none 0) 143)) (newD n) (w1.heap.size + 1) w.heap.size n w1.heap.size none 0 := by
    refine ⟨heap_alloc_new' _ _ _ (by simp), ?_, ⟨#[], 0, blk_alloc (heap_alloc_new w1 _) _, rfl⟩, own_nilE _ _ _ _, by omega, by omega, by omega, by simp [Value.ownBlock], by simp [Value.ownBlock], by simp [Value.ownBlock], by have := hb1.size; omega, hb1.size, ?_, by simp [newD], by simp [newD]⟩
    · have := (hown.alloc (.map #[] 0)).alloc (.cells (dkC (newD n) w.heap.size n w1.heap.size none 0) 143)
      simpa [newD] using this
    · intro s hs
      simp only [newD, List.mem_replicate] at hs
      rw [hs.2]
      simp [zero64]
  have hbw := (hb1.alloc hb1.size (.map #[] 0)).alloc (by simp; have := hb1.size; omega) (.cells (dkC (newD n) w.heap.size n w1.heap.size none 0) 143)
  have hnl : (newD n).stay.length = n := by simp [newD]
  have hC : dkC (newD n) w.heap.size n w1.heap.size none 0 = #[.slice (some ⟨w.heap.size, 0, none⟩) n n, .map (some w1.heap.size), .slice none 0 0, .bool false, .int .i64 (-1)] := by unfold dkC; rw [hnl]; rfl
  rw [hC] at hD hbw
  clear hown hb1 hC hnl
  go_enter Try.func22, Try.ntmps22
  go_wp2_with fail
  refine bodyPost_ret (v := .tuple #[.pointer (some ⟨w1.heap.size + 1, 0, none⟩), .int .i64 0]) (by simp [results, Try.results22, go_sem]) rfl ⟨w1.heap.size + 1, w.heap.size, n, w1.heap.size, rfl, hD, by simp, hbw⟩
end Go.Proofs.Ytfhlidlmipleaaa
