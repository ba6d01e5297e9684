/-
  Right of kind 3 (choices); Right of all rows of the table.
-/
import Derived.Test.YtecfkhgocjbocaaGreatDoorSrC
namespace Go.Proofs.YtecfkhgocjbocaaGreatDoor
set_option linter.unusedVariables false
set_option linter.unusedSimpArgs false
open Go Go.RowKit

theorem contS (cho : List (List UInt8)) (s : ByteArray) : Lib.containsS (cho.map S8) s = cho.contains (bl s) := by
  rw [Bool.eq_iff_iff, Lib.containsS_iff, List.contains_iff_mem, List.mem_map]
  constructor
  · rintro ⟨x, hx, he⟩
    rw [← he, bl_S8]
    exact hx
  · intro h
    exact ⟨_, h, (S8_bl s).symm⟩
theorem contains_any (A : Option Addr) (cho : List (List UInt8)) (s : ByteArray) (w : World) (h : Sl w 1 (.slice A cho.length cho.length) (STR cho)) (hl : cho.length ≤ 1000) : Calls Tryz.prog 120 #[.slice A cho.length cho.length, .string s] w fun e w' => e = .returned (.bool (cho.contains (bl s))) ∧ w' = w := by
  by_cases h0 : 0 < cho.length
  · obtain ⟨b, off, rfl, hbl, _⟩ := STR_cell h (k := 0) h0
    have := Any.slices_Contains_string Tryz.lays110 b off cho.length cho.length (cho.map S8) s w (by rw [List.length_map]; exact Nat.le_refl _) (by omega) (fun j hj => by
      rw [List.length_map] at hj
      obtain ⟨_, _, e1, _, p⟩ := STR_cell h hj
      injection e1 with e1
      injection e1 with e1 e2
      subst e1; subst e2
      rw [p, List.getD_eq_getElem?_getD, List.getD_eq_getElem?_getD, List.getElem?_map, List.getElem?_eq_getElem hj]
      rfl)
    rw [List.take_of_length_le (by rw [List.length_map]; exact Nat.le_refl _), contS] at this
    exact this
  · have hn : cho = [] := List.eq_nil_of_length_eq_zero (by omega)
    subst hn
    exact Any.slices_Contains_string_empty Tryz.lays110 A 0 s w
set_option maxRecDepth 100000 in
set_option maxHeartbeats 1600000 in
theorem right3_any (r : Rw) (A : Option Addr) (s : ByteArray) (w : World) (hs : s.size ≤ 2000000) (hen : Env w) (hch : Cho w r A) (hcn : r.cho.length ≤ 1000) (hkd : r.kind = 3) : Calls Tryz.prog 86 #[.agg (rwV r A), .string s] w fun e w' => e = .returned (.bool (rightR r (bl s))) ∧ Below w.heap.size w w' := by
  obtain ⟨bb, hbb⟩ : ∃ b, rightR r (bl s) = b := ⟨_, rfl⟩
  rw [hbb]
  rw [right3_eq r (bl s) hkd] at hbb
  have HBB := hid hbb
  clear hbb
  obtain ⟨head, name, kind, lo, hi, cho, dft, cls⟩ := r
  simp only at hkd
  subst hkd
  show Calls _ _ #[.agg #[.int .i64 head, .string (S8 name), .int .i64 3, .int .i64 lo, .int .i64 hi, .slice A cho.length cho.length, .string (S8 dft), .int .i64 cls], .string s] _ _
  generalize S8 name = nm at *
  generalize S8 dft = df at *
  obtain ⟨hb0, hx1, hl1⟩ := box1 w (.cells #[.int .i64 head, .string nm, .int .i64 3, .int .i64 lo, .int .i64 hi, .slice A cho.length cho.length, .string df, .int .i64 cls] 93)
  have hen2 := hen.below hb0
  replace hch := Cho.below hch hb0
  unfold Cho at hch
  simp only at hch hcn
  have hb0s := hb0.size
  go_enter Tryz.func86, Tryz.ntmps86
  go_upto_region 1 with fail
  generalize w.alloc (.cells #[.int .i64 head, .string nm, .int .i64 3, .int .i64 lo, .int .i64 hi, .slice A cho.length cho.length, .string df, .int .i64 cls] 93) = w2 at *
  have p0 := blkCell hx1 0
  have p1 := blkCell hx1 1
  have p2 := blkCell hx1 2
  have p3 := blkCell hx1 3
  have p4 := blkCell hx1 4
  have p5 := blkCell hx1 5
  have p6 := blkCell hx1 6
  have p7 := blkCell hx1 7
  rw [Array.getElem?_eq_getElem (by simp)] at p0 p1 p2 p3 p4 p5 p6 p7
  simp only [List.getElem_toArray, List.getElem_cons_zero, List.getElem_cons_succ] at p0 p1 p2 p3 p4 p5 p6 p7
  clear hx1
  go_wp2_with fail
  refine (contains_any A cho s w2 hch hcn).mono ?_
  rintro e w3 ⟨rfl, rfl⟩
  rw [HBB.out]
  go_wp2_with fail
  go_ret
  exact ⟨rfl, hb0⟩
theorem cont_step (l : List (List UInt8)) (x : List UInt8) (k : Nat) (hk : k < l.length) (hn : ∀ j < k, l.getD j [] ≠ x) : (l.getD k [] = x → l.contains x = true) ∧ (l.getD k [] ≠ x → ∀ j < k + 1, l.getD j [] ≠ x) := by
  constructor
  · intro h
    rw [List.contains_iff_mem, ← h, List.getD_eq_getElem?_getD, List.getElem?_eq_getElem hk]
    exact List.getElem_mem _
  · intro h j hj
    by_cases hjk : j < k
    · exact hn j hjk
    · obtain rfl : j = k := by omega
      exact h
theorem cont_end (l : List (List UInt8)) (x : List UInt8) (hn : ∀ j < l.length, l.getD j [] ≠ x) : l.contains x = false := by
  cases hc : l.contains x with
  | false => rfl
  | true =>
    obtain ⟨j, hj, he⟩ := List.getElem_of_mem (List.contains_iff_mem.1 hc)
    refine absurd ?_ (hn j hj)
    rw [List.getD_eq_getElem?_getD, List.getElem?_eq_getElem hj]
    exact he
set_option maxRecDepth 100000 in
set_option maxHeartbeats 1600000 in
theorem refRight3_any (r : Rw) (A : Option Addr) (s : ByteArray) (w : World) (hs : s.size ≤ 2000000) (hen : Env w) (hch : Cho w r A) (hcn : r.cho.length ≤ 1000) (hkd : r.kind = 3) : Calls Tryz.prog 65 #[.agg (rwV r A), .string s] w fun e w' => e = .returned (.bool (rightR r (bl s))) ∧ Below w.heap.size w w' := by
  obtain ⟨bb, hbb⟩ : ∃ b, rightR r (bl s) = b := ⟨_, rfl⟩
  rw [hbb]
  rw [right3_eq r (bl s) hkd] at hbb
  have HBB := hid hbb
  clear hbb
  obtain ⟨head, name, kind, lo, hi, cho, dft, cls⟩ := r
  simp only at hkd
  subst hkd
  show Calls _ _ #[.agg #[.int .i64 head, .string (S8 name), .int .i64 3, .int .i64 lo, .int .i64 hi, .slice A cho.length cho.length, .string (S8 dft), .int .i64 cls], .string s] _ _
  generalize S8 name = nm at *
  generalize S8 dft = df at *
  obtain ⟨hb0, hx1, hl1⟩ := box1 w (.cells #[.int .i64 head, .string nm, .int .i64 3, .int .i64 lo, .int .i64 hi, .slice A cho.length cho.length, .string df, .int .i64 cls] 102)
  have hen2 := hen.below hb0
  replace hch := Cho.below hch hb0
  unfold Cho at hch
  simp only at hch hcn
  have hb0s := hb0.size
  go_enter Tryz.func65, Tryz.ntmps65
  go_upto_region 1 with fail
  generalize w.alloc (.cells #[.int .i64 head, .string nm, .int .i64 3, .int .i64 lo, .int .i64 hi, .slice A cho.length cho.length, .string df, .int .i64 cls] 102) = w2 at *
  have p0 := blkCell hx1 0
  have p1 := blkCell hx1 1
  have p2 := blkCell hx1 2
  have p3 := blkCell hx1 3
  have p4 := blkCell hx1 4
  have p5 := blkCell hx1 5
  have p6 := blkCell hx1 6
  have p7 := blkCell hx1 7
  rw [Array.getElem?_eq_getElem (by simp)] at p0 p1 p2 p3 p4 p5 p6 p7
  simp only [List.getElem_toArray, List.getElem_cons_zero, List.getElem_cons_succ] at p0 p1 p2 p3 p4 p5 p6 p7
  clear hx1
  go_wp2_with fail
  clear p0 p1 p2 p3 p4 p6 p7
  go_loop [12] (fun i => ∃ k : Nat, k ≤ cho.length ∧ i = .int .i64 k ∧ Hid (∀ j < k, cho.getD j [] ≠ bl s)) (fun i => cho.length - (intOf i).toNat)
  case atStart => exact ⟨0, Nat.zero_le _, rfl, hid (by simp)⟩
  case round =>
    obtain ⟨k, hk, rfl, hn⟩ := hrel
    by_cases hlt : k < cho.length
    · obtain ⟨b1, o1, rfl, hbl1, c1⟩ := STR_cell hch hlt
      have hst := cont_step cho (bl s) k hlt hn.out
      have hs8 : s.toList = bl s := Lib.toList_data s
      have hx8 : (S8 (cho.getD k [])).toList = cho.getD k [] := Lib.toList_data _
      by_cases he : cho.getD k [] = bl s
      · have t3 : ((S8 (cho.getD k [])).toList == s.toList) = true := by rw [hx8, hs8, he]; simp
        have HY := hid (hst.1 he)
        clear hst he hx8 hs8
        generalize S8 (cho.getD k []) = x at *
        go_wp2_with fail
        go_ret
        exact ⟨ret_bool (HY.out.symm.trans HBB.out), hb0⟩
      · have t3 : ((S8 (cho.getD k [])).toList == s.toList) = false := by rw [hx8, hs8]; simpa using he
        have HY := hid (hst.2 he)
        clear hst he hx8 hs8
        generalize S8 (cho.getD k []) = x at *
        go_wp2_with fail
        go_light
        exact ⟨⟨k + 1, by omega, by go_num, HY⟩, by simp [intOf]; omega⟩
    · obtain rfl : k = cho.length := by omega
      have HY := hid (cont_end cho (bl s) hn.out)
      go_wp2_with fail
      go_ret
      exact ⟨ret_bool (HY.out.symm.trans HBB.out), hb0⟩
theorem right_any (r : Rw) (A : Option Addr) (s : ByteArray) (w : World) (hs : s.size ≤ 2000000) (hen : Env w) (hch : Cho w r A) (hcn : r.cho.length ≤ 1000) (hkd : r.kind = 0 ∨ r.kind = 1 ∨ r.kind = 2 ∨ r.kind = 3 ∨ r.kind = 4) : Calls Tryz.prog 86 #[.agg (rwV r A), .string s] w fun e w' => e = .returned (.bool (rightR r (bl s))) ∧ Below w.heap.size w w' := by
  rcases hkd with h | h | h | h | h
  · exact right0_any r A s w hs hen hch hcn h
  · exact right1_any r A s w hs hen hch hcn h
  · exact right2_any r A s w hs hen hch hcn h
  · exact right3_any r A s w hs hen hch hcn h
  · exact right4_any r A s w hs hen hch hcn h
theorem refRight_any (r : Rw) (A : Option Addr) (s : ByteArray) (w : World) (hs : s.size ≤ 2000000) (hen : Env w) (hch : Cho w r A) (hcn : r.cho.length ≤ 1000) (hkd : r.kind = 0 ∨ r.kind = 1 ∨ r.kind = 2 ∨ r.kind = 3 ∨ r.kind = 4) : Calls Tryz.prog 65 #[.agg (rwV r A), .string s] w fun e w' => e = .returned (.bool (rightR r (bl s))) ∧ Below w.heap.size w w' := by
  rcases hkd with h | h | h | h | h
  · exact refRight0_any r A s w hs hen hch hcn h
  · exact refRight1_any r A s w hs hen hch hcn h
  · exact refRight2_any r A s w hs hen hch hcn h
  · exact refRight3_any r A s w hs hen hch hcn h
  · exact refRight4_any r A s w hs hen hch hcn h
end Go.Proofs.YtecfkhgocjbocaaGreatDoor
