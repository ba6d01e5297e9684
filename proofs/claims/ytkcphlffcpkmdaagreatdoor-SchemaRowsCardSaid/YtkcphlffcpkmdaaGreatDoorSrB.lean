/-
  The law's alike: of equal rows, wherever their choices lie.
-/
import Derived.Test.YtkcphlffcpkmdaaGreatDoorSdA
namespace Go.Proofs.YtkcphlffcpkmdaaGreatDoor
set_option linter.unusedVariables false
set_option linter.unusedSimpArgs false
open Go Go.RowKit

theorem boxes (w : World) (O1 O2 : Obj) : Below w.heap.size w ((w.alloc O1).alloc O2) ∧ ((w.alloc O1).alloc O2).heap[w.heap.size]? = some O1 ∧ ((w.alloc O1).alloc O2).heap[w.heap.size + 1]? = some O2 := by
  have e1 : (w.alloc O1).heap.size = w.heap.size + 1 := by simp
  have h2 := heap_alloc_new (w.alloc O1) O2
  rw [e1] at h2
  exact ⟨((Below.refl _ _).alloc (Nat.le_refl _) O1).alloc (by rw [e1]; omega) O2, (Below.heap_alloc (w.alloc O1) O2 w.heap.size (by rw [e1]; omega)).trans (heap_alloc_new w O1), h2⟩
theorem boxes_size (w : World) (O1 O2 : Obj) : w.heap.size < ((w.alloc O1).alloc O2).heap.size ∧ w.heap.size + 1 < ((w.alloc O1).alloc O2).heap.size := by
  have e : ((w.alloc O1).alloc O2).heap.size = w.heap.size + 1 + 1 := by simp
  omega
set_option maxRecDepth 100000 in
set_option maxHeartbeats 1600000 in
theorem alike_any (r : Rw) (A B : Option Addr) (w : World) (ha : Cho w r A) (hb : Cho w r B) (hn : r.cho.length ≤ 1000) : Calls Tryz.prog 7 #[.agg (rwV r A), .agg (rwV r B)] w fun e w' => e = .returned (.bool true) ∧ Below w.heap.size w w' := by
  obtain ⟨head, name, kind, lo, hi, cho, dft, cls⟩ := r
  unfold Cho at ha hb
  simp only at ha hb hn
  show Calls _ _ #[.agg #[.int .i64 head, .string (S8 name), .int .i64 kind, .int .i64 lo, .int .i64 hi, .slice A cho.length cho.length, .string (S8 dft), .int .i64 cls], .agg #[.int .i64 head, .string (S8 name), .int .i64 kind, .int .i64 lo, .int .i64 hi, .slice B cho.length cho.length, .string (S8 dft), .int .i64 cls]] _ _
  have t1 : ((S8 name).toList == (S8 name).toList) = true := by simp
  have t2 : ((S8 dft).toList == (S8 dft).toList) = true := by simp
  generalize S8 name = nm at *
  generalize S8 dft = df at *
  go_enter Tryz.func7, Tryz.ntmps7
  go_upto_region 1 with fail
  obtain ⟨hb0, hx1, hx2⟩ := boxes w (.cells #[.int .i64 head, .string nm, .int .i64 kind, .int .i64 lo, .int .i64 hi, .slice A cho.length cho.length, .string df, .int .i64 cls] 30) (.cells #[.int .i64 head, .string nm, .int .i64 kind, .int .i64 lo, .int .i64 hi, .slice B cho.length cho.length, .string df, .int .i64 cls] 31)
  have hsz := boxes_size w (.cells #[.int .i64 head, .string nm, .int .i64 kind, .int .i64 lo, .int .i64 hi, .slice A cho.length cho.length, .string df, .int .i64 cls] 30) (.cells #[.int .i64 head, .string nm, .int .i64 kind, .int .i64 lo, .int .i64 hi, .slice B cho.length cho.length, .string df, .int .i64 cls] 31)
  replace ha := ha.below hb0
  replace hb := hb.below hb0
  generalize (w.alloc (.cells #[.int .i64 head, .string nm, .int .i64 kind, .int .i64 lo, .int .i64 hi, .slice A cho.length cho.length, .string df, .int .i64 cls] 30)).alloc (.cells #[.int .i64 head, .string nm, .int .i64 kind, .int .i64 lo, .int .i64 hi, .slice B cho.length cho.length, .string df, .int .i64 cls] 31) = w2 at *
  have p0 := blkCell hx1 0
  have p1 := blkCell hx1 1
  have p2 := blkCell hx1 2
  have p3 := blkCell hx1 3
  have p4 := blkCell hx1 4
  have p5 := blkCell hx1 5
  have p6 := blkCell hx1 6
  have p7 := blkCell hx1 7
  rw [Array.getElem?_eq_getElem (by simp)] at p0 p1 p2 p3 p4 p5 p6 p7
  simp only [List.getElem_toArray, List.getElem_cons_zero, List.getElem_cons_succ] at p0 p1 p2 p3 p4 p5 p6 p7
  clear hx1
  have q0 := blkCell hx2 0
  have q1 := blkCell hx2 1
  have q2 := blkCell hx2 2
  have q3 := blkCell hx2 3
  have q4 := blkCell hx2 4
  have q5 := blkCell hx2 5
  have q6 := blkCell hx2 6
  have q7 := blkCell hx2 7
  rw [Array.getElem?_eq_getElem (by simp)] at q0 q1 q2 q3 q4 q5 q6 q7
  simp only [List.getElem_toArray, List.getElem_cons_zero, List.getElem_cons_succ] at q0 q1 q2 q3 q4 q5 q6 q7
  clear hx2
  have hl1 : w.heap.size < w2.heap.size := hsz.1
  have hl2 : w.heap.size + 1 < w2.heap.size := hsz.2
  clear hsz
  generalize w.heap.size + 1 = g2 at *
  generalize hg1 : w.heap.size = g1 at *
  go_wp2_with fail
  go_loopw [5] (fun i wr => ∃ k : Nat, k ≤ cho.length ∧ i = .int .i64 k ∧ Below w2.heap.size w2 wr) (fun i _ => cho.length - (intOf i).toNat)
  case atStart => exact ⟨0, Nat.zero_le _, rfl, Below.refl _ _⟩
  case round =>
    obtain ⟨k, hk, rfl, hbr⟩ := hrel
    replace ha := ha.below hbr
    replace hb := hb.below hbr
    replace p5 := (hbr.cell (p := ⟨g1, 5, none⟩) hl1).trans p5
    replace q5 := (hbr.cell (p := ⟨g2, 5, none⟩) hl2).trans q5
    have hr1 := Nat.lt_of_lt_of_le hl1 hbr.size
    have hr2 := Nat.lt_of_lt_of_le hl2 hbr.size
    clear p0 p1 p2 p3 p4 p6 p7 q0 q1 q2 q3 q4 q6 q7
    by_cases hlt : k < cho.length
    · obtain ⟨b1, o1, rfl, hbl1, c1⟩ := STR_cell ha hlt
      obtain ⟨b2, o2, rfl, hbl2, c2⟩ := STR_cell hb hlt
      have t3 : ((S8 (cho.getD k [])).toList == (S8 (cho.getD k [])).toList) = true := by simp
      generalize S8 (cho.getD k []) = x at *
      clear ha hb
      have z1 := fun (z : WK (fun _ => False) wr) => (wat_cell (p := ⟨b1, o1 + k, none⟩) hbl1 (fun e => e) z).trans c1
      have z2 := fun (z : WK (fun _ => False) wr) => (wat_cell (p := ⟨b2, o2 + k, none⟩) hbl2 (fun e => e) z).trans c2
      have z3 := fun (z : WK (fun _ => False) wr) => (wat_cell (p := ⟨g1, 5, none⟩) hr1 (fun e => e) z).trans p5
      have z4 := fun (z : WK (fun _ => False) wr) => (wat_cell (p := ⟨g2, 5, none⟩) hr2 (fun e => e) z).trans q5
      go_wp2_with fail
      refine wp_region_loud (fun _ => False) [] (fun _ => Fact.none) (by kernel_rfl) (by kernel_rfl) .nil good_nothing sat_none (WX.out ?_)
      repeat (first | (refine wx_quietU (by rfl) (by rfl) (by rfl) (fun K hK => ?_); go_big_quiet_op; refine hK _ ?_; clear hK K) | (refine wx_quietG (by rfl) (by rfl) (by rfl) (by rfl) (by rfl) (fun K hK => ?_); go_big_quiet_op; refine hK _ ?_; clear hK K) | (refine wx_skipG (by rfl) (by rfl) (by rfl) (fun K hK => ?_); go_simp; refine hK _ ?_; clear hK K) | (refine wx_skipN (by rfl) (by rfl) (by rfl) (fun K hK => ?_); go_simp; refine hK _ ?_; clear hK K))
      refine wx_nil fun w3 hsat => ?_
      have hb3 := sat_below hsat
      clear hsat z1 z2 z3 z4
      go_wp2_with fail
      go_light
      exact ⟨⟨k + 1, by omega, by go_num, hbr.trans (hb3.mono hbr.size)⟩, by simp [intOf]; omega⟩
    · obtain rfl : k = cho.length := by omega
      go_wp2_with fail
      go_ret
      subst hg1
      exact ⟨rfl, hb0.trans (hbr.mono hb0.size)⟩
end Go.Proofs.YtkcphlffcpkmdaaGreatDoor
