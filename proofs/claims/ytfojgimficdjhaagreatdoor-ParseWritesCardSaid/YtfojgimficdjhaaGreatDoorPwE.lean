/-
  The walk of ParseWrites.
-/
import Derived.Test.YtfojgimficdjhaaGreatDoorPwZ
namespace Go.Proofs.YtfojgimficdjhaaGreatDoor
set_option linter.unusedVariables false
set_option linter.unusedSimpArgs false
open Go Go.RowKit

theorem tom_built (c : Cmd) : (Tryz.prog).built 25 [(0, .int .i64 c.what), (1, .agg (lnV c.line)), (2, .int .i64 c.n)] = some (cmV c) := by kernel_rfl
theorem lnm_built (l : Ln) : (Tryz.prog).built 23 [(0, .int .i64 l.head), (1, .string (S8 l.name)), (2, .string (S8 l.leaf)), (3, .string (S8 l.value))] = some (lnV l) := by kernel_rfl
set_option maxRecDepth 100000 in
set_option maxHeartbeats 1600000 in
theorem to_any (c : Cmd) (w : World) : Calls Tryz.prog 13 #[.agg (cmV c)] w fun e w' => e = .returned (.agg (cmV c)) ∧ Below w.heap.size w w' := by
  obtain ⟨what, ⟨head, name, leaf, value⟩, num⟩ := c
  show Calls _ _ #[.agg #[.int .i64 what, .int .i64 head, .string (S8 name), .string (S8 leaf), .string (S8 value), .int .i64 num]] _ _
  have hFB := hid (tom_built ⟨what, ⟨head, name, leaf, value⟩, num⟩)
  have hLB := hid (lnm_built ⟨head, name, leaf, value⟩)
  obtain ⟨hb0, hp0, hl0⟩ := box1 w (.cells #[.int .i64 what, .int .i64 head, .string (S8 name), .string (S8 leaf), .string (S8 value), .int .i64 num] 31)
  obtain ⟨hb1, hx1, hl1⟩ := box1 (w.alloc (.cells #[.int .i64 what, .int .i64 head, .string (S8 name), .string (S8 leaf), .string (S8 value), .int .i64 num] 31)) (.cells #[.int .i64 0, .int .i64 0, .string ⟨#[]⟩, .string ⟨#[]⟩, .string ⟨#[]⟩, .int .i64 0] 25)
  have hp1 := blk_below hp0 hb1 hl0
  have hbw := hb0.trans (hb1.mono hb0.size)
  have hsz : (w.alloc (.cells #[.int .i64 what, .int .i64 head, .string (S8 name), .string (S8 leaf), .string (S8 value), .int .i64 num] 31)).heap.size = w.heap.size + 1 := by simp
  rw [hsz] at hx1
  have HW := hid (And.intro hx1 (And.intro hp1 hbw))
  clear hx1 hp1 hbw hb0 hp0 hl0 hb1 hl1 hsz
  go_enter Tryz.func13, Tryz.ntmps13
  go_upto_region 1 with fail
  generalize (w.alloc (.cells #[.int .i64 what, .int .i64 head, .string (S8 name), .string (S8 leaf), .string (S8 value), .int .i64 num] 31)).alloc (.cells #[.int .i64 0, .int .i64 0, .string ⟨#[]⟩, .string ⟨#[]⟩, .string ⟨#[]⟩, .int .i64 0] 25) = w1 at *
  obtain ⟨hx1, hp1, hbw⟩ := HW.out
  clear HW
  have q0 := blkCell hp1 0
  have q1 := blkCell hp1 1
  have q2 := blkCell hp1 2
  have q3 := blkCell hp1 3
  have q4 := blkCell hp1 4
  have q5 := blkCell hp1 5
  rw [Array.getElem?_eq_getElem (by simp)] at q0 q1 q2 q3 q4 q5
  simp only [List.getElem_toArray, List.getElem_cons_zero, List.getElem_cons_succ] at q0 q1 q2 q3 q4 q5
  clear hp1
  go_wp2_with (first | refine wpList_buildV rfl 23 [(0, .tmp 7), (1, .tmp 10), (2, .tmp 13), (3, .tmp 16)] rfl (some 17) rfl [(0, .int .i64 head), (1, .string (S8 name)), (2, .string (S8 leaf)), (3, .string (S8 value))] rfl _ hLB.out ?_ | refine wpList_buildV rfl 25 [(0, .tmp 4), (1, .tmp 17), (2, .tmp 19)] rfl (some 20) rfl [(0, .int .i64 what), (1, .agg (lnV ⟨head, name, leaf, value⟩)), (2, .int .i64 num)] rfl _ hFB.out ?_ | refine wpList_store_whole rfl 25 (.tmp 2) (.tmp 20) rfl (cmV ⟨what, ⟨head, name, leaf, value⟩, num⟩) rfl rfl hx1 i6 rfl (cmV_one _) ?_)
  intro wz hgz hgrz
  have hbz := grown1 hbw hgrz (by omega)
  clear q0 q1 q2 q3 q4 q5 hx1
  go_wp2_with fail
  exact ret_row1 (fn := Tryz.f13) (cs := cmV ⟨what, ⟨head, name, leaf, value⟩, num⟩) rfl rfl hgz Tryz.underlying25 rfl i6 rfl ⟨rfl, hbz⟩
theorem wrOk_iff (s : List UInt8) (c : Cmd) : wrOk s c = true ↔ readT s = some c := by
  unfold wrOk
  cases h : readT s with
  | none => simp
  | some d =>
    simp only [cmB_iff, Option.some.injEq]
theorem wrOk_same (c : Cmd) : wrOk (textW c) c = wrOk (textR c) c ∧ (wrOk (textW c) c = true → textW c = textR c ∧ readT (textW c) = some c) := by
  obtain ⟨h1, h2⟩ := write_same c
  refine ⟨?_, fun h => ⟨h2 ((wrOk_iff _ _).1 h), (wrOk_iff _ _).1 h⟩⟩
  rw [Bool.eq_iff_iff, wrOk_iff, wrOk_iff]
  exact h1
theorem min40 (s : ByteArray) (h : s.size ≤ 9223372036854775807) : ∃ m : Nat, m ≤ 40 ∧ m ≤ s.size ∧ min (s.size : Int) 40 = (m : Int) := ⟨min s.size 40, by omega, by omega, by omega⟩
set_option maxRecDepth 100000 in
set_option maxHeartbeats 3200000 in
theorem parseWrites_walk (what head : Int) (name leaf value : ByteArray) (num : Int) (w : World) (hen : Env w) (hn : name.size ≤ 9223372036854775807) (hl : leaf.size ≤ 9223372036854775807) (hv : value.size ≤ 9223372036854775807) (h0 : -9223372036854775808 ≤ num) (h1 : num ≤ 9223372036854775807) :
    Calls Tryz.prog 4 #[.agg #[.int .i64 what, .int .i64 head, .string name, .string leaf, .string value, .int .i64 num]] w fun e w' => e = .returned (.bool true) ∧ Below w.heap.size w w' := by
  obtain ⟨m1, a1, b1, c1⟩ := min40 name hn
  obtain ⟨m2, a2, b2, c2⟩ := min40 leaf hl
  obtain ⟨m3, a3, b3, c3⟩ := min40 value hv
  obtain ⟨hb0, hp0, hl0⟩ := box1 w (.cells #[.int .i64 what, .int .i64 head, .string name, .string leaf, .string value, .int .i64 num] 31)
  have HEN := hid hen
  clear hen
  go_enter Tryz.func4, Tryz.ntmps4
  go_upto_region 1 with fail
  generalize w.alloc (.cells #[.int .i64 what, .int .i64 head, .string name, .string leaf, .string value, .int .i64 num] 31) = w0 at *
  have hlt := blk_lt hp0
  refine RD.wp_region_read (fun g => g = w.heap.size) [(2, plainL [] (.string name)), (5, plainL [] (.string name)), (11, plainL [] (.string leaf)), (14, plainL [] (.string leaf)), (20, plainL [] (.string value)), (23, plainL [] (.string value)),
      (29, keepL [100] (BlkF w.heap.size 31 #[.int .i64 what, .int .i64 head, .string (name.extract 0 m1), .string leaf, .string value, .int .i64 num])),
      (32, keepL [29] (BlkF w.heap.size 31 #[.int .i64 what, .int .i64 head, .string (name.extract 0 m1), .string (leaf.extract 0 m2), .string value, .int .i64 num])),
      (35, keepL [32] (BlkF w.heap.size 31 #[.int .i64 what, .int .i64 head, .string (name.extract 0 m1), .string (leaf.extract 0 m2), .string (value.extract 0 m3), .int .i64 num]))]
    [(2, [100]), (5, [100]), (11, [100]), (14, [100]), (20, [100]), (23, [100])]
    (labelled 100 (BlkF w.heap.size 31 #[.int .i64 what, .int .i64 head, .string name, .string leaf, .string value, .int .i64 num])) (by kernel_rfl) (by kernel_rfl)
    (.cons (plainL_ok _ _) (.cons (plainL_ok _ _) (.cons (plainL_ok _ _) (.cons (plainL_ok _ _) (.cons (plainL_ok _ _) (.cons (plainL_ok _ _) (.cons (keepL_ok _ (good_blk _ _ _)) (.cons (keepL_ok _ (good_blk _ _ _)) (.cons (keepL_ok _ (good_blk _ _ _)) .nil))))))))) (good_one 100 (good_blk _ _ _))
    (sat_one 100 _ (fun g hg => by have e2 : g = w.heap.size := hg; omega) ⟨rfl, hp0⟩) (RD.WD.out ?_)
  clear hp0
  repeat (first | (refine RD.wd_quietU (by rfl) (by rfl) (by rfl) (fun K hK => ?_); go_big_quiet_op; refine hK _ ?_; clear hK K) | (refine RD.wd_quietG (by rfl) (by rfl) (by rfl) (by rfl) (by rfl) (fun K hK => ?_); go_big_quiet_op; refine hK _ ?_; clear hK K) | (refine RD.wd_skipG (by rfl) (by rfl) (by rfl) (fun K hK => ?_); go_simp; refine hK _ ?_; clear hK K) | (refine RD.wd_skipN (by rfl) (by rfl) (by rfl) (fun K hK => ?_); go_simp; refine hK _ ?_; clear hK K))
  refine RD.wd_loudU (us := []) (by rfl) (by rfl) (fun S wS hC hS hU hR => ?_) (fun v hv K hK => ?_)
  · obtain ⟨S', hB⟩ := hR 100 (by decide)
    have hc : wS.cell? ⟨w.heap.size, 2, none⟩ = some (.string name) := (blkF_cells (show BlkF w.heap.size 31 #[.int .i64 what, .int .i64 head, .string name, .string leaf, .string value, .int .i64 num] S' wS from hB)).1 2
    exact runs_value (by go_simp <;> rfl) ⟨rfl, Kept.refl _ _, trivial⟩
  obtain rfl := hv; (go_simp; refine hK _ ?_; clear hK K)
  repeat (first | (refine RD.wd_quietU (by rfl) (by rfl) (by rfl) (fun K hK => ?_); go_big_quiet_op; refine hK _ ?_; clear hK K) | (refine RD.wd_quietG (by rfl) (by rfl) (by rfl) (by rfl) (by rfl) (fun K hK => ?_); go_big_quiet_op; refine hK _ ?_; clear hK K) | (refine RD.wd_skipG (by rfl) (by rfl) (by rfl) (fun K hK => ?_); go_simp; refine hK _ ?_; clear hK K) | (refine RD.wd_skipN (by rfl) (by rfl) (by rfl) (fun K hK => ?_); go_simp; refine hK _ ?_; clear hK K))
  refine RD.wd_loudU (us := []) (by rfl) (by rfl) (fun S wS hC hS hU hR => ?_) (fun v hv K hK => ?_)
  · obtain ⟨S', hB⟩ := hR 100 (by decide)
    have hc : wS.cell? ⟨w.heap.size, 2, none⟩ = some (.string name) := (blkF_cells (show BlkF w.heap.size 31 #[.int .i64 what, .int .i64 head, .string name, .string leaf, .string value, .int .i64 num] S' wS from hB)).1 2
    exact runs_value (by go_simp <;> rfl) ⟨rfl, Kept.refl _ _, trivial⟩
  obtain rfl := hv; (go_simp; refine hK _ ?_; clear hK K)
  repeat (first | (refine RD.wd_quietU (by rfl) (by rfl) (by rfl) (fun K hK => ?_); go_big_quiet_op; refine hK _ ?_; clear hK K) | (refine RD.wd_quietG (by rfl) (by rfl) (by rfl) (by rfl) (by rfl) (fun K hK => ?_); go_big_quiet_op; refine hK _ ?_; clear hK K) | (refine RD.wd_skipG (by rfl) (by rfl) (by rfl) (fun K hK => ?_); go_simp; refine hK _ ?_; clear hK K) | (refine RD.wd_skipN (by rfl) (by rfl) (by rfl) (fun K hK => ?_); go_simp; refine hK _ ?_; clear hK K))
  refine RD.wd_loudU (us := []) (by rfl) (by rfl) (fun S wS hC hS hU hR => ?_) (fun v hv K hK => ?_)
  · obtain ⟨S', hB⟩ := hR 100 (by decide)
    have hc : wS.cell? ⟨w.heap.size, 3, none⟩ = some (.string leaf) := (blkF_cells (show BlkF w.heap.size 31 #[.int .i64 what, .int .i64 head, .string name, .string leaf, .string value, .int .i64 num] S' wS from hB)).1 3
    exact runs_value (by go_simp <;> rfl) ⟨rfl, Kept.refl _ _, trivial⟩
  obtain rfl := hv; (go_simp; refine hK _ ?_; clear hK K)
  repeat (first | (refine RD.wd_quietU (by rfl) (by rfl) (by rfl) (fun K hK => ?_); go_big_quiet_op; refine hK _ ?_; clear hK K) | (refine RD.wd_quietG (by rfl) (by rfl) (by rfl) (by rfl) (by rfl) (fun K hK => ?_); go_big_quiet_op; refine hK _ ?_; clear hK K) | (refine RD.wd_skipG (by rfl) (by rfl) (by rfl) (fun K hK => ?_); go_simp; refine hK _ ?_; clear hK K) | (refine RD.wd_skipN (by rfl) (by rfl) (by rfl) (fun K hK => ?_); go_simp; refine hK _ ?_; clear hK K))
  refine RD.wd_loudU (us := []) (by rfl) (by rfl) (fun S wS hC hS hU hR => ?_) (fun v hv K hK => ?_)
  · obtain ⟨S', hB⟩ := hR 100 (by decide)
    have hc : wS.cell? ⟨w.heap.size, 3, none⟩ = some (.string leaf) := (blkF_cells (show BlkF w.heap.size 31 #[.int .i64 what, .int .i64 head, .string name, .string leaf, .string value, .int .i64 num] S' wS from hB)).1 3
    exact runs_value (by go_simp <;> rfl) ⟨rfl, Kept.refl _ _, trivial⟩
  obtain rfl := hv; (go_simp; refine hK _ ?_; clear hK K)
  repeat (first | (refine RD.wd_quietU (by rfl) (by rfl) (by rfl) (fun K hK => ?_); go_big_quiet_op; refine hK _ ?_; clear hK K) | (refine RD.wd_quietG (by rfl) (by rfl) (by rfl) (by rfl) (by rfl) (fun K hK => ?_); go_big_quiet_op; refine hK _ ?_; clear hK K) | (refine RD.wd_skipG (by rfl) (by rfl) (by rfl) (fun K hK => ?_); go_simp; refine hK _ ?_; clear hK K) | (refine RD.wd_skipN (by rfl) (by rfl) (by rfl) (fun K hK => ?_); go_simp; refine hK _ ?_; clear hK K))
  refine RD.wd_loudU (us := []) (by rfl) (by rfl) (fun S wS hC hS hU hR => ?_) (fun v hv K hK => ?_)
  · obtain ⟨S', hB⟩ := hR 100 (by decide)
    have hc : wS.cell? ⟨w.heap.size, 4, none⟩ = some (.string value) := (blkF_cells (show BlkF w.heap.size 31 #[.int .i64 what, .int .i64 head, .string name, .string leaf, .string value, .int .i64 num] S' wS from hB)).1 4
    exact runs_value (by go_simp <;> rfl) ⟨rfl, Kept.refl _ _, trivial⟩
  obtain rfl := hv; (go_simp; refine hK _ ?_; clear hK K)
  repeat (first | (refine RD.wd_quietU (by rfl) (by rfl) (by rfl) (fun K hK => ?_); go_big_quiet_op; refine hK _ ?_; clear hK K) | (refine RD.wd_quietG (by rfl) (by rfl) (by rfl) (by rfl) (by rfl) (fun K hK => ?_); go_big_quiet_op; refine hK _ ?_; clear hK K) | (refine RD.wd_skipG (by rfl) (by rfl) (by rfl) (fun K hK => ?_); go_simp; refine hK _ ?_; clear hK K) | (refine RD.wd_skipN (by rfl) (by rfl) (by rfl) (fun K hK => ?_); go_simp; refine hK _ ?_; clear hK K))
  refine RD.wd_loudU (us := []) (by rfl) (by rfl) (fun S wS hC hS hU hR => ?_) (fun v hv K hK => ?_)
  · obtain ⟨S', hB⟩ := hR 100 (by decide)
    have hc : wS.cell? ⟨w.heap.size, 4, none⟩ = some (.string value) := (blkF_cells (show BlkF w.heap.size 31 #[.int .i64 what, .int .i64 head, .string name, .string leaf, .string value, .int .i64 num] S' wS from hB)).1 4
    exact runs_value (by go_simp <;> rfl) ⟨rfl, Kept.refl _ _, trivial⟩
  obtain rfl := hv; (go_simp; refine hK _ ?_; clear hK K)
  repeat (first | (refine RD.wd_quietU (by rfl) (by rfl) (by rfl) (fun K hK => ?_); go_big_quiet_op; refine hK _ ?_; clear hK K) | (refine RD.wd_quietG (by rfl) (by rfl) (by rfl) (by rfl) (by rfl) (fun K hK => ?_); go_big_quiet_op; refine hK _ ?_; clear hK K) | (refine RD.wd_skipG (by rfl) (by rfl) (by rfl) (fun K hK => ?_); go_simp; refine hK _ ?_; clear hK K) | (refine RD.wd_skipN (by rfl) (by rfl) (by rfl) (fun K hK => ?_); go_simp; refine hK _ ?_; clear hK K))
  refine RD.wd_loudU (us := [100]) (by rfl) (by rfl) (fun S wS hC hS hU hR => ?_) (fun v hv K hK => ?_)
  · have hB : BlkF w.heap.size 31 #[.int .i64 what, .int .i64 head, .string name, .string leaf, .string value, .int .i64 num] S wS := hU 100 (by simp)
    obtain ⟨hc, hf⟩ := blkF_cells hB
    exact runs_skip (by go_simp <;> rfl) ⟨trivial, (blkF_set (i := 2) hB (.string (name.extract 0 m1))).1, (blkF_set (i := 2) hB (.string (name.extract 0 m1))).2⟩
  (go_simp; refine hK _ ?_; clear hK K)
  repeat (first | (refine RD.wd_quietU (by rfl) (by rfl) (by rfl) (fun K hK => ?_); go_big_quiet_op; refine hK _ ?_; clear hK K) | (refine RD.wd_quietG (by rfl) (by rfl) (by rfl) (by rfl) (by rfl) (fun K hK => ?_); go_big_quiet_op; refine hK _ ?_; clear hK K) | (refine RD.wd_skipG (by rfl) (by rfl) (by rfl) (fun K hK => ?_); go_simp; refine hK _ ?_; clear hK K) | (refine RD.wd_skipN (by rfl) (by rfl) (by rfl) (fun K hK => ?_); go_simp; refine hK _ ?_; clear hK K))
  refine RD.wd_loudU (us := [29]) (by rfl) (by rfl) (fun S wS hC hS hU hR => ?_) (fun v hv K hK => ?_)
  · have hB : BlkF w.heap.size 31 #[.int .i64 what, .int .i64 head, .string (name.extract 0 m1), .string leaf, .string value, .int .i64 num] S wS := hU 29 (by simp)
    obtain ⟨hc, hf⟩ := blkF_cells hB
    exact runs_skip (by go_simp <;> rfl) ⟨trivial, (blkF_set (i := 3) hB (.string (leaf.extract 0 m2))).1, (blkF_set (i := 3) hB (.string (leaf.extract 0 m2))).2⟩
  (go_simp; refine hK _ ?_; clear hK K)
  repeat (first | (refine RD.wd_quietU (by rfl) (by rfl) (by rfl) (fun K hK => ?_); go_big_quiet_op; refine hK _ ?_; clear hK K) | (refine RD.wd_quietG (by rfl) (by rfl) (by rfl) (by rfl) (by rfl) (fun K hK => ?_); go_big_quiet_op; refine hK _ ?_; clear hK K) | (refine RD.wd_skipG (by rfl) (by rfl) (by rfl) (fun K hK => ?_); go_simp; refine hK _ ?_; clear hK K) | (refine RD.wd_skipN (by rfl) (by rfl) (by rfl) (fun K hK => ?_); go_simp; refine hK _ ?_; clear hK K))
  refine RD.wd_loudU (us := [32]) (by rfl) (by rfl) (fun S wS hC hS hU hR => ?_) (fun v hv K hK => ?_)
  · have hB : BlkF w.heap.size 31 #[.int .i64 what, .int .i64 head, .string (name.extract 0 m1), .string (leaf.extract 0 m2), .string value, .int .i64 num] S wS := hU 32 (by simp)
    obtain ⟨hc, hf⟩ := blkF_cells hB
    exact runs_skip (by go_simp <;> rfl) ⟨trivial, (blkF_set (i := 4) hB (.string (value.extract 0 m3))).1, (blkF_set (i := 4) hB (.string (value.extract 0 m3))).2⟩
  (go_simp; refine hK _ ?_; clear hK K)
  repeat (first | (refine RD.wd_quietU (by rfl) (by rfl) (by rfl) (fun K hK => ?_); go_big_quiet_op; refine hK _ ?_; clear hK K) | (refine RD.wd_quietG (by rfl) (by rfl) (by rfl) (by rfl) (by rfl) (fun K hK => ?_); go_big_quiet_op; refine hK _ ?_; clear hK K) | (refine RD.wd_skipG (by rfl) (by rfl) (by rfl) (fun K hK => ?_); go_simp; refine hK _ ?_; clear hK K) | (refine RD.wd_skipN (by rfl) (by rfl) (by rfl) (fun K hK => ?_); go_simp; refine hK _ ?_; clear hK K))
  refine RD.wd_nil fun w1 hsat => ?_
  obtain ⟨S9, hS9, hF9⟩ := sat_get hsat 35
  have hp1 := (show BlkF w.heap.size 31 #[.int .i64 what, .int .i64 head, .string (name.extract 0 m1), .string (leaf.extract 0 m2), .string (value.extract 0 m3), .int .i64 num] S9 w1 from hF9).2
  have hbw1 := hb0.trans (hsat.1.below_of (B := w.heap.size) hb0.size (fun g hg => by have e2 : g = w.heap.size := hg; omega))
  clear hsat hF9 hS9 c1 c2 c3 hb0 hlt
  have z1 := ext_sizeR name m1 b1
  have z2 := ext_sizeR leaf m2 b2
  have z3 := ext_sizeR value m3 b3
  obtain ⟨c, hc⟩ : ∃ c : Cmd, c = ⟨what, ⟨head, bl (name.extract 0 m1), bl (leaf.extract 0 m2), bl (value.extract 0 m3)⟩, num⟩ := ⟨_, rfl⟩
  have hsm : CmSmall c := by
    rw [hc]
    exact ⟨h0, h1, by simp only [bl_len]; omega, by simp only [bl_len]; omega, by simp only [bl_len]; omega⟩
  have hp2 : w1.heap[w.heap.size]? = some (.cells (cmV c) 31 (0, 0)) := by
    rw [hp1, hc]
    show _ = some (Obj.cells #[.int .i64 what, .int .i64 head, .string (S8 (bl (name.extract 0 m1))), .string (S8 (bl (leaf.extract 0 m2))), .string (S8 (bl (value.extract 0 m3))), .int .i64 num] _ _)
    rw [← S8_bl, ← S8_bl, ← S8_bl]
  clear z1 z2 z3 hp1 hc
  obtain ⟨hok, hsame⟩ := wrOk_same c
  have hlw := textW_len c hsm
  have HTO := hid (fun W => to_any c W)
  have HWR : Hid (∀ w', Below w.heap.size w w' → Calls Tryz.prog 12 #[.agg (cmV c)] w' fun e w2 => (e = if wrOk (textW c) c = true then .returned (.tuple #[.string (S8 (textW c)), .int .i64 0]) else .returned (.tuple #[.string ⟨#[]⟩, .int .i64 1])) ∧ Below w'.heap.size w' w2) := fun w' hb => Write_any c w' (HEN.out.below hb) hsm
  have HRW : Hid (∀ w', Below w.heap.size w w' → Calls Tryz.prog 14 #[.agg (cmV c)] w' fun e w2 => e = .returned (.tuple #[.string (S8 (textR c)), .bool (wrOk (textR c) c)]) ∧ Below w'.heap.size w' w2) := fun w' hb => refWrite_any c w' (HEN.out.below hb) hsm
  rw [← hok] at HRW
  have HRD : Hid (wrOk (textW c) c = true → ∀ w', Below w.heap.size w w' → Calls Tryz.prog 8 #[.string (S8 (textW c))] w' fun e w2 => e = .returned (.tuple #[.agg (cmV c), .int .i64 0]) ∧ Below w'.heap.size w' w2) := by
    show _ → _
    intro hk w' hb
    refine (Read_any (S8 (textW c)) w' (by rw [S8_size]; omega) (HEN.out.below hb)).mono fun e w2 ⟨h1, h2⟩ => ⟨?_, h2⟩
    rw [bl_S8, (hsame hk).2] at h1
    exact h1.some
  have HSM : Hid (wrOk (textW c) c = true → textR c = textW c) := fun hk => (hsame hk).1.symm
  clear hok hsame hlw hsm
  generalize wrOk (textW c) c = ok at *
  generalize textW c = T at *
  generalize textR c = T2 at *
  generalize name.extract 0 m1 = nm at *
  generalize leaf.extract 0 m2 = lf at *
  generalize value.extract 0 m3 = vl at *
  have hlt1 := blk_lt hp2
  have HP2 := hid hp2
  go_wp2_with (refine wpList_load_row rfl 31 (.tmp 1) rfl w.heap.size rfl 31 (cmV c) (0, 0) _ hp2 Tryz.underlying31 rfl j6 ?_)
  clear hp2
  refine (HTO.out w1).mono ?_
  rintro e w2 ⟨rfl, hb2⟩
  have hbw2 := hbw1.trans (hb2.mono hbw1.size)
  have HP3 := hid (blk_below HP2.out hb2 hlt1)
  have hlt2 := Nat.lt_of_lt_of_le hlt1 hb2.size
  clear HTO HP2 hb2 hbw1
  go_wp2_with fail
  refine (HWR.out w2 hbw2).mono ?_
  rintro e w3 ⟨hwp, hb3⟩
  have hbw3 := hbw2.trans (hb3.mono hbw2.size)
  have hp4 := blk_below HP3.out hb3 hlt2
  have HP4 := hid hp4
  clear HWR HP3 hb3 hbw2 hp4
  cases ok with
  | false =>
    have he : e = .returned (.tuple #[.string ⟨#[]⟩, .int .i64 1]) := hwp
    clear hwp
    subst he
    clear HRD HSM
    go_upto_region 3 with fail
    have hp4 := HP4.out
    go_wp2_with (refine wpList_load_row rfl 31 (.tmp 1) rfl w.heap.size rfl 31 (cmV c) (0, 0) _ hp4 Tryz.underlying31 rfl j6 ?_)
    refine (HRW.out w3 hbw3).mono ?_
    rintro e w4 ⟨rfl, hb4⟩
    have hbw4 := hbw3.trans (hb4.mono hbw3.size)
    clear HRW hb4 hbw3 hp4 HP4
    have HL := hid (readsLaw_any w4 (HEN.out.below hbw4))
    go_wp2_with fail
    refine HL.out.mono ?_
    rintro e w5 ⟨rfl, hb5⟩
    have hbw5 := hbw4.trans (hb5.mono hbw4.size)
    clear HL hb5
    go_wp2_with fail
    go_ret
    exact ⟨rfl, hbw5⟩
  | true =>
    have he : e = .returned (.tuple #[.string (S8 T), .int .i64 0]) := hwp
    clear hwp
    subst he
    obtain rfl := HSM.out rfl
    have HRD1 := hid (HRD.out rfl)
    clear HRD HSM
    go_upto_region 3 with fail
    have hp4 := HP4.out
    go_wp2_with (refine wpList_load_row rfl 31 (.tmp 1) rfl w.heap.size rfl 31 (cmV c) (0, 0) _ hp4 Tryz.underlying31 rfl j6 ?_)
    refine (HRW.out w3 hbw3).mono ?_
    rintro e w4 ⟨rfl, hb4⟩
    have hbw4 := hbw3.trans (hb4.mono hbw3.size)
    have HP5 := hid (blk_below hp4 hb4 (blk_lt hp4))
    clear HRW hb4 hbw3 hp4 HP4
    go_wp2_with fail
    refine (HRD1.out w4 hbw4).mono ?_
    rintro e w5 ⟨rfl, hb5⟩
    have hbw5 := hbw4.trans (hb5.mono hbw4.size)
    have HP6 := hid (blk_below HP5.out hb5 (blk_lt HP5.out))
    clear HRD1 hb5 hbw4 HP5
    obtain ⟨hb6, hg6, hl6⟩ := box1 w5 (.cells (cmV c) 25)
    have HW6 := hid (And.intro hg6 (And.intro (blk_below HP6.out hb6 (blk_lt HP6.out)) (And.intro (hbw5.trans (hb6.mono hbw5.size)) hl6)))
    have hlp := blk_lt HP6.out
    clear hb6 hg6 hl6 HP6 hbw5
    go_upto_region 7 with (refine wpList_store_last rfl 25 (.tmp 7) (.tmp 67) rfl (cmV c) rfl rfl i6 rfl (cmV_one _) ?_)
    generalize w5.alloc (.cells (cmV c) 25) = w6 at *
    obtain ⟨hg6, hp6, hbw6, hl6⟩ := HW6.out
    clear HW6
    have hlp6 : w.heap.size < w6.heap.size := by omega
    have HL : Hid (∀ wS, Below w6.heap.size w6 wS → Calls Tryz.prog 10 #[] wS fun e w' => e = .returned (.bool true) ∧ Below wS.heap.size wS w') := fun wS hb => readsLaw_any wS (HEN.out.below (hbw6.trans (hb.mono hbw6.size)))
    have HGC : Hid (∀ wS, Below w6.heap.size w6 wS → wS.heap[w5.heap.size]? = some (.cells (cmV c) 25 (0, 0))) := fun wS hb => blk_below hg6 hb hl6
    have HGD : Hid (∀ wS, Below w6.heap.size w6 wS → wS.heap[w.heap.size]? = some (.cells (cmV c) 31 (0, 0))) := fun wS hb => blk_below hp6 hb hlp6
    clear hg6 hp6
    generalize S8 T2 = tx at *
    refine wp_region_loud (fun _ => False) [(0, plainL [] (.bool true)), (15, plainL [] (.agg (cmV c))), (16, plainL [] (.agg (cmV c))), (17, plainL [] (.agg (cmV c))), (18, plainL [] (.bool true))] (fun _ => Fact.none) (by kernel_rfl) (by kernel_rfl)
      (.cons (plainL_ok _ _) (.cons (plainL_ok _ _) (.cons (plainL_ok _ _) (.cons (plainL_ok _ _) (.cons (plainL_ok _ _) .nil))))) good_nothing sat_none (WX.out ?_)
    repeat (first | (refine wx_quietU (by rfl) (by rfl) (by rfl) (fun K hK => ?_); go_big_quiet_op; refine hK _ ?_; clear hK K) | (refine wx_quietG (by rfl) (by rfl) (by rfl) (by rfl) (by rfl) (fun K hK => ?_); go_big_quiet_op; refine hK _ ?_; clear hK K) | (refine wx_skipG (by rfl) (by rfl) (by rfl) (fun K hK => ?_); go_simp; refine hK _ ?_; clear hK K) | (refine wx_skipN (by rfl) (by rfl) (by rfl) (fun K hK => ?_); go_simp; refine hK _ ?_; clear hK K))
    refine wx_loudU (us := []) (by rfl) (by rfl) (fun S wS hC hS hU => runs_enter (f := 10) (by go_simp <;> rfl) ?_) (fun v hv K hK => ?_)
    · refine (HL.out wS hC.below).mono ?_
      rintro e w' ⟨rfl, hb⟩
      exact ⟨_, rfl, rfl, Kept.of_below hb, trivial⟩
    obtain rfl := hv; (go_simp; refine hK _ ?_; clear hK K)
    repeat (first | (refine wx_quietU (by rfl) (by rfl) (by rfl) (fun K hK => ?_); go_big_quiet_op; refine hK _ ?_; clear hK K) | (refine wx_quietG (by rfl) (by rfl) (by rfl) (by rfl) (by rfl) (fun K hK => ?_); go_big_quiet_op; refine hK _ ?_; clear hK K) | (refine wx_skipG (by rfl) (by rfl) (by rfl) (fun K hK => ?_); go_simp; refine hK _ ?_; clear hK K) | (refine wx_skipN (by rfl) (by rfl) (by rfl) (fun K hK => ?_); go_simp; refine hK _ ?_; clear hK K))
    refine wx_loudG (us := []) (by rfl) (by rfl) (by rfl) (by rfl) (fun S wS hC hS hU => ?_) (fun v hv K hK => ?_)
    · exact runs_load_whole 25 (.tmp 7) rfl w5.heap.size rfl 25 (cmV c) (0, 0) _ (HGC.out wS hC.below) Tryz.underlying25 rfl i6 ⟨rfl, Kept.refl _ _, trivial⟩
    obtain rfl := hv; (go_simp; refine hK _ ?_; clear hK K)
    repeat (first | (refine wx_quietU (by rfl) (by rfl) (by rfl) (fun K hK => ?_); go_big_quiet_op; refine hK _ ?_; clear hK K) | (refine wx_quietG (by rfl) (by rfl) (by rfl) (by rfl) (by rfl) (fun K hK => ?_); go_big_quiet_op; refine hK _ ?_; clear hK K) | (refine wx_skipG (by rfl) (by rfl) (by rfl) (fun K hK => ?_); go_simp; refine hK _ ?_; clear hK K) | (refine wx_skipN (by rfl) (by rfl) (by rfl) (fun K hK => ?_); go_simp; refine hK _ ?_; clear hK K))
    refine wx_loudG (us := []) (by rfl) (by rfl) (by rfl) (by rfl) (fun S wS hC hS hU => runs_enter (f := 11) (by go_simp <;> rfl) ?_) (fun v hv K hK => ?_)
    · refine (from_any c wS).mono ?_
      rintro e w' ⟨rfl, hb⟩
      exact ⟨_, rfl, rfl, Kept.of_below hb, trivial⟩
    obtain rfl := hv; (go_simp; refine hK _ ?_; clear hK K)
    repeat (first | (refine wx_quietU (by rfl) (by rfl) (by rfl) (fun K hK => ?_); go_big_quiet_op; refine hK _ ?_; clear hK K) | (refine wx_quietG (by rfl) (by rfl) (by rfl) (by rfl) (by rfl) (fun K hK => ?_); go_big_quiet_op; refine hK _ ?_; clear hK K) | (refine wx_skipG (by rfl) (by rfl) (by rfl) (fun K hK => ?_); go_simp; refine hK _ ?_; clear hK K) | (refine wx_skipN (by rfl) (by rfl) (by rfl) (fun K hK => ?_); go_simp; refine hK _ ?_; clear hK K))
    refine wx_loudG (us := []) (by rfl) (by rfl) (by rfl) (by rfl) (fun S wS hC hS hU => ?_) (fun v hv K hK => ?_)
    · exact runs_load_whole 31 (.tmp 1) rfl w.heap.size rfl 31 (cmV c) (0, 0) _ (HGD.out wS hC.below) Tryz.underlying31 rfl j6 ⟨rfl, Kept.refl _ _, trivial⟩
    obtain rfl := hv; (go_simp; refine hK _ ?_; clear hK K)
    repeat (first | (refine wx_quietU (by rfl) (by rfl) (by rfl) (fun K hK => ?_); go_big_quiet_op; refine hK _ ?_; clear hK K) | (refine wx_quietG (by rfl) (by rfl) (by rfl) (by rfl) (by rfl) (fun K hK => ?_); go_big_quiet_op; refine hK _ ?_; clear hK K) | (refine wx_skipG (by rfl) (by rfl) (by rfl) (fun K hK => ?_); go_simp; refine hK _ ?_; clear hK K) | (refine wx_skipN (by rfl) (by rfl) (by rfl) (fun K hK => ?_); go_simp; refine hK _ ?_; clear hK K))
    refine wx_loudG (us := []) (by rfl) (by rfl) (by rfl) (by rfl) (fun S wS hC hS hU => ?_) (fun v hv K hK => ?_)
    · exact runs_cmp (t := 31) (x := .tmp 85) (y := .tmp 86) (xs := cmV c) (ys := cmV c) rfl rfl rfl guardCmR (eqlCmR_same c _) ⟨rfl, Kept.refl _ _, trivial⟩
    obtain rfl := hv; (go_simp; refine hK _ ?_; clear hK K)
    repeat (first | (refine wx_quietU (by rfl) (by rfl) (by rfl) (fun K hK => ?_); go_big_quiet_op; refine hK _ ?_; clear hK K) | (refine wx_quietG (by rfl) (by rfl) (by rfl) (by rfl) (by rfl) (fun K hK => ?_); go_big_quiet_op; refine hK _ ?_; clear hK K) | (refine wx_skipG (by rfl) (by rfl) (by rfl) (fun K hK => ?_); go_simp; refine hK _ ?_; clear hK K) | (refine wx_skipN (by rfl) (by rfl) (by rfl) (fun K hK => ?_); go_simp; refine hK _ ?_; clear hK K))
    refine wx_nil fun w7 hsat => ?_
    have hb7 := sat_below hsat
    clear hsat HL HGC HGD
    go_wp2_with fail
    go_ret
    exact ⟨rfl, hbw6.trans (hb7.mono hbw6.size)⟩
end Go.Proofs.YtfojgimficdjhaaGreatDoor
