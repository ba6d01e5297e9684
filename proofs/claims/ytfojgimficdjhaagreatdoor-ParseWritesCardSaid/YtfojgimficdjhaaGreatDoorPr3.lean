/-
  Contracts of package parse: line, path.
-/
import Derived.Test.YtfojgimficdjhaaGreatDoorPr2
namespace Go.Proofs.YtfojgimficdjhaaGreatDoor
set_option linter.unusedVariables false
set_option linter.unusedSimpArgs false
open Go Go.RowKit

/-- a line and whether it can be -/
def LinePost (x : Option Ln) (e : Ending) : Prop := ∃ l b, e = .returned (.tuple #[.agg (lnV l), .bool b]) ∧ (if b = true then some l else none) = x
theorem i4 : (Tryz.prog.info? 23).map (·.size) = some 4 := by kernel_rfl
theorem i8 : (Tryz.prog.info? 99).map (·.size) = some 8 := by kernel_rfl
theorem grown1 {w w0 wz : World} {g : Nat} (hb : Below w.heap.size w w0) (hg : w0.grownBy wz (some g)) (h : w.heap.size ≤ g) : Below w.heap.size w wz := hb.trans ((Below.refl w.heap.size w0).grown hg hb.size (by intro k hk; injection hk with hk; omega))
theorem findR_kind (head : Int) (name : List UInt8) : (findR head name).1.kind = 0 ∨ (findR head name).1.kind = 1 ∨ (findR head name).1.kind = 2 ∨ (findR head name).1.kind = 3 ∨ (findR head name).1.kind = 4 := by
  unfold findR
  cases hf : TAB.find? (isR head name) with
  | none => exact .inl rfl
  | some r =>
    obtain ⟨j, hj, he⟩ := List.getElem_of_mem (List.mem_of_find?_eq_some hf)
    have := tab_kind j
    unfold tabAt at this
    rw [List.getD_eq_getElem?_getD, List.getElem?_eq_getElem hj, he] at this
    exact this
theorem namedW_sub (L : List (List UInt8)) (l : Ln) (r : List (List UInt8)) (h : namedW L = some (l, r)) : ∀ x ∈ r, x ∈ L := by
  unfold namedW at h
  split at h
  · injection h with h; injection h with _ h; subst h; intro x hx; exact hx
  · split at h
    · injection h with h; injection h with _ h; subst h; intro x hx; exact hx
    · split at h
      · cases h
      · split at h
        · injection h with h; injection h with _ h; subst h; intro x hx; exact List.mem_cons_of_mem _ (List.mem_cons_of_mem _ hx)
        · cases h
-- the line lies in a block of its own: w2, block g
set_option maxRecDepth 100000 in
set_option maxHeartbeats 1600000 in
theorem line_none (L : List (List UInt8)) (A : Option Addr) (n c : Nat) (w : World) (h : Sl w 1 (.slice A n c) (STR L)) (hL : ∀ x ∈ L, x.length ≤ 100000) (hen : Env w) (hN : namedW L = none) :
    Calls Tryz.prog 73 #[.slice A n c] w fun e w' => LinePost none e ∧ Below w.heap.size w w' := by
  have HNM : Hid (∀ w', Below w.heap.size w w' → Calls Tryz.prog 99 #[.slice A n c] w' fun e w'' => NamedPost L e w'' ∧ Below w'.heap.size w' w'') := fun w' hb => pnamed_any L A n c w' (h.below hb) hL (hen.below hb)
  have HN := hid hN
  have HEN := hid hen
  clear hN h hL hen
  obtain ⟨hb0, hx0, hl0⟩ := box1 w (.cells #[.int .i64 0, .string ⟨#[]⟩, .string ⟨#[]⟩, .string ⟨#[]⟩] 23)
  go_enter Tryz.func73, Tryz.ntmps73
  go_upto_region 1 with fail
  generalize w.alloc (.cells #[.int .i64 0, .string ⟨#[]⟩, .string ⟨#[]⟩, .string ⟨#[]⟩] 23) = w0 at *
  go_wp2_with fail
  refine (HNM.out w0 hb0).mono ?_
  rintro e w1 ⟨hnp, hb1⟩
  unfold NamedPost at hnp
  rw [HN.out] at hnp
  replace hx0 := blk_below hx0 hb1 hl0
  replace hb0 := hb0.trans (hb1.mono hb0.size)
  clear hb1 HNM HN hl0
  subst hnp
  obtain ⟨hb2, hg2, hl2⟩ := box1 w1 (.cells (lnV ln0) 23)
  have hx2 := blk_below hx0 hb2 (blk_lt hx0)
  have hbw2 := hb0.trans (hb2.mono hb0.size)
  have hlt0 := blk_lt hx0
  have hge := hb0.size
  go_upto_region 2 with (refine wpList_store_last rfl 23 (.tmp 4) (.tmp 12) rfl (lnV ln0) rfl rfl i4 rfl (lnV_one _) ?_)
  generalize w1.alloc (.cells (lnV ln0) 23) = w2 at *
  clear hx0 hb0
  go_wp2_with (refine wpList_store_whole rfl 23 (.tmp 2) (.tmp 22) rfl (lnV ln0) rfl rfl hx2 i4 rfl (lnV_one _) ?_)
  intro wz hgz hgrz
  have hbz := grown1 hbw2 hgrz (Nat.le_refl _)
  go_wp2_with fail
  exact ret_row2 (fn := Tryz.f73) (x := .bool false) (cs := lnV ln0) rfl rfl rfl hgz Tryz.underlying23 rfl i4 rfl ⟨⟨ln0, false, rfl, rfl⟩, hbz⟩
set_option maxRecDepth 100000 in
set_option maxHeartbeats 1600000 in
theorem line_odd (L : List (List UInt8)) (A : Option Addr) (n c : Nat) (w : World) (h : Sl w 1 (.slice A n c) (STR L)) (hL : ∀ x ∈ L, x.length ≤ 100000) (hen : Env w) (l : Ln) (r : List (List UInt8)) (hN : namedW L = some (l, r)) (hr : r.length ≠ 2) :
    Calls Tryz.prog 73 #[.slice A n c] w fun e w' => LinePost none e ∧ Below w.heap.size w w' := by
  have t2 : ((r.length : Int) != 2) = true := by rw [bne_iff_ne]; omega
  clear hr
  have HNM : Hid (∀ w', Below w.heap.size w w' → Calls Tryz.prog 99 #[.slice A n c] w' fun e w'' => NamedPost L e w'' ∧ Below w'.heap.size w' w'') := fun w' hb => pnamed_any L A n c w' (h.below hb) hL (hen.below hb)
  have HN := hid hN
  have HEN := hid hen
  clear hN h hL hen
  obtain ⟨hb0, hx0, hl0⟩ := box1 w (.cells #[.int .i64 0, .string ⟨#[]⟩, .string ⟨#[]⟩, .string ⟨#[]⟩] 23)
  go_enter Tryz.func73, Tryz.ntmps73
  go_upto_region 1 with fail
  generalize w.alloc (.cells #[.int .i64 0, .string ⟨#[]⟩, .string ⟨#[]⟩, .string ⟨#[]⟩] 23) = w0 at *
  go_wp2_with fail
  refine (HNM.out w0 hb0).mono ?_
  rintro e w1 ⟨hnp, hb1⟩
  unfold NamedPost at hnp
  rw [HN.out] at hnp
  replace hx0 := blk_below hx0 hb1 hl0
  replace hb0 := hb0.trans (hb1.mono hb0.size)
  clear hb1 HNM HN hl0
  obtain ⟨A', c', rfl, hs⟩ := hnp
  obtain ⟨hb2, hg2, hl2⟩ := box1 w1 (.cells (lnV l) 23)
  have hx2 := blk_below hx0 hb2 (blk_lt hx0)
  have hbw2 := hb0.trans (hb2.mono hb0.size)
  have hlt0 := blk_lt hx0
  have hge := hb0.size
  go_upto_region 2 with (refine wpList_store_last rfl 23 (.tmp 4) (.tmp 12) rfl (lnV l) rfl rfl i4 rfl (lnV_one _) ?_)
  generalize w1.alloc (.cells (lnV l) 23) = w2 at *
  clear hx0 hb0
  go_wp2_with (refine wpList_store_whole rfl 23 (.tmp 2) (.tmp 22) rfl (lnV ln0) rfl rfl hx2 i4 rfl (lnV_one _) ?_)
  intro wz hgz hgrz
  have hbz := grown1 hbw2 hgrz (Nat.le_refl _)
  go_wp2_with fail
  exact ret_row2 (fn := Tryz.f73) (x := .bool false) (cs := lnV ln0) rfl rfl rfl hgz Tryz.underlying23 rfl i4 rfl ⟨⟨ln0, false, rfl, rfl⟩, hbz⟩
set_option maxRecDepth 100000 in
set_option maxHeartbeats 3200000 in
theorem line_two (L : List (List UInt8)) (A : Option Addr) (n c : Nat) (w : World) (h : Sl w 1 (.slice A n c) (STR L)) (hL : ∀ x ∈ L, x.length ≤ 100000) (hen : Env w) (l : Ln) (leaf value : List UInt8) (hN : namedW L = some (l, [leaf, value])) (hlf : leaf.length ≤ 100000) (hvl : value.length ≤ 100000) :
    Calls Tryz.prog 73 #[.slice A n c] w fun e w' => LinePost (lineW L) e ∧ Below w.heap.size w w' := by
  have HLW : Hid (lineW L = if ((findR l.head leaf).2 && rightR (findR l.head leaf).1 value) = true then some ⟨l.head, l.name, leaf, value⟩ else none) := by
    show _ = _
    unfold lineW
    rw [hN]
  have HNM : Hid (∀ w', Below w.heap.size w w' → Calls Tryz.prog 99 #[.slice A n c] w' fun e w'' => NamedPost L e w'' ∧ Below w'.heap.size w' w'') := fun w' hb => pnamed_any L A n c w' (h.below hb) hL (hen.below hb)
  have HN := hid hN
  have HEN := hid hen
  clear hN h hL hen
  obtain ⟨hb0, hx0, hl0⟩ := box1 w (.cells #[.int .i64 0, .string ⟨#[]⟩, .string ⟨#[]⟩, .string ⟨#[]⟩] 23)
  go_enter Tryz.func73, Tryz.ntmps73
  go_upto_region 1 with fail
  generalize w.alloc (.cells #[.int .i64 0, .string ⟨#[]⟩, .string ⟨#[]⟩, .string ⟨#[]⟩] 23) = w0 at *
  go_wp2_with fail
  refine (HNM.out w0 hb0).mono ?_
  rintro e w1 ⟨hnp, hb1⟩
  unfold NamedPost at hnp
  rw [HN.out] at hnp
  replace hx0 := blk_below hx0 hb1 hl0
  replace hb0 := hb0.trans (hb1.mono hb0.size)
  clear hb1 HNM HN hl0
  obtain ⟨A', c', rfl, hs⟩ := hnp
  have hlen2 : [leaf, value].length = 2 := rfl
  rw [hlen2] at hs
  rw [hlen2]
  clear hlen2
  obtain ⟨b, off, rfl, hbl, p0⟩ := STR_cell hs (k := 0) (by omega)
  obtain ⟨b1, off1, he1, -, p1⟩ := STR_cell hs (k := 1) (by omega)
  injection he1 with he1
  injection he1 with he1 he2
  subst he1
  subst he2
  simp only [List.getD_cons_zero, List.getD_cons_succ, Nat.add_zero] at p0 p1
  clear hs
  obtain ⟨hb2, hg2, hl2⟩ := box1 w1 (.cells (lnV l) 23)
  have hx2 := blk_below hx0 hb2 (blk_lt hx0)
  have hbw2 := hb0.trans (hb2.mono hb0.size)
  have hlt0 := blk_lt hx0
  have hge := hb0.size
  go_upto_region 2 with (refine wpList_store_last rfl 23 (.tmp 4) (.tmp 12) rfl (lnV l) rfl rfl i4 rfl (lnV_one _) ?_)
  generalize w1.alloc (.cells (lnV l) 23) = w2 at *
  clear hx0 hb0
  have q0 := (hb2.cell (p := ⟨b, off, none⟩) hbl).trans p0
  have q1 := (hb2.cell (p := ⟨b, off + 1, none⟩) hbl).trans p1
  clear p0 p1 hb2
  have hbl2 : b < w2.heap.size := by omega
  go_wp2_with fail
  have y0 := fun (z : WK (fun b => b = w1.heap.size) w2) => (wat_cell (p := ⟨b, off, none⟩) hbl2 (fun e => by have e2 : b = w1.heap.size := e; omega) z).trans q0
  have y1 := fun (z : WK (fun b => b = w1.heap.size) w2) => (wat_cell (p := ⟨b, off + 1, none⟩) hbl2 (fun e => by have e2 : b = w1.heap.size := e; omega) z).trans q1
  clear q0 q1
  refine wp_region_loud (fun b => b = w1.heap.size) [(7, keepL [100] (BlkF w1.heap.size 23 (lnV ⟨l.head, l.name, leaf, l.value⟩))), (9, keepL [7] (BlkF w1.heap.size 23 (lnV ⟨l.head, l.name, leaf, value⟩)))] (labelled 100 (BlkF w1.heap.size 23 (lnV l))) (by kernel_rfl) (by kernel_rfl)
    (.cons (keepL_ok _ (good_blk _ _ _)) (.cons (keepL_ok _ (good_blk _ _ _)) .nil)) (good_one 100 (good_blk _ _ _)) (sat_one 100 _ (fun g hg => by have e2 : g = w1.heap.size := hg; omega) ⟨rfl, hg2⟩) (WX.out ?_)
  repeat (first | (refine wx_quietU (by rfl) (by rfl) (by rfl) (fun K hK => ?_); go_big_quiet_op; refine hK _ ?_; clear hK K) | (refine wx_quietG (by rfl) (by rfl) (by rfl) (by rfl) (by rfl) (fun K hK => ?_); go_big_quiet_op; refine hK _ ?_; clear hK K) | (refine wx_skipG (by rfl) (by rfl) (by rfl) (fun K hK => ?_); go_simp; refine hK _ ?_; clear hK K) | (refine wx_skipN (by rfl) (by rfl) (by rfl) (fun K hK => ?_); go_simp; refine hK _ ?_; clear hK K))
  refine wx_loudU (us := [100]) (by rfl) (by rfl) (fun S wS hC hS hU => ?_) (fun v hv K hK => ?_)
  · have hB : BlkF w1.heap.size 23 (lnV l) S wS := hU 100 (by simp)
    obtain ⟨hc, hf⟩ := blkF_cells hB
    exact runs_skip (by go_simp <;> rfl) ⟨trivial, (blkF_set (i := 2) hB (.string (S8 leaf))).1, (blkF_set (i := 2) hB (.string (S8 leaf))).2⟩
  (go_simp; refine hK _ ?_; clear hK K)
  repeat (first | (refine wx_quietU (by rfl) (by rfl) (by rfl) (fun K hK => ?_); go_big_quiet_op; refine hK _ ?_; clear hK K) | (refine wx_quietG (by rfl) (by rfl) (by rfl) (by rfl) (by rfl) (fun K hK => ?_); go_big_quiet_op; refine hK _ ?_; clear hK K) | (refine wx_skipG (by rfl) (by rfl) (by rfl) (fun K hK => ?_); go_simp; refine hK _ ?_; clear hK K) | (refine wx_skipN (by rfl) (by rfl) (by rfl) (fun K hK => ?_); go_simp; refine hK _ ?_; clear hK K))
  refine wx_loudU (us := [7]) (by rfl) (by rfl) (fun S wS hC hS hU => ?_) (fun v hv K hK => ?_)
  · have hB : BlkF w1.heap.size 23 (lnV ⟨l.head, l.name, leaf, l.value⟩) S wS := hU 7 (by simp)
    obtain ⟨hc, hf⟩ := blkF_cells hB
    exact runs_skip (by go_simp <;> rfl) ⟨trivial, (blkF_set (i := 3) hB (.string (S8 value))).1, (blkF_set (i := 3) hB (.string (S8 value))).2⟩
  (go_simp; refine hK _ ?_; clear hK K)
  repeat (first | (refine wx_quietU (by rfl) (by rfl) (by rfl) (fun K hK => ?_); go_big_quiet_op; refine hK _ ?_; clear hK K) | (refine wx_quietG (by rfl) (by rfl) (by rfl) (by rfl) (by rfl) (fun K hK => ?_); go_big_quiet_op; refine hK _ ?_; clear hK K) | (refine wx_skipG (by rfl) (by rfl) (by rfl) (fun K hK => ?_); go_simp; refine hK _ ?_; clear hK K) | (refine wx_skipN (by rfl) (by rfl) (by rfl) (fun K hK => ?_); go_simp; refine hK _ ?_; clear hK K))
  refine wx_nil fun w3 hsat => ?_
  obtain ⟨S9, hS9, hF9⟩ := sat_get hsat 9
  have hg3 := (show BlkF w1.heap.size 23 (lnV ⟨l.head, l.name, leaf, value⟩) S9 w3 from hF9).2
  have hx3 := (hsat.1.block w.heap.size (by omega) (fun e => by have e2 : w.heap.size = w1.heap.size := e; omega)).trans hx2
  have hbw3 := hbw2.trans (hsat.1.below_of (B := w.heap.size) (by omega) (fun g hg => by have e2 : g = w1.heap.size := hg; omega))
  have hs13 := hsat.1.size
  clear hsat hF9 hS9 y0 y1 hg2 hx2 hbw2 hbl2
  have c0 : w3.cell? ⟨w1.heap.size, 0, none⟩ = some (.int .i64 l.head) := blkCell hg3 0
  have c2 : w3.cell? ⟨w1.heap.size, 2, none⟩ = some (.string (S8 leaf)) := blkCell hg3 2
  have hF := find_new l.head (S8 leaf) w3
  rw [bl_S8] at hF
  have hfk := findR_kind l.head leaf
  have hfc := findR_cho l.head leaf
  generalize findR l.head leaf = FR at *
  obtain ⟨row, fb⟩ := FR
  simp only at hF HLW hfk hfc
  have HF := hid hF
  clear hF
  go_wp2_with fail
  refine HF.out.mono ?_
  rintro e w4 ⟨Aq, rfl, hb4, hch, hcf⟩
  clear HF c0 c2
  have hg4 := blk_below hg3 hb4 (by omega)
  have hx4 := blk_below hx3 hb4 (by omega)
  have hbw4 := hbw3.trans (hb4.mono hbw3.size)
  have hs34 := hb4.size
  clear hg3 hx3 hbw3 hb4
  have hi8 : (Tryz.prog.info? 99).map (·.size) = some (rwV row Aq).size := i8
  obtain ⟨hb5, hr5, hl5⟩ := box1 w4 (.cells (rwV row Aq) 99)
  have hg5 := blk_below hg4 hb5 (by omega)
  have hx5 := blk_below hx4 hb5 (by omega)
  have hbw5 := hbw4.trans (hb5.mono hbw4.size)
  replace hch := hch.below hb5
  go_upto_region 6 with (refine wpList_store_last rfl 99 (.tmp 7) (.tmp 37) rfl (rwV row Aq) rfl rfl hi8 rfl (rwV_one _ _) ?_)
  generalize w4.alloc (.cells (rwV row Aq) 99) = w5 at *
  clear hg4 hx4 hbw4 hb5
  have hen5 := HEN.out.below hbw5
  have c3 : w5.cell? ⟨w1.heap.size, 3, none⟩ = some (.string (S8 value)) := blkCell hg5 3
  have y3 := fun (z : WK (fun b => b = w.heap.size) w5) => (wat_cell (p := ⟨w1.heap.size, 3, none⟩) (by show w1.heap.size < _; omega) (fun e => by have e2 : w1.heap.size = w.heap.size := e; omega) z).trans c3
  clear c3
  have hgl : ∀ wS, Kept (fun b => b = w.heap.size) w5 wS → wS.heap[w1.heap.size]? = some (.cells (lnV ⟨l.head, l.name, leaf, value⟩) 23 (0, 0)) := fun wS hC => (hC.block w1.heap.size (by omega) (fun e => by have e2 : w1.heap.size = w.heap.size := e; omega)).trans hg5
  have hrl : ∀ wS, Kept (fun b => b = w.heap.size) w5 wS → wS.heap[w4.heap.size]? = some (.cells (rwV row Aq) 99 (0, 0)) := fun wS hC => (hC.block w4.heap.size (by omega) (fun e => by have e2 : w4.heap.size = w.heap.size := e; omega)).trans hr5
  have HGL := hid hgl
  have HRL := hid hrl
  clear hgl hrl hg5 hr5
  have HRT : Hid (∀ wS, Kept (fun b => b = w.heap.size) w5 wS → Calls Tryz.prog 85 #[.agg (rwV row Aq), .string (S8 value)] wS fun e w' => e = .returned (.bool (rightR row value)) ∧ Below wS.heap.size wS w') := by
    intro wS hC
    have := right_any row Aq (S8 value) wS (by rw [S8_size]; omega) (HEN.out.below (hbw5.trans (hC.below_of (B := w.heap.size) (by omega) (fun g hg => by have e2 : g = w.heap.size := hg; omega)))) (sl_kept hch hC (fun ad had e => by have := hcf ad had; have e2 : ad.block = w.heap.size := e; omega)) (by omega) hfk
    rw [bl_S8] at this
    exact this
  clear hen5 hch hcf hfk hfc
  have hx9 := (hid hx5)
  have hl0 : w.heap.size < w5.heap.size := by omega
  have HL2 : Hid (l.head = l.head) := rfl
  generalize rightR row value = rb at *
  cases fb with
  | false =>
    have HF : Hid (lineW L = none) := by show _ = _; rw [HLW.out]; rfl
    clear HLW HRT HRL
    refine wp_region_loud (fun b => b = w.heap.size) [(0, plainL [] (.agg (lnV ⟨l.head, l.name, leaf, value⟩))), (8, keepL [100] (BlkF w.heap.size 23 (lnV ⟨l.head, l.name, leaf, value⟩)))] (labelled 100 (BlkF w.heap.size 23 #[.int .i64 0, .string ⟨#[]⟩, .string ⟨#[]⟩, .string ⟨#[]⟩])) (by kernel_rfl) (by kernel_rfl)
      (.cons (plainL_ok _ _) (.cons (keepL_ok _ (good_blk _ _ _)) .nil)) (good_one 100 (good_blk _ _ _)) (sat_one 100 _ (fun g hg => by have e2 : g = w.heap.size := hg; omega) ⟨rfl, hx5⟩) (WX.out ?_)
    clear hx5 hx9
    repeat (first | (refine wx_quietU (by rfl) (by rfl) (by rfl) (fun K hK => ?_); go_big_quiet_op; refine hK _ ?_; clear hK K) | (refine wx_quietG (by rfl) (by rfl) (by rfl) (by rfl) (by rfl) (fun K hK => ?_); go_big_quiet_op; refine hK _ ?_; clear hK K) | (refine wx_skipG (by rfl) (by rfl) (by rfl) (fun K hK => ?_); go_simp; refine hK _ ?_; clear hK K) | (refine wx_skipN (by rfl) (by rfl) (by rfl) (fun K hK => ?_); go_simp; refine hK _ ?_; clear hK K))
    refine wx_loudU (us := []) (by rfl) (by rfl) (fun S wS hC hS hU => ?_) (fun v hv K hK => ?_)
    · exact runs_load_whole 23 (.tmp 4) rfl w1.heap.size rfl 23 (lnV ⟨l.head, l.name, leaf, value⟩) (0, 0) _ (HGL.out wS hC) Tryz.underlying23 rfl i4 ⟨rfl, Kept.refl _ _, trivial⟩
    obtain rfl := hv; (go_simp; refine hK _ ?_; clear hK K)
    repeat (first | (refine wx_quietU (by rfl) (by rfl) (by rfl) (fun K hK => ?_); go_big_quiet_op; refine hK _ ?_; clear hK K) | (refine wx_quietG (by rfl) (by rfl) (by rfl) (by rfl) (by rfl) (fun K hK => ?_); go_big_quiet_op; refine hK _ ?_; clear hK K) | (refine wx_skipG (by rfl) (by rfl) (by rfl) (fun K hK => ?_); go_simp; refine hK _ ?_; clear hK K) | (refine wx_skipN (by rfl) (by rfl) (by rfl) (fun K hK => ?_); go_simp; refine hK _ ?_; clear hK K))
    refine wx_loudU (us := [100]) (by rfl) (by rfl) (fun S wS hC hS hU => ?_) (fun v hv K hK => ?_)
    · have hB : BlkF w.heap.size 23 #[.int .i64 0, .string ⟨#[]⟩, .string ⟨#[]⟩, .string ⟨#[]⟩] S wS := hU 100 (by simp)
      exact runs_store_whole 23 (.tmp 2) (.tmp 39) rfl (lnV ⟨l.head, l.name, leaf, value⟩) rfl rfl hB.2 i4 rfl (lnV_one _) ⟨trivial, kept_setRow wS w.heap.size _ hB.1, .inl hB.1, setRow_heap _ _ _ _ _ _ hB.2⟩
    (go_simp; refine hK _ ?_; clear hK K)
    repeat (first | (refine wx_quietU (by rfl) (by rfl) (by rfl) (fun K hK => ?_); go_big_quiet_op; refine hK _ ?_; clear hK K) | (refine wx_quietG (by rfl) (by rfl) (by rfl) (by rfl) (by rfl) (fun K hK => ?_); go_big_quiet_op; refine hK _ ?_; clear hK K) | (refine wx_skipG (by rfl) (by rfl) (by rfl) (fun K hK => ?_); go_simp; refine hK _ ?_; clear hK K) | (refine wx_skipN (by rfl) (by rfl) (by rfl) (fun K hK => ?_); go_simp; refine hK _ ?_; clear hK K))
    refine wx_nil fun wz hsat => ?_
    obtain ⟨S9, hS9, hF9⟩ := sat_get hsat 8
    have hgz := (show BlkF w.heap.size 23 (lnV ⟨l.head, l.name, leaf, value⟩) S9 wz from hF9).2
    have hbz := hbw5.trans (hsat.1.below_of (B := w.heap.size) (by omega) (fun g hg => by have e2 : g = w.heap.size := hg; omega))
    clear hsat hF9 hS9 y3
    go_wp2_with fail
    refine ret_row2 (fn := Tryz.f73) (cs := lnV ⟨l.head, l.name, leaf, value⟩) rfl rfl rfl hgz Tryz.underlying23 rfl i4 rfl ?_
    exact ⟨⟨_, _, rfl, HF.out.symm⟩, hbz⟩
  | true =>
    have HF : Hid (lineW L = if rb = true then some ⟨l.head, l.name, leaf, value⟩ else none) := by show _ = _; rw [HLW.out]; rfl
    clear HLW
    refine wp_region_loud (fun b => b = w.heap.size) [(0, plainL [] (.agg (lnV ⟨l.head, l.name, leaf, value⟩))), (3, plainL [] (.agg (rwV row Aq))), (6, plainL [] (.bool rb)), (8, keepL [100] (BlkF w.heap.size 23 (lnV ⟨l.head, l.name, leaf, value⟩)))] (labelled 100 (BlkF w.heap.size 23 #[.int .i64 0, .string ⟨#[]⟩, .string ⟨#[]⟩, .string ⟨#[]⟩])) (by kernel_rfl) (by kernel_rfl)
      (.cons (plainL_ok _ _) (.cons (plainL_ok _ _) (.cons (plainL_ok _ _) (.cons (keepL_ok _ (good_blk _ _ _)) .nil)))) (good_one 100 (good_blk _ _ _)) (sat_one 100 _ (fun g hg => by have e2 : g = w.heap.size := hg; omega) ⟨rfl, hx5⟩) (WX.out ?_)
    clear hx5 hx9
    repeat (first | (refine wx_quietU (by rfl) (by rfl) (by rfl) (fun K hK => ?_); go_big_quiet_op; refine hK _ ?_; clear hK K) | (refine wx_quietG (by rfl) (by rfl) (by rfl) (by rfl) (by rfl) (fun K hK => ?_); go_big_quiet_op; refine hK _ ?_; clear hK K) | (refine wx_skipG (by rfl) (by rfl) (by rfl) (fun K hK => ?_); go_simp; refine hK _ ?_; clear hK K) | (refine wx_skipN (by rfl) (by rfl) (by rfl) (fun K hK => ?_); go_simp; refine hK _ ?_; clear hK K))
    refine wx_loudU (us := []) (by rfl) (by rfl) (fun S wS hC hS hU => ?_) (fun v hv K hK => ?_)
    · exact runs_load_whole 23 (.tmp 4) rfl w1.heap.size rfl 23 (lnV ⟨l.head, l.name, leaf, value⟩) (0, 0) _ (HGL.out wS hC) Tryz.underlying23 rfl i4 ⟨rfl, Kept.refl _ _, trivial⟩
    obtain rfl := hv; (go_simp; refine hK _ ?_; clear hK K)
    repeat (first | (refine wx_quietU (by rfl) (by rfl) (by rfl) (fun K hK => ?_); go_big_quiet_op; refine hK _ ?_; clear hK K) | (refine wx_quietG (by rfl) (by rfl) (by rfl) (by rfl) (by rfl) (fun K hK => ?_); go_big_quiet_op; refine hK _ ?_; clear hK K) | (refine wx_skipG (by rfl) (by rfl) (by rfl) (fun K hK => ?_); go_simp; refine hK _ ?_; clear hK K) | (refine wx_skipN (by rfl) (by rfl) (by rfl) (fun K hK => ?_); go_simp; refine hK _ ?_; clear hK K))
    refine wx_loudG (us := []) (by rfl) (by rfl) (by rfl) (by rfl) (fun S wS hC hS hU => ?_) (fun v hv K hK => ?_)
    · exact runs_load_whole 99 (.tmp 7) rfl w4.heap.size rfl 99 (rwV row Aq) (0, 0) _ (HRL.out wS hC) Tryz.underlying99 rfl i8 ⟨rfl, Kept.refl _ _, trivial⟩
    obtain rfl := hv; (go_simp; refine hK _ ?_; clear hK K)
    repeat (first | (refine wx_quietU (by rfl) (by rfl) (by rfl) (fun K hK => ?_); go_big_quiet_op; refine hK _ ?_; clear hK K) | (refine wx_quietG (by rfl) (by rfl) (by rfl) (by rfl) (by rfl) (fun K hK => ?_); go_big_quiet_op; refine hK _ ?_; clear hK K) | (refine wx_skipG (by rfl) (by rfl) (by rfl) (fun K hK => ?_); go_simp; refine hK _ ?_; clear hK K) | (refine wx_skipN (by rfl) (by rfl) (by rfl) (fun K hK => ?_); go_simp; refine hK _ ?_; clear hK K))
    refine wx_loudG (us := []) (by rfl) (by rfl) (by rfl) (by rfl) (fun S wS hC hS hU => runs_enter (f := 85) (by go_simp <;> rfl) ?_) (fun v hv K hK => ?_)
    · refine (HRT.out wS hC).mono ?_
      rintro e w' ⟨rfl, hb⟩
      exact ⟨_, rfl, rfl, Kept.of_below hb, trivial⟩
    obtain rfl := hv; (go_simp; refine hK _ ?_; clear hK K)
    repeat (first | (refine wx_quietU (by rfl) (by rfl) (by rfl) (fun K hK => ?_); go_big_quiet_op; refine hK _ ?_; clear hK K) | (refine wx_quietG (by rfl) (by rfl) (by rfl) (by rfl) (by rfl) (fun K hK => ?_); go_big_quiet_op; refine hK _ ?_; clear hK K) | (refine wx_skipG (by rfl) (by rfl) (by rfl) (fun K hK => ?_); go_simp; refine hK _ ?_; clear hK K) | (refine wx_skipN (by rfl) (by rfl) (by rfl) (fun K hK => ?_); go_simp; refine hK _ ?_; clear hK K))
    refine wx_loudU (us := [100]) (by rfl) (by rfl) (fun S wS hC hS hU => ?_) (fun v hv K hK => ?_)
    · have hB : BlkF w.heap.size 23 #[.int .i64 0, .string ⟨#[]⟩, .string ⟨#[]⟩, .string ⟨#[]⟩] S wS := hU 100 (by simp)
      exact runs_store_whole 23 (.tmp 2) (.tmp 39) rfl (lnV ⟨l.head, l.name, leaf, value⟩) rfl rfl hB.2 i4 rfl (lnV_one _) ⟨trivial, kept_setRow wS w.heap.size _ hB.1, .inl hB.1, setRow_heap _ _ _ _ _ _ hB.2⟩
    (go_simp; refine hK _ ?_; clear hK K)
    repeat (first | (refine wx_quietU (by rfl) (by rfl) (by rfl) (fun K hK => ?_); go_big_quiet_op; refine hK _ ?_; clear hK K) | (refine wx_quietG (by rfl) (by rfl) (by rfl) (by rfl) (by rfl) (fun K hK => ?_); go_big_quiet_op; refine hK _ ?_; clear hK K) | (refine wx_skipG (by rfl) (by rfl) (by rfl) (fun K hK => ?_); go_simp; refine hK _ ?_; clear hK K) | (refine wx_skipN (by rfl) (by rfl) (by rfl) (fun K hK => ?_); go_simp; refine hK _ ?_; clear hK K))
    refine wx_nil fun wz hsat => ?_
    obtain ⟨S9, hS9, hF9⟩ := sat_get hsat 8
    have hgz := (show BlkF w.heap.size 23 (lnV ⟨l.head, l.name, leaf, value⟩) S9 wz from hF9).2
    have hbz := hbw5.trans (hsat.1.below_of (B := w.heap.size) (by omega) (fun g hg => by have e2 : g = w.heap.size := hg; omega))
    clear hsat hF9 hS9 y3
    go_wp2_with fail
    refine ret_row2 (fn := Tryz.f73) (cs := lnV ⟨l.head, l.name, leaf, value⟩) rfl rfl rfl hgz Tryz.underlying23 rfl i4 rfl ?_
    exact ⟨⟨_, _, rfl, HF.out.symm⟩, hbz⟩
theorem line_any (L : List (List UInt8)) (A : Option Addr) (n c : Nat) (w : World) (h : Sl w 1 (.slice A n c) (STR L)) (hL : ∀ x ∈ L, x.length ≤ 100000) (hen : Env w) :
    Calls Tryz.prog 73 #[.slice A n c] w fun e w' => LinePost (lineW L) e ∧ Below w.heap.size w w' := by
  cases hN : namedW L with
  | none =>
    have := line_none L A n c w h hL hen hN
    unfold lineW
    rw [hN]
    exact this
  | some p =>
    obtain ⟨l, r⟩ := p
    have hsub := namedW_sub L l r hN
    match r, hsub with
    | [leaf, value], hsub => exact line_two L A n c w h hL hen l leaf value hN (hL _ (hsub _ (by simp))) (hL _ (hsub _ (by simp)))
    | [], hsub =>
      have := line_odd L A n c w h hL hen l [] hN (by simp)
      unfold lineW
      rw [hN]
      exact this
    | [x], hsub =>
      have := line_odd L A n c w h hL hen l [x] hN (by simp)
      unfold lineW
      rw [hN]
      exact this
    | x :: y :: z :: r, hsub =>
      have := line_odd L A n c w h hL hen l (x :: y :: z :: r) hN (by simp)
      unfold lineW
      rw [hN]
      exact this
set_option maxRecDepth 100000 in
set_option maxHeartbeats 1600000 in
theorem path_none (L : List (List UInt8)) (A : Option Addr) (n c : Nat) (w : World) (h : Sl w 1 (.slice A n c) (STR L)) (hL : ∀ x ∈ L, x.length ≤ 100000) (hen : Env w) (hN : namedW L = none) :
    Calls Tryz.prog 74 #[.slice A n c] w fun e w' => LinePost none e ∧ Below w.heap.size w w' := by
  have HNM : Hid (∀ w', Below w.heap.size w w' → Calls Tryz.prog 99 #[.slice A n c] w' fun e w'' => NamedPost L e w'' ∧ Below w'.heap.size w' w'') := fun w' hb => pnamed_any L A n c w' (h.below hb) hL (hen.below hb)
  have HN := hid hN
  have HEN := hid hen
  clear hN h hL hen
  obtain ⟨hb0, hx0, hl0⟩ := box1 w (.cells #[.int .i64 0, .string ⟨#[]⟩, .string ⟨#[]⟩, .string ⟨#[]⟩] 23)
  go_enter Tryz.func74, Tryz.ntmps74
  go_upto_region 1 with fail
  generalize w.alloc (.cells #[.int .i64 0, .string ⟨#[]⟩, .string ⟨#[]⟩, .string ⟨#[]⟩] 23) = w0 at *
  go_wp2_with fail
  refine (HNM.out w0 hb0).mono ?_
  rintro e w1 ⟨hnp, hb1⟩
  unfold NamedPost at hnp
  rw [HN.out] at hnp
  replace hx0 := blk_below hx0 hb1 hl0
  replace hb0 := hb0.trans (hb1.mono hb0.size)
  clear hb1 HNM HN hl0
  subst hnp
  obtain ⟨hb2, hg2, hl2⟩ := box1 w1 (.cells (lnV ln0) 23)
  have hx2 := blk_below hx0 hb2 (blk_lt hx0)
  have hbw2 := hb0.trans (hb2.mono hb0.size)
  have hlt0 := blk_lt hx0
  have hge := hb0.size
  go_upto_region 2 with (refine wpList_store_last rfl 23 (.tmp 4) (.tmp 12) rfl (lnV ln0) rfl rfl i4 rfl (lnV_one _) ?_)
  generalize w1.alloc (.cells (lnV ln0) 23) = w2 at *
  clear hx0 hb0
  go_wp2_with (refine wpList_store_whole rfl 23 (.tmp 2) (.tmp 18) rfl (lnV ln0) rfl rfl hx2 i4 rfl (lnV_one _) ?_)
  intro wz hgz hgrz
  have hbz := grown1 hbw2 hgrz (Nat.le_refl _)
  go_wp2_with fail
  exact ret_row2 (fn := Tryz.f74) (x := .bool false) (cs := lnV ln0) rfl rfl rfl hgz Tryz.underlying23 rfl i4 rfl ⟨⟨ln0, false, rfl, rfl⟩, hbz⟩
set_option maxRecDepth 100000 in
set_option maxHeartbeats 1600000 in
theorem path_more (L : List (List UInt8)) (A : Option Addr) (n c : Nat) (w : World) (h : Sl w 1 (.slice A n c) (STR L)) (hL : ∀ x ∈ L, x.length ≤ 100000) (hen : Env w) (l : Ln) (r : List (List UInt8)) (hN : namedW L = some (l, r)) (hr : 1 < r.length) :
    Calls Tryz.prog 74 #[.slice A n c] w fun e w' => LinePost none e ∧ Below w.heap.size w w' := by
  have t2 : ((r.length : Int) == 0) = false := by rw [beq_eq_false_iff_ne]; omega
  have t3 : decide ((1 : Int) < (r.length : Int)) = true := by rw [decide_eq_true_iff]; omega
  clear hr
  have HNM : Hid (∀ w', Below w.heap.size w w' → Calls Tryz.prog 99 #[.slice A n c] w' fun e w'' => NamedPost L e w'' ∧ Below w'.heap.size w' w'') := fun w' hb => pnamed_any L A n c w' (h.below hb) hL (hen.below hb)
  have HN := hid hN
  have HEN := hid hen
  clear hN h hL hen
  obtain ⟨hb0, hx0, hl0⟩ := box1 w (.cells #[.int .i64 0, .string ⟨#[]⟩, .string ⟨#[]⟩, .string ⟨#[]⟩] 23)
  go_enter Tryz.func74, Tryz.ntmps74
  go_upto_region 1 with fail
  generalize w.alloc (.cells #[.int .i64 0, .string ⟨#[]⟩, .string ⟨#[]⟩, .string ⟨#[]⟩] 23) = w0 at *
  go_wp2_with fail
  refine (HNM.out w0 hb0).mono ?_
  rintro e w1 ⟨hnp, hb1⟩
  unfold NamedPost at hnp
  rw [HN.out] at hnp
  replace hx0 := blk_below hx0 hb1 hl0
  replace hb0 := hb0.trans (hb1.mono hb0.size)
  clear hb1 HNM HN hl0
  obtain ⟨A', c', rfl, hs⟩ := hnp
  generalize r.length = m at *
  obtain ⟨hb2, hg2, hl2⟩ := box1 w1 (.cells (lnV l) 23)
  have hx2 := blk_below hx0 hb2 (blk_lt hx0)
  have hbw2 := hb0.trans (hb2.mono hb0.size)
  have hlt0 := blk_lt hx0
  have hge := hb0.size
  go_upto_region 2 with (refine wpList_store_last rfl 23 (.tmp 4) (.tmp 12) rfl (lnV l) rfl rfl i4 rfl (lnV_one _) ?_)
  generalize w1.alloc (.cells (lnV l) 23) = w2 at *
  clear hx0 hb0
  go_wp2_with (refine wpList_store_whole rfl 23 (.tmp 2) (.tmp 31) rfl (lnV ln0) rfl rfl hx2 i4 rfl (lnV_one _) ?_)
  intro wz hgz hgrz
  have hbz := grown1 hbw2 hgrz (Nat.le_refl _)
  go_wp2_with fail
  exact ret_row2 (fn := Tryz.f74) (x := .bool false) (cs := lnV ln0) rfl rfl rfl hgz Tryz.underlying23 rfl i4 rfl ⟨⟨ln0, false, rfl, rfl⟩, hbz⟩
set_option maxRecDepth 100000 in
set_option maxHeartbeats 1600000 in
theorem path_zero (L : List (List UInt8)) (A : Option Addr) (n c : Nat) (w : World) (h : Sl w 1 (.slice A n c) (STR L)) (hL : ∀ x ∈ L, x.length ≤ 100000) (hen : Env w) (l : Ln) (hN : namedW L = some (l, [])) :
    Calls Tryz.prog 74 #[.slice A n c] w fun e w' => LinePost (pathW L) e ∧ Below w.heap.size w w' := by
  obtain ⟨nb, hnb⟩ : ∃ nb, (l.head != 0) = nb := ⟨_, rfl⟩
  have HP : Hid (pathW L = if nb = true then some l else none) := by
    show _ = _
    unfold pathW
    rw [hN, ← hnb]
    by_cases h0 : l.head = 0 <;> simp [h0]
  have HNM : Hid (∀ w', Below w.heap.size w w' → Calls Tryz.prog 99 #[.slice A n c] w' fun e w'' => NamedPost L e w'' ∧ Below w'.heap.size w' w'') := fun w' hb => pnamed_any L A n c w' (h.below hb) hL (hen.below hb)
  have HN := hid hN
  have HEN := hid hen
  clear hN h hL hen
  obtain ⟨hb0, hx0, hl0⟩ := box1 w (.cells #[.int .i64 0, .string ⟨#[]⟩, .string ⟨#[]⟩, .string ⟨#[]⟩] 23)
  go_enter Tryz.func74, Tryz.ntmps74
  go_upto_region 1 with fail
  generalize w.alloc (.cells #[.int .i64 0, .string ⟨#[]⟩, .string ⟨#[]⟩, .string ⟨#[]⟩] 23) = w0 at *
  go_wp2_with fail
  refine (HNM.out w0 hb0).mono ?_
  rintro e w1 ⟨hnp, hb1⟩
  unfold NamedPost at hnp
  rw [HN.out] at hnp
  replace hx0 := blk_below hx0 hb1 hl0
  replace hb0 := hb0.trans (hb1.mono hb0.size)
  clear hb1 HNM HN hl0
  obtain ⟨A', c', rfl, hs⟩ := hnp
  obtain ⟨hb2, hg2, hl2⟩ := box1 w1 (.cells (lnV l) 23)
  have hx2 := blk_below hx0 hb2 (blk_lt hx0)
  have hbw2 := hb0.trans (hb2.mono hb0.size)
  have hlt0 := blk_lt hx0
  have hge := hb0.size
  go_upto_region 2 with (refine wpList_store_last rfl 23 (.tmp 4) (.tmp 12) rfl (lnV l) rfl rfl i4 rfl (lnV_one _) ?_)
  generalize w1.alloc (.cells (lnV l) 23) = w2 at *
  clear hx0 hb0
  have c0 : w2.cell? ⟨w1.heap.size, 0, none⟩ = some (.int .i64 l.head) := blkCell hg2 0
  have y0 := fun (z : WK (fun b => b = w.heap.size) w2) => (wat_cell (p := ⟨w1.heap.size, 0, none⟩) (by show w1.heap.size < _; omega) (fun e => by have e2 : w1.heap.size = w.heap.size := e; omega) z).trans c0
  clear c0
  have HGL : Hid (∀ wS, Kept (fun b => b = w.heap.size) w2 wS → wS.heap[w1.heap.size]? = some (.cells (lnV l) 23 (0, 0))) := fun wS hC => (hC.block w1.heap.size (by omega) (fun e => by have e2 : w1.heap.size = w.heap.size := e; omega)).trans hg2
  have hx9 := hid hx2
  clear hg2 hs
  generalize l.head = h9 at *
  go_wp2_with fail
  refine wp_region_loud (fun b => b = w.heap.size) [(0, plainL [] (.agg (lnV l))), (4, keepL [100] (BlkF w.heap.size 23 (lnV l)))] (labelled 100 (BlkF w.heap.size 23 #[.int .i64 0, .string ⟨#[]⟩, .string ⟨#[]⟩, .string ⟨#[]⟩])) (by kernel_rfl) (by kernel_rfl)
    (.cons (plainL_ok _ _) (.cons (keepL_ok _ (good_blk _ _ _)) .nil)) (good_one 100 (good_blk _ _ _)) (sat_one 100 _ (fun g hg => by have e2 : g = w.heap.size := hg; omega) ⟨rfl, hx2⟩) (WX.out ?_)
  clear hx2 hx9
  repeat (first | (refine wx_quietU (by rfl) (by rfl) (by rfl) (fun K hK => ?_); go_big_quiet_op; refine hK _ ?_; clear hK K) | (refine wx_quietG (by rfl) (by rfl) (by rfl) (by rfl) (by rfl) (fun K hK => ?_); go_big_quiet_op; refine hK _ ?_; clear hK K) | (refine wx_skipG (by rfl) (by rfl) (by rfl) (fun K hK => ?_); go_simp; refine hK _ ?_; clear hK K) | (refine wx_skipN (by rfl) (by rfl) (by rfl) (fun K hK => ?_); go_simp; refine hK _ ?_; clear hK K))
  refine wx_loudU (us := []) (by rfl) (by rfl) (fun S wS hC hS hU => ?_) (fun v hv K hK => ?_)
  · exact runs_load_whole 23 (.tmp 4) rfl w1.heap.size rfl 23 (lnV l) (0, 0) _ (HGL.out wS hC) Tryz.underlying23 rfl i4 ⟨rfl, Kept.refl _ _, trivial⟩
  obtain rfl := hv; (go_simp; refine hK _ ?_; clear hK K)
  repeat (first | (refine wx_quietU (by rfl) (by rfl) (by rfl) (fun K hK => ?_); go_big_quiet_op; refine hK _ ?_; clear hK K) | (refine wx_quietG (by rfl) (by rfl) (by rfl) (by rfl) (by rfl) (fun K hK => ?_); go_big_quiet_op; refine hK _ ?_; clear hK K) | (refine wx_skipG (by rfl) (by rfl) (by rfl) (fun K hK => ?_); go_simp; refine hK _ ?_; clear hK K) | (refine wx_skipN (by rfl) (by rfl) (by rfl) (fun K hK => ?_); go_simp; refine hK _ ?_; clear hK K))
  refine wx_loudU (us := [100]) (by rfl) (by rfl) (fun S wS hC hS hU => ?_) (fun v hv K hK => ?_)
  · have hB : BlkF w.heap.size 23 #[.int .i64 0, .string ⟨#[]⟩, .string ⟨#[]⟩, .string ⟨#[]⟩] S wS := hU 100 (by simp)
    exact runs_store_whole 23 (.tmp 2) (.tmp 23) rfl (lnV l) rfl rfl hB.2 i4 rfl (lnV_one _) ⟨trivial, kept_setRow wS w.heap.size _ hB.1, .inl hB.1, setRow_heap _ _ _ _ _ _ hB.2⟩
  (go_simp; refine hK _ ?_; clear hK K)
  repeat (first | (refine wx_quietU (by rfl) (by rfl) (by rfl) (fun K hK => ?_); go_big_quiet_op; refine hK _ ?_; clear hK K) | (refine wx_quietG (by rfl) (by rfl) (by rfl) (by rfl) (by rfl) (fun K hK => ?_); go_big_quiet_op; refine hK _ ?_; clear hK K) | (refine wx_skipG (by rfl) (by rfl) (by rfl) (fun K hK => ?_); go_simp; refine hK _ ?_; clear hK K) | (refine wx_skipN (by rfl) (by rfl) (by rfl) (fun K hK => ?_); go_simp; refine hK _ ?_; clear hK K))
  refine wx_nil fun wz hsat => ?_
  obtain ⟨S9, hS9, hF9⟩ := sat_get hsat 4
  have hgz := (show BlkF w.heap.size 23 (lnV l) S9 wz from hF9).2
  have hbz := hbw2.trans (hsat.1.below_of (B := w.heap.size) (by omega) (fun g hg => by have e2 : g = w.heap.size := hg; omega))
  clear hsat hF9 hS9 y0
  go_wp2_with fail
  exact ret_row2 (fn := Tryz.f74) (x := .bool nb) (cs := lnV l) rfl rfl rfl hgz Tryz.underlying23 rfl i4 rfl ⟨⟨_, _, rfl, HP.out.symm⟩, hbz⟩
set_option maxRecDepth 100000 in
set_option maxHeartbeats 1600000 in
theorem path_one (L : List (List UInt8)) (A : Option Addr) (n c : Nat) (w : World) (h : Sl w 1 (.slice A n c) (STR L)) (hL : ∀ x ∈ L, x.length ≤ 100000) (hen : Env w) (l : Ln) (leaf : List UInt8) (hN : namedW L = some (l, [leaf])) (hlv : l.leaf = [] ∧ l.value = []) :
    Calls Tryz.prog 74 #[.slice A n c] w fun e w' => LinePost (pathW L) e ∧ Below w.heap.size w w' := by
  obtain ⟨head, name, lf0, vl0⟩ := l
  obtain ⟨e1, e2⟩ := hlv
  simp only at e1 e2
  subst e1
  subst e2
  have HP : Hid (pathW L = if (findR head leaf).2 = true then some ⟨head, name, leaf, []⟩ else none) := by
    show _ = _
    unfold pathW
    rw [hN]
  have HNM : Hid (∀ w', Below w.heap.size w w' → Calls Tryz.prog 99 #[.slice A n c] w' fun e w'' => NamedPost L e w'' ∧ Below w'.heap.size w' w'') := fun w' hb => pnamed_any L A n c w' (h.below hb) hL (hen.below hb)
  have HN := hid hN
  have HEN := hid hen
  clear hN h hL hen
  obtain ⟨hb0, hx0, hl0⟩ := box1 w (.cells #[.int .i64 0, .string ⟨#[]⟩, .string ⟨#[]⟩, .string ⟨#[]⟩] 23)
  go_enter Tryz.func74, Tryz.ntmps74
  go_upto_region 1 with fail
  generalize w.alloc (.cells #[.int .i64 0, .string ⟨#[]⟩, .string ⟨#[]⟩, .string ⟨#[]⟩] 23) = w0 at *
  go_wp2_with fail
  refine (HNM.out w0 hb0).mono ?_
  rintro e w1 ⟨hnp, hb1⟩
  unfold NamedPost at hnp
  rw [HN.out] at hnp
  replace hx0 := blk_below hx0 hb1 hl0
  replace hb0 := hb0.trans (hb1.mono hb0.size)
  clear hb1 HNM HN hl0
  obtain ⟨A', c', rfl, hs⟩ := hnp
  have hlen2 : [leaf].length = 1 := rfl
  rw [hlen2] at hs
  rw [hlen2]
  clear hlen2
  obtain ⟨b, off, rfl, hbl, p0⟩ := STR_cell hs (k := 0) (by omega)
  simp only [List.getD_cons_zero, Nat.add_zero] at p0
  clear hs
  obtain ⟨hb2, hg2, hl2⟩ := box1 w1 (.cells (lnV ⟨head, name, [], []⟩) 23)
  have hx2 := blk_below hx0 hb2 (blk_lt hx0)
  have hbw2 := hb0.trans (hb2.mono hb0.size)
  have hlt0 := blk_lt hx0
  have hge := hb0.size
  go_upto_region 2 with (refine wpList_store_last rfl 23 (.tmp 4) (.tmp 12) rfl (lnV ⟨head, name, [], []⟩) rfl rfl i4 rfl (lnV_one _) ?_)
  generalize w1.alloc (.cells (lnV ⟨head, name, [], []⟩) 23) = w2 at *
  clear hx0 hb0
  have q0 := (hb2.cell (p := ⟨b, off, none⟩) hbl).trans p0
  clear p0 hb2
  have f2 : w2.frozen? ⟨w1.heap.size, 2, none⟩ = false := by simp [World.frozen?, hg2]
  have c2 : w2.cell? ⟨w1.heap.size, 2, none⟩ = some (.string ⟨#[]⟩) := blkCell hg2 2
  have HG2 := hid hg2
  have HX2 := hid hx2
  clear hg2 hx2
  go_upto_region 9 with fail
  have hg3 : (w2.setCell ⟨w1.heap.size, 2, none⟩ (.string (S8 leaf))).heap[w1.heap.size]? = some (.cells (lnV ⟨head, name, leaf, []⟩) 23 (0, 0)) := blk_set HG2.out 2 _
  have hx3 : (w2.setCell ⟨w1.heap.size, 2, none⟩ (.string (S8 leaf))).heap[w.heap.size]? = some (.cells #[.int .i64 0, .string ⟨#[]⟩, .string ⟨#[]⟩, .string ⟨#[]⟩] 23 (0, 0)) := blk_set_far HX2.out (by show w.heap.size ≠ w1.heap.size; omega) _
  have hbw3 := hbw2.setCell (p := ⟨w1.heap.size, 2, none⟩) (by show w.heap.size ≤ w1.heap.size; omega) (.string (S8 leaf))
  have hs3 : (w2.setCell ⟨w1.heap.size, 2, none⟩ (.string (S8 leaf))).heap.size = w2.heap.size := by simp [World.setCell]
  generalize w2.setCell ⟨w1.heap.size, 2, none⟩ (.string (S8 leaf)) = w3 at *
  clear f2 c2 q0 HG2 HX2 hbw2
  have c0 : w3.cell? ⟨w1.heap.size, 0, none⟩ = some (.int .i64 head) := blkCell hg3 0
  have c2 : w3.cell? ⟨w1.heap.size, 2, none⟩ = some (.string (S8 leaf)) := blkCell hg3 2
  have hl3 : w1.heap.size < w3.heap.size := by omega
  have hw3 : w.heap.size < w3.heap.size := by omega
  clear hs3
  have hF := find_new head (S8 leaf) w3
  rw [bl_S8] at hF
  generalize findR head leaf = FR at *
  obtain ⟨row, fb⟩ := FR
  simp only at hF HP
  have HF := hid hF
  clear hF
  go_wp2_with fail
  refine HF.out.mono ?_
  rintro e w4 ⟨Aq, rfl, hb4, -, -⟩
  clear HF c0 c2
  have hg4 := blk_below hg3 hb4 hl3
  have hx4 := blk_below hx3 hb4 hw3
  have hbw4 := hbw3.trans (hb4.mono hbw3.size)
  have hs34 := hb4.size
  clear hg3 hx3 hbw3 hb4
  have hi8 : (Tryz.prog.info? 99).map (·.size) = some (rwV row Aq).size := i8
  obtain ⟨hb5, hr5, hl5⟩ := box1 w4 (.cells (rwV row Aq) 99)
  have hg5 := blk_below hg4 hb5 (by omega)
  have hx5 := blk_below hx4 hb5 (by omega)
  have hbw5 := hbw4.trans (hb5.mono hbw4.size)
  go_upto_region 10 with (refine wpList_store_last rfl 99 (.tmp 7) (.tmp 42) rfl (rwV row Aq) rfl rfl hi8 rfl (rwV_one _ _) ?_)
  generalize w4.alloc (.cells (rwV row Aq) 99) = w5 at *
  clear hg4 hx4 hbw4 hb5 hr5
  go_wp2_with (first | refine wpList_load_row rfl 23 (.tmp 4) rfl w1.heap.size rfl 23 (lnV ⟨head, name, leaf, []⟩) (0, 0) _ hg5 Tryz.underlying23 rfl i4 ?_ | refine wpList_store_whole rfl 23 (.tmp 2) (.tmp 44) rfl (lnV ⟨head, name, leaf, []⟩) rfl rfl hx5 i4 rfl (lnV_one _) ?_)
  intro wz hgz hgrz
  have hbz := grown1 hbw5 hgrz (Nat.le_refl _)
  clear hg5 hx5
  go_wp2_with fail
  exact ret_row2 (fn := Tryz.f74) (x := .bool fb) (cs := lnV ⟨head, name, leaf, []⟩) rfl rfl rfl hgz Tryz.underlying23 rfl i4 rfl ⟨⟨_, _, rfl, HP.out.symm⟩, hbz⟩
theorem namedW_bare (L : List (List UInt8)) (l : Ln) (r : List (List UInt8)) (h : namedW L = some (l, r)) : l.leaf = [] ∧ l.value = [] := by
  unfold namedW at h
  split at h
  · injection h with h; injection h with h _; subst h; exact ⟨rfl, rfl⟩
  · split at h
    · injection h with h; injection h with h _; subst h; exact ⟨rfl, rfl⟩
    · split at h
      · cases h
      · split at h
        · injection h with h; injection h with h _; subst h; exact ⟨rfl, rfl⟩
        · cases h
theorem path_any (L : List (List UInt8)) (A : Option Addr) (n c : Nat) (w : World) (h : Sl w 1 (.slice A n c) (STR L)) (hL : ∀ x ∈ L, x.length ≤ 100000) (hen : Env w) :
    Calls Tryz.prog 74 #[.slice A n c] w fun e w' => LinePost (pathW L) e ∧ Below w.heap.size w w' := by
  cases hN : namedW L with
  | none =>
    have := path_none L A n c w h hL hen hN
    unfold pathW
    rw [hN]
    exact this
  | some p =>
    obtain ⟨l, r⟩ := p
    match r with
    | [] => exact path_zero L A n c w h hL hen l hN
    | [leaf] => exact path_one L A n c w h hL hen l leaf hN (namedW_bare L l _ hN)
    | x :: y :: r =>
      have := path_more L A n c w h hL hen l (x :: y :: r) hN (by simp)
      unfold pathW
      rw [hN]
      exact this
end Go.Proofs.YtfojgimficdjhaaGreatDoor
