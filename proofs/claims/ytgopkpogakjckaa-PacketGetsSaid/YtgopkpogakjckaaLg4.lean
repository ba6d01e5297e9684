/-
  Contract of the reference's Get: routers, numbers, the rest.
-/
import Derived.Test.YtgopkpogakjckaaLg3
namespace Go.Proofs.Ytgopkpogakjckaa
set_option linter.unusedVariables false
set_option linter.unusedSimpArgs false
open Go Go.RowKit SM LM

set_option maxRecDepth 100000 in
set_option maxHeartbeats 3200000 in
theorem refGet0
    (A : Option Addr) (n c : Nat) (l : List UInt8) (w : World) (h : Sl w 1 (.slice A n c) (B8 l)) (hn : 20 ≤ n) (hnb : n ≤ 1000000000) (hr : right (l.drop 2) = true) (h16 : byt l 16 ≠ 255) (h17 : byt l 17 ≠ 255)
    (hk1 : fld l 3 1 ≠ 1) (hk2 : fld l 3 1 ≠ 2) (hk3 : fld l 3 1 ≠ 3) :
    Calls Try.prog 51 #[.slice A n c] w (RefGetPost l w) := by
  have hE : Hid (getE l = if (bodyL l).right = true ∧ putB (bodyL l) = l then 0 else 3) := by
    show _ = _
    unfold getE; rw [if_neg (by rw [h.len.1]; omega), if_neg (by rw [hr]; simp [h16, h17])]
  have hbody := bodyL_wf l
  have t1 : ((fld l 3 1 : Int) == 1) = false := by rw [beq_eq_false_iff_ne]; omega
  have t2 : ((fld l 3 1 : Int) == 2) = false := by rw [beq_eq_false_iff_ne]; omega
  have t3 : ((fld l 3 1 : Int) == 3) = false := by rw [beq_eq_false_iff_ne]; omega
  have hbl : bodyL l = headL l := by
    unfold bodyL bodyOf
    rw [if_neg (by show ¬ ((fld l 3 1 : Nat) : Int) = 1; omega), if_neg (by show ¬ ((fld l 3 1 : Nat) : Int) = 2; omega), if_neg (by show ¬ ((fld l 3 1 : Nat) : Int) = 3; omega)]
  have hrf : (headL l).right = false := by
    unfold Lsa.right
    rw [if_neg (by show ¬ ((fld l 3 1 : Nat) : Int) = 1; omega), if_neg (by show ¬ ((fld l 3 1 : Nat) : Int) = 2; omega), if_neg (by show ¬ ((fld l 3 1 : Nat) : Int) = 3; omega)]
    simp
  have HRt := hid hrf
  have hE0 : Hid (getE l = 3) := by show _ = _; rw [hE.out, hbl, if_neg (fun h => by rw [hrf] at h; exact absurd h.1 (by simp))]
  clear hbl hrf
  clear hk1 hk2 hk3
  have HR := hid hr
  have t16 : ((byt l 16 : Int) == 255) = false := by rw [beq_eq_false_iff_ne]; omega
  have t17 : ((byt l 17 : Int) == 255) = false := by rw [beq_eq_false_iff_ne]; omega
  have b31 := fld_bd l 3 1 (by omega)
  clear hr h16 h17
  obtain ⟨hl1, hl2, hl3⟩ := h.len
  have HL := hid hl1
  clear hl1
  obtain ⟨b, off, rfl, hlt, c16⟩ := h.byte (k := 16) (by omega)
  obtain ⟨_, _, e1, _, c17⟩ := h.byte (k := 17) (by omega)
  injection e1 with e1
  injection e1 with e1 e2
  subst e1; subst e2
  have b16 := byt_lt l 16
  have b17 := byt_lt l 17
  go_enter Try.func51, Try.ntmps51
  go_wp2_with fail
  have h2 := h.alloc (.cells #[.int .i64 0, .int .i64 0, .int .u32 0, .int .u32 0, .int .i64 0, .slice none 0 0, .int .u32 0, .slice none 0 0, .int .i64 0] 77)
  have hh2 := heap_alloc_new w (.cells #[.int .i64 0, .int .i64 0, .int .u32 0, .int .u32 0, .int .i64 0, .slice none 0 0, .int .u32 0, .slice none 0 0, .int .i64 0] 77)
  have hbb2 := (Below.refl w.heap.size w).alloc (Nat.le_refl _) (.cells #[.int .i64 0, .int .i64 0, .int .u32 0, .int .u32 0, .int .i64 0, .slice none 0 0, .int .u32 0, .slice none 0 0, .int .i64 0] 77)
  have hs2 : (w.alloc (.cells #[.int .i64 0, .int .i64 0, .int .u32 0, .int .u32 0, .int .i64 0, .slice none 0 0, .int .u32 0, .slice none 0 0, .int .i64 0] 77)).heap.size = w.heap.size + 1 := by simp
  generalize w.alloc (.cells #[.int .i64 0, .int .i64 0, .int .u32 0, .int .u32 0, .int .i64 0, .slice none 0 0, .int .u32 0, .slice none 0 0, .int .i64 0] 77) = w2 at *
  have hdrop := sl_drop h2 2 (by omega)
  rw [if_neg (by omega)] at hdrop
  simp only [Option.map_some, addr_add] at hdrop
  refine (refRight_any _ _ _ _ w2 (by exact hdrop)).mono ?_
  rintro e w3 ⟨rfl, rfl⟩
  have k16 := (hbb2.cell (p := ⟨b, off + 16, none⟩) hlt).trans c16
  have k17 := (hbb2.cell (p := ⟨b, off + 17, none⟩) hlt).trans c17
  clear c16 c17 hdrop
  rw [HR.out]
  go_wp2_with fail
  refine (refHead_any _ n c l w2 h2 hn).mono ?_
  rintro e w3 ⟨rfl, hb3⟩
  replace hh2 := blk_below hh2 hb3 (by omega)
  replace h2 := h2.below hb3
  replace hbb2 := hbb2.trans (hb3.mono hbb2.size)
  have hs3 := hb3.size
  rw [hs2] at hs3
  clear k16 k17 hb3 hs2
  have hlt3 : w.heap.size < w3.heap.size := by omega
  have hq := sq_eq l
  go_wp2_with fail
  all_goals
    first
      | (rename_i hc20; subst hc20)
      | skip
    have hgl := heap_alloc_new (w3.alloc (.cells (headC l) 105)) (.cells #[.int .i64 (fld l 0 2 : Nat), .int .i64 (fld l 3 1 : Nat), .int .u32 (fld l 4 4 : Nat), .int .u32 (fld l 8 4 : Nat), .int .i64 (sq l), .slice none 0 0, .int .u32 0, .slice none 0 0, .int .i64 0] 77)
    replace hh2 := blk_alloc (blk_alloc hh2 (.cells (headC l) 105)) (.cells #[.int .i64 (fld l 0 2 : Nat), .int .i64 (fld l 3 1 : Nat), .int .u32 (fld l 4 4 : Nat), .int .u32 (fld l 8 4 : Nat), .int .i64 (sq l), .slice none 0 0, .int .u32 0, .slice none 0 0, .int .i64 0] 77)
    replace h2 := (h2.alloc (.cells (headC l) 105)).alloc (.cells #[.int .i64 (fld l 0 2 : Nat), .int .i64 (fld l 3 1 : Nat), .int .u32 (fld l 4 4 : Nat), .int .u32 (fld l 8 4 : Nat), .int .i64 (sq l), .slice none 0 0, .int .u32 0, .slice none 0 0, .int .i64 0] 77)
    replace hbb2 := (hbb2.alloc hbb2.size (.cells (headC l) 105)).alloc (by simp; omega) (.cells #[.int .i64 (fld l 0 2 : Nat), .int .i64 (fld l 3 1 : Nat), .int .u32 (fld l 4 4 : Nat), .int .u32 (fld l 8 4 : Nat), .int .i64 (sq l), .slice none 0 0, .int .u32 0, .slice none 0 0, .int .i64 0] 77)
    have hs4 : ((w3.alloc (.cells (headC l) 105)).alloc (.cells #[.int .i64 (fld l 0 2 : Nat), .int .i64 (fld l 3 1 : Nat), .int .u32 (fld l 4 4 : Nat), .int .u32 (fld l 8 4 : Nat), .int .i64 (sq l), .slice none 0 0, .int .u32 0, .slice none 0 0, .int .i64 0] 77)).heap.size = w3.heap.size + 2 := by simp
    rw [show (w3.alloc (.cells (headC l) 105)).heap.size = w3.heap.size + 1 by simp] at hgl
    generalize (w3.alloc (.cells (headC l) 105)).alloc (.cells #[.int .i64 (fld l 0 2 : Nat), .int .i64 (fld l 3 1 : Nat), .int .u32 (fld l 4 4 : Nat), .int .u32 (fld l 8 4 : Nat), .int .i64 (sq l), .slice none 0 0, .int .u32 0, .slice none 0 0, .int .i64 0] 77) = w4 at *
    have hs4' := Nat.le_of_eq hs4.symm
    clear hs4
    refine (refPut_no (headL l) none 0 0 none 0 0 w4 (isLsa_head _ _) HRt.out).mono ?_
    rintro e w6 ⟨rfl, hb7⟩
    replace hh2 := blk_below hh2 hb7 (by omega)
    replace hbb2 := hbb2.trans (hb7.mono hbb2.size)
    obtain ⟨hc2, hf2⟩ := blk_cells hh2
    clear hgl
    go_wp2_with fail
    refine ret_blk (v := .tuple #[.agg (lsaC zeroL none 0 0 none 0 0), .int .i64 3]) (g := w.heap.size) (T := 77) (cs := lsaC zeroL none 0 0 none 0 0) (fun W hW => by obtain ⟨hc, hf⟩ := blk_cells hW; simp [results, Try.results51, go_sem, hc, zeroL]) ?_ rfl (refGetPost_no hE0.out (by omega) ?_)
    · simp [World.setCell, World.alloc, Array.getElem?_modify, Array.getElem?_push, hh2, zeroL]
      try (rw [if_neg (by omega), if_neg (by omega)]; first | done | rfl)
    · (repeat (first | with_reducible exact Below.refl _ _ | with_reducible assumption | with_reducible refine Below.drew ?_ | with_reducible refine below_drewN ?_ _ | (with_reducible refine Below.alloc ?_ ?_ _; rotate_left; · (first | (simp; done) | omega | (simp at *; omega))) | (with_reducible refine Below.setCell ?_ ?_ _; rotate_left; · (first | (simp only []; omega) | (simp; done) | (simp; omega))) | with_reducible refine Below.trans ?_ (by with_reducible assumption)))

set_option maxRecDepth 100000 in
set_option maxHeartbeats 3200000 in
theorem refGet3
    (A : Option Addr) (n c : Nat) (l : List UInt8) (w : World) (h : Sl w 1 (.slice A n c) (B8 l)) (hn : 20 ≤ n) (hnb : n ≤ 1000000000) (hr : right (l.drop 2) = true) (h16 : byt l 16 ≠ 255) (h17 : byt l 17 ≠ 255)
    (hk : fld l 3 1 = 3) (hn28 : 28 ≤ n) :
    Calls Try.prog 51 #[.slice A n c] w (RefGetPost l w) := by
  have hE : Hid (getE l = if (bodyL l).right = true ∧ putB (bodyL l) = l then 0 else 3) := by
    show _ = _
    unfold getE; rw [if_neg (by rw [h.len.1]; omega), if_neg (by rw [hr]; simp [h16, h17])]
  have hbody := bodyL_wf l
  have t1 : ((fld l 3 1 : Int) == 1) = false := by rw [hk]; rfl
  have t2 : ((fld l 3 1 : Int) == 2) = false := by rw [hk]; rfl
  have t3 : ((fld l 3 1 : Int) == 3) = true := by rw [hk]; rfl
  have HK := hid hk
  clear hk
  have hc28 : 28 ≤ c := by have := h.len.2.1; omega
  have HR := hid hr
  have t16 : ((byt l 16 : Int) == 255) = false := by rw [beq_eq_false_iff_ne]; omega
  have t17 : ((byt l 17 : Int) == 255) = false := by rw [beq_eq_false_iff_ne]; omega
  have b31 := fld_bd l 3 1 (by omega)
  clear hr h16 h17
  obtain ⟨hl1, hl2, hl3⟩ := h.len
  have HL := hid hl1
  clear hl1
  obtain ⟨b, off, rfl, hlt, c16⟩ := h.byte (k := 16) (by omega)
  obtain ⟨_, _, e1, _, c17⟩ := h.byte (k := 17) (by omega)
  injection e1 with e1
  injection e1 with e1 e2
  subst e1; subst e2
  have b16 := byt_lt l 16
  have b17 := byt_lt l 17
  go_enter Try.func51, Try.ntmps51
  go_wp2_with fail
  have h2 := h.alloc (.cells #[.int .i64 0, .int .i64 0, .int .u32 0, .int .u32 0, .int .i64 0, .slice none 0 0, .int .u32 0, .slice none 0 0, .int .i64 0] 77)
  have hh2 := heap_alloc_new w (.cells #[.int .i64 0, .int .i64 0, .int .u32 0, .int .u32 0, .int .i64 0, .slice none 0 0, .int .u32 0, .slice none 0 0, .int .i64 0] 77)
  have hbb2 := (Below.refl w.heap.size w).alloc (Nat.le_refl _) (.cells #[.int .i64 0, .int .i64 0, .int .u32 0, .int .u32 0, .int .i64 0, .slice none 0 0, .int .u32 0, .slice none 0 0, .int .i64 0] 77)
  have hs2 : (w.alloc (.cells #[.int .i64 0, .int .i64 0, .int .u32 0, .int .u32 0, .int .i64 0, .slice none 0 0, .int .u32 0, .slice none 0 0, .int .i64 0] 77)).heap.size = w.heap.size + 1 := by simp
  generalize w.alloc (.cells #[.int .i64 0, .int .i64 0, .int .u32 0, .int .u32 0, .int .i64 0, .slice none 0 0, .int .u32 0, .slice none 0 0, .int .i64 0] 77) = w2 at *
  have hdrop := sl_drop h2 2 (by omega)
  rw [if_neg (by omega)] at hdrop
  simp only [Option.map_some, addr_add] at hdrop
  refine (refRight_any _ _ _ _ w2 (by exact hdrop)).mono ?_
  rintro e w3 ⟨rfl, rfl⟩
  have k16 := (hbb2.cell (p := ⟨b, off + 16, none⟩) hlt).trans c16
  have k17 := (hbb2.cell (p := ⟨b, off + 17, none⟩) hlt).trans c17
  clear c16 c17 hdrop
  rw [HR.out]
  go_wp2_with fail
  refine (refHead_any _ n c l w2 h2 hn).mono ?_
  rintro e w3 ⟨rfl, hb3⟩
  replace hh2 := blk_below hh2 hb3 (by omega)
  replace h2 := h2.below hb3
  replace hbb2 := hbb2.trans (hb3.mono hbb2.size)
  have hs3 := hb3.size
  rw [hs2] at hs3
  clear k16 k17 hb3 hs2
  have hlt3 : w.heap.size < w3.heap.size := by omega
  have hq := sq_eq l
  have d1 : decide ((n : Int) < 20) = false := by simp; omega
  have d2 : decide (((n - 20 : Nat) : Int) < 8) = false := by simp; omega
  go_wp2_with fail
  have hgl := heap_alloc_new (w3.alloc (.cells (headC l) 105)) (.cells #[.int .i64 (fld l 0 2 : Nat), .int .i64 (fld l 3 1 : Nat), .int .u32 (fld l 4 4 : Nat), .int .u32 (fld l 8 4 : Nat), .int .i64 (sq l), .slice none 0 0, .int .u32 0, .slice none 0 0, .int .i64 0] 77)
  replace hh2 := blk_alloc (blk_alloc hh2 (.cells (headC l) 105)) (.cells #[.int .i64 (fld l 0 2 : Nat), .int .i64 (fld l 3 1 : Nat), .int .u32 (fld l 4 4 : Nat), .int .u32 (fld l 8 4 : Nat), .int .i64 (sq l), .slice none 0 0, .int .u32 0, .slice none 0 0, .int .i64 0] 77)
  replace h2 := (h2.alloc (.cells (headC l) 105)).alloc (.cells #[.int .i64 (fld l 0 2 : Nat), .int .i64 (fld l 3 1 : Nat), .int .u32 (fld l 4 4 : Nat), .int .u32 (fld l 8 4 : Nat), .int .i64 (sq l), .slice none 0 0, .int .u32 0, .slice none 0 0, .int .i64 0] 77)
  replace hbb2 := (hbb2.alloc hbb2.size (.cells (headC l) 105)).alloc (by simp; omega) (.cells #[.int .i64 (fld l 0 2 : Nat), .int .i64 (fld l 3 1 : Nat), .int .u32 (fld l 4 4 : Nat), .int .u32 (fld l 8 4 : Nat), .int .i64 (sq l), .slice none 0 0, .int .u32 0, .slice none 0 0, .int .i64 0] 77)
  have hs4 : ((w3.alloc (.cells (headC l) 105)).alloc (.cells #[.int .i64 (fld l 0 2 : Nat), .int .i64 (fld l 3 1 : Nat), .int .u32 (fld l 4 4 : Nat), .int .u32 (fld l 8 4 : Nat), .int .i64 (sq l), .slice none 0 0, .int .u32 0, .slice none 0 0, .int .i64 0] 77)).heap.size = w3.heap.size + 2 := by simp
  rw [show (w3.alloc (.cells (headC l) 105)).heap.size = w3.heap.size + 1 by simp] at hgl
  generalize (w3.alloc (.cells (headC l) 105)).alloc (.cells #[.int .i64 (fld l 0 2 : Nat), .int .i64 (fld l 3 1 : Nat), .int .u32 (fld l 4 4 : Nat), .int .u32 (fld l 8 4 : Nat), .int .i64 (sq l), .slice none 0 0, .int .u32 0, .slice none 0 0, .int .i64 0] 77) = w4 at *
  have hs4' := Nat.le_of_eq hs4.symm
  clear hs4
  have hd20 := sl_drop h2 20 (by omega)
  rw [if_neg (by omega)] at hd20
  simp only [Option.map_some, addr_add] at hd20
  have hSB : ∀ g, g < w.heap.size → ¬ (g = w3.heap.size + 1) := fun g hg h => by omega
  generalize hy : l.drop 20 = y at *
  have HY := hid hy
  clear hy
  have key : ∀ i k (wS : World), Kept (fun g => g = w3.heap.size + 1) w4 wS → i + k ≤ n - 20 → i < n - 20 → k ≤ 4 → Calls Try.prog 50 #[.slice (some ⟨b, off + 20 + i, none⟩) k (c - 20 - i)] wS fun e w' => e = .returned (.int .i64 (nv (y.drop i) k : Nat)) ∧ w' = wS := by
    intro i k wS hS h1 h2 h3
    have hzS : Sl wS 1 (.slice (some ⟨b, off + 20, none⟩) (n - 20) (c - 20)) (B8 y) := sl_kept hd20 hS (fun ad had => by injection had with had; subst had; exact hSB _ hlt)
    have := sl_mid hzS i (i + k) (by omega) (by omega) h2
    rw [Nat.add_sub_cancel_left] at this
    refine (refNum_any _ _ _ _ _ this h3).mono ?_
    rintro e w' ⟨rfl, rfl⟩
    refine ⟨?_, rfl⟩
    rw [nv_take _ _ _ (Nat.le_refl _)]
  have KEY := hid key
  clear key
  have b0 := nv_bd (y.drop 0) 4 (by omega)
  have b4 := nv_bd (y.drop 4) 4 (by omega)
  generalize hx0 : nv (y.drop 0) 4 = x0 at *
  generalize hx4 : nv (y.drop 4) 4 = x4 at *
  have H0 := hid hx0
  have H4 := hid hx4
  clear hx0 hx4
  have hbl : Hid (bodyL l = { headL l with mask := x0, cost := (x4 : Nat) }) := by
    show _ = _
    unfold bodyL bodyOf
    rw [if_neg (by show ¬ ((fld l 3 1 : Nat) : Int) = 1; rw [HK.out]; omega), if_neg (by show ¬ ((fld l 3 1 : Nat) : Int) = 2; rw [HK.out]; omega), if_pos (by show ((fld l 3 1 : Nat) : Int) = 3; rw [HK.out]; rfl), HY.out]
    have hyl : y.length = n - 20 := by rw [← HY.out, List.length_drop, HL.out]
    have e1 : ¬ y.length < 4 := by omega
    have e2 : ¬ (y.drop 4).length < 4 := by rw [List.length_drop]; omega
    have h0 := H0.out
    rw [List.drop_zero] at h0
    simp only [takeV, takeR, e1, e2, if_false]
    rw [H4.out, h0]
  refine wp_region_loud (fun g => g = w3.heap.size + 1)
    [(2, plainL [] (.int .i64 (x0 : Nat))), (6, plainL [] (.int .i64 (x4 : Nat))), (8, keepL [100] (BlkF (w3.heap.size + 1) 77 (lsaC { headL l with mask := x0 } none 0 0 none 0 0))), (10, keepL [8] (BlkF (w3.heap.size + 1) 77 (lsaC { headL l with mask := x0, cost := (x4 : Nat) } none 0 0 none 0 0)))]
    (labelled 100 (BlkF (w3.heap.size + 1) 77 (lsaC (headL l) none 0 0 none 0 0))) (by kernel_rfl) (by kernel_rfl)
    (.cons (plainL_ok _ _) (.cons (plainL_ok _ _) (.cons (keepL_ok _ (good_blk _ _ _)) (.cons (keepL_ok _ (good_blk _ _ _)) .nil)))) (good_one 100 (good_blk _ _ _)) (sat_one 100 _ (fun g hg => by omega) ⟨rfl, hgl⟩) ?_
  repeat (refine wpX_quiet (by rfl) (by rfl) (by rfl) (fun K hK => ?_); go_big_quiet_op; refine hK _ ?_; clear hK K)
  refine wpX_loud (us := []) (by rfl) (by rfl) (fun S wS hC hS hU => runs_enter (f := 50) (by go_simp <;> rfl) ?_) (fun v hv K hK => ?_)
  · refine (KEY.out 0 4 wS hC (by omega) (by omega) (by omega)).mono ?_
    rintro e w' ⟨rfl, rfl⟩
    rw [H0.out]
    exact ⟨_, rfl, rfl, Kept.refl _ _, trivial⟩
  obtain rfl := hv; (go_simp; refine hK _ ?_; clear hK K)
  repeat (refine wpX_quiet (by rfl) (by rfl) (by rfl) (fun K hK => ?_); go_big_quiet_op; refine hK _ ?_; clear hK K)
  refine wpX_loud (us := []) (by rfl) (by rfl) (fun S wS hC hS hU => runs_enter (f := 50) (by go_simp <;> rfl) ?_) (fun v hv K hK => ?_)
  · refine (KEY.out 4 4 wS hC (by omega) (by omega) (by omega)).mono ?_
    rintro e w' ⟨rfl, rfl⟩
    rw [H4.out]
    exact ⟨_, rfl, rfl, Kept.refl _ _, trivial⟩
  obtain rfl := hv; (go_simp; refine hK _ ?_; clear hK K)
  repeat (refine wpX_quiet (by rfl) (by rfl) (by rfl) (fun K hK => ?_); go_big_quiet_op; refine hK _ ?_; clear hK K)
  refine wpX_loud (us := [100]) (by rfl) (by rfl) (fun S wS hC hS hU => ?_) (fun v hv K hK => ?_)
  · have hB : BlkF (w3.heap.size + 1) 77 (lsaC (headL l) none 0 0 none 0 0) S wS := hU 100 (by simp)
    obtain ⟨hc, hf⟩ := blkF_cells hB
    unfold runs
    go_simp
    have hB9 := blk_set hB.2 6 (.int .u32 (x0 : Nat))
    simp at hB9
    exact ⟨trivial, (Kept.refl _ _).setCell (.inl hB.1) _, .inl hB.1, hB9⟩
  (go_simp; refine hK _ ?_; clear hK K)
  repeat (refine wpX_quiet (by rfl) (by rfl) (by rfl) (fun K hK => ?_); go_big_quiet_op; refine hK _ ?_; clear hK K)
  refine wpX_loud (us := [8]) (by rfl) (by rfl) (fun S wS hC hS hU => ?_) (fun v hv K hK => ?_)
  · have hB : BlkF (w3.heap.size + 1) 77 (lsaC { headL l with mask := x0 } none 0 0 none 0 0) S wS := hU 8 (by simp)
    obtain ⟨hc, hf⟩ := blkF_cells hB
    unfold runs
    go_simp
    have hB9 := blk_set hB.2 8 (.int .i64 (x4 : Nat))
    simp at hB9
    exact ⟨trivial, (Kept.refl _ _).setCell (.inl hB.1) _, .inl hB.1, hB9⟩
  (go_simp; refine hK _ ?_; clear hK K)
  refine wpX_nil fun wr hsat => ?_
  obtain ⟨S, _, hfin⟩ := sat_get hsat 10
  have hgl2 := (hfin : BlkF (w3.heap.size + 1) 77 (lsaC { headL l with mask := x0, cost := (x4 : Nat) } none 0 0 none 0 0) S wr).2
  have hkp := hsat.1
  have hszr := hkp.size
  replace hh2 := blk_kept hh2 hkp (by omega)
  replace h2 := sl_kept h2 hkp (fun ad had => by injection had with had; subst had; simp; omega)
  replace hbb2 := hbb2.trans (hkp.below_of (B := w.heap.size) hbb2.size (fun b hb => by omega))
  have hIs : IsLsa wr (bodyL l) none 0 0 none 0 0 := by rw [hbl.out]; exact ⟨sl_nil _ 4, sl_nil _ 1⟩
  clear hgl
  have hgl : wr.heap[w3.heap.size + 1]? = some (.cells (lsaC (bodyL l) none 0 0 none 0 0) 77 (0, 0)) := by rw [hbl.out]; exact hgl2
  have hfr1 : FreshA (w.heap.size + 1) none := freshA_none _
  have hfr2 : FreshA (w.heap.size + 1) none := freshA_none _
  clear hsat hfin hgl2 hkp hd20 hbl
  generalize hL : bodyL l = L at *
  have HLb := hid hL
  clear hL
  obtain ⟨hcl, hfl⟩ := blk_cells hgl
  by_cases hr : L.right = true
  · have HRt := hid hr
    clear hr
    go_wp2_with fail
    refine (refPut_yes L none 0 0 none 0 0 wr hIs hbody HRt.out).mono ?_
    rintro e w6 ⟨A7, c7, n7, rfl, hown7, hb7⟩
    replace hh2 := blk_below hh2 hb7 (by omega)
    replace hgl := blk_below hgl hb7 (by omega)
    replace h2 := h2.below hb7
    replace hIs := hIs.below hb7
    replace hbb2 := hbb2.trans (hb7.mono hbb2.size)
    have hs7 := own_sl hown7
    have st1 := bstr hs7
    have st2 := bstr h2
    clear hb7 hown7 hcl hfl
    obtain ⟨hcl, hfl⟩ := blk_cells hgl
    obtain ⟨hc2, hf2⟩ := blk_cells hh2
    by_cases hq : putB L = l
    · have hE0 : Hid (getE l = 0) := by show _ = _; rw [hE.out, if_pos ⟨HRt.out, hq⟩]
      have sq1 : ((S8 (putB L)).toList == (S8 l).toList) = true := by rw [S8_toList, S8_toList, hq]; simp
      clear hq
      go_wp2_with fail
      refine ret_blk (v := .tuple #[.agg (lsaC L none 0 0 none 0 0), .int .i64 0]) (g := w.heap.size) (T := 77) (cs := lsaC L none 0 0 none 0 0) (fun W hW => by obtain ⟨hc, hf⟩ := blk_cells hW; simp [results, Try.results51, go_sem, hc]) ?_ rfl ?_
      · simp [World.setCell, World.alloc, Array.getElem?_modify, Array.getElem?_push, hh2]
      · have hgL : getL l = L := by unfold getL; rw [if_pos hE0.out]; exact HLb.out
        have hkz : ∀ W : World, Kept (fun b => b = w.heap.size) w6 W → RefGetPost l w (.returned (.tuple #[.agg (lsaC L none 0 0 none 0 0), .int .i64 0])) W := fun W hW => by
          refine ⟨_, _, _, _, _, _, by rw [hgL, hE0.out], ?_, hbb2.trans (hW.below_of hbb2.size (fun b hb => by omega)), fun ad had => by have := hfr1 ad had; omega, fun ad had => by have := hfr2 ad had; omega⟩
          rw [hgL]
          exact ⟨sl_kept hIs.links hW (fun ad had => by have := hfr1 ad had; omega), sl_kept hIs.routers hW (fun ad had => by have := hfr2 ad had; omega)⟩
        refine hkz _ ?_
        repeat (first | with_reducible exact Kept.refl _ _ | (with_reducible refine Kept.setCell ?_ ?_ _; rotate_left; · exact Or.inl rfl))
    · have hE0 : Hid (getE l = 3) := by show _ = _; rw [hE.out, if_neg (fun h => hq h.2)]
      have sq1 : ((S8 (putB L)).toList == (S8 l).toList) = false := by rw [S8_toList, S8_toList]; simp [hq]
      clear hq
      go_wp2_with fail
      refine ret_blk (v := .tuple #[.agg (lsaC zeroL none 0 0 none 0 0), .int .i64 3]) (g := w.heap.size) (T := 77) (cs := lsaC zeroL none 0 0 none 0 0) (fun W hW => by obtain ⟨hc, hf⟩ := blk_cells hW; simp [results, Try.results51, go_sem, hc, zeroL]) ?_ rfl (refGetPost_no hE0.out (by omega) ?_)
      · simp [World.setCell, World.alloc, Array.getElem?_modify, Array.getElem?_push, hh2, zeroL]
        try (rw [if_neg (by omega), if_neg (by omega)]; first | done | rfl)
      · (repeat (first | with_reducible exact Below.refl _ _ | with_reducible assumption | with_reducible refine Below.drew ?_ | with_reducible refine below_drewN ?_ _ | (with_reducible refine Below.alloc ?_ ?_ _; rotate_left; · (first | (simp; done) | omega | (simp at *; omega))) | (with_reducible refine Below.setCell ?_ ?_ _; rotate_left; · (first | (simp only []; omega) | (simp; done) | (simp; omega))) | with_reducible refine Below.trans ?_ (by with_reducible assumption)))
  · have hr' : L.right = false := by simpa using hr
    have hE0 : Hid (getE l = 3) := by show _ = _; rw [hE.out, if_neg (fun h => hr h.1)]
    have HRt := hid hr'
    clear hr hr'
    go_wp2_with fail
    refine (refPut_no L none 0 0 none 0 0 wr hIs HRt.out).mono ?_
    rintro e w6 ⟨rfl, hb7⟩
    replace hh2 := blk_below hh2 hb7 (by omega)
    replace hbb2 := hbb2.trans (hb7.mono hbb2.size)
    obtain ⟨hc2, hf2⟩ := blk_cells hh2
    clear hcl hfl hgl
    go_wp2_with fail
    refine ret_blk (v := .tuple #[.agg (lsaC zeroL none 0 0 none 0 0), .int .i64 3]) (g := w.heap.size) (T := 77) (cs := lsaC zeroL none 0 0 none 0 0) (fun W hW => by obtain ⟨hc, hf⟩ := blk_cells hW; simp [results, Try.results51, go_sem, hc, zeroL]) ?_ rfl (refGetPost_no hE0.out (by omega) ?_)
    · simp [World.setCell, World.alloc, Array.getElem?_modify, Array.getElem?_push, hh2, zeroL]
      try (rw [if_neg (by omega), if_neg (by omega)]; first | done | rfl)
    · (repeat (first | with_reducible exact Below.refl _ _ | with_reducible assumption | with_reducible refine Below.drew ?_ | with_reducible refine below_drewN ?_ _ | (with_reducible refine Below.alloc ?_ ?_ _; rotate_left; · (first | (simp; done) | omega | (simp at *; omega))) | (with_reducible refine Below.setCell ?_ ?_ _; rotate_left; · (first | (simp only []; omega) | (simp; done) | (simp; omega))) | with_reducible refine Below.trans ?_ (by with_reducible assumption)))

set_option maxRecDepth 100000 in
set_option maxHeartbeats 3200000 in
theorem refGet2
    (A : Option Addr) (n c : Nat) (l : List UInt8) (w : World) (h : Sl w 1 (.slice A n c) (B8 l)) (hn : 20 ≤ n) (hnb : n ≤ 1000000000) (hr : right (l.drop 2) = true) (h16 : byt l 16 ≠ 255) (h17 : byt l 17 ≠ 255)
    (hk : fld l 3 1 = 2) (hn24 : 24 ≤ n) :
    Calls Try.prog 51 #[.slice A n c] w (RefGetPost l w) := by
  have hE : Hid (getE l = if (bodyL l).right = true ∧ putB (bodyL l) = l then 0 else 3) := by
    show _ = _
    unfold getE; rw [if_neg (by rw [h.len.1]; omega), if_neg (by rw [hr]; simp [h16, h17])]
  have hbody := bodyL_wf l
  have t1 : ((fld l 3 1 : Int) == 1) = false := by rw [hk]; rfl
  have t2 : ((fld l 3 1 : Int) == 2) = true := by rw [hk]; rfl
  have HK := hid hk
  clear hk
  have hc24 : 24 ≤ c := by have := h.len.2.1; omega
  have HR := hid hr
  have t16 : ((byt l 16 : Int) == 255) = false := by rw [beq_eq_false_iff_ne]; omega
  have t17 : ((byt l 17 : Int) == 255) = false := by rw [beq_eq_false_iff_ne]; omega
  have b31 := fld_bd l 3 1 (by omega)
  clear hr h16 h17
  obtain ⟨hl1, hl2, hl3⟩ := h.len
  have HL := hid hl1
  clear hl1
  obtain ⟨b, off, rfl, hlt, c16⟩ := h.byte (k := 16) (by omega)
  obtain ⟨_, _, e1, _, c17⟩ := h.byte (k := 17) (by omega)
  injection e1 with e1
  injection e1 with e1 e2
  subst e1; subst e2
  have b16 := byt_lt l 16
  have b17 := byt_lt l 17
  go_enter Try.func51, Try.ntmps51
  go_wp2_with fail
  have h2 := h.alloc (.cells #[.int .i64 0, .int .i64 0, .int .u32 0, .int .u32 0, .int .i64 0, .slice none 0 0, .int .u32 0, .slice none 0 0, .int .i64 0] 77)
  have hh2 := heap_alloc_new w (.cells #[.int .i64 0, .int .i64 0, .int .u32 0, .int .u32 0, .int .i64 0, .slice none 0 0, .int .u32 0, .slice none 0 0, .int .i64 0] 77)
  have hbb2 := (Below.refl w.heap.size w).alloc (Nat.le_refl _) (.cells #[.int .i64 0, .int .i64 0, .int .u32 0, .int .u32 0, .int .i64 0, .slice none 0 0, .int .u32 0, .slice none 0 0, .int .i64 0] 77)
  have hs2 : (w.alloc (.cells #[.int .i64 0, .int .i64 0, .int .u32 0, .int .u32 0, .int .i64 0, .slice none 0 0, .int .u32 0, .slice none 0 0, .int .i64 0] 77)).heap.size = w.heap.size + 1 := by simp
  generalize w.alloc (.cells #[.int .i64 0, .int .i64 0, .int .u32 0, .int .u32 0, .int .i64 0, .slice none 0 0, .int .u32 0, .slice none 0 0, .int .i64 0] 77) = w2 at *
  have hdrop := sl_drop h2 2 (by omega)
  rw [if_neg (by omega)] at hdrop
  simp only [Option.map_some, addr_add] at hdrop
  refine (refRight_any _ _ _ _ w2 (by exact hdrop)).mono ?_
  rintro e w3 ⟨rfl, rfl⟩
  have k16 := (hbb2.cell (p := ⟨b, off + 16, none⟩) hlt).trans c16
  have k17 := (hbb2.cell (p := ⟨b, off + 17, none⟩) hlt).trans c17
  clear c16 c17 hdrop
  rw [HR.out]
  go_wp2_with fail
  refine (refHead_any _ n c l w2 h2 hn).mono ?_
  rintro e w3 ⟨rfl, hb3⟩
  replace hh2 := blk_below hh2 hb3 (by omega)
  replace h2 := h2.below hb3
  replace hbb2 := hbb2.trans (hb3.mono hbb2.size)
  have hs3 := hb3.size
  rw [hs2] at hs3
  clear k16 k17 hb3 hs2
  have hlt3 : w.heap.size < w3.heap.size := by omega
  have hq := sq_eq l
  have d1 : decide ((n : Int) < 20) = false := by simp; omega
  have d2 : decide (((n - 20 : Nat) : Int) < 4) = false := by simp; omega
  go_wp2_with fail
  have hgl := heap_alloc_new (w3.alloc (.cells (headC l) 105)) (.cells #[.int .i64 (fld l 0 2 : Nat), .int .i64 (fld l 3 1 : Nat), .int .u32 (fld l 4 4 : Nat), .int .u32 (fld l 8 4 : Nat), .int .i64 (sq l), .slice none 0 0, .int .u32 0, .slice none 0 0, .int .i64 0] 77)
  replace hh2 := blk_alloc (blk_alloc hh2 (.cells (headC l) 105)) (.cells #[.int .i64 (fld l 0 2 : Nat), .int .i64 (fld l 3 1 : Nat), .int .u32 (fld l 4 4 : Nat), .int .u32 (fld l 8 4 : Nat), .int .i64 (sq l), .slice none 0 0, .int .u32 0, .slice none 0 0, .int .i64 0] 77)
  replace h2 := (h2.alloc (.cells (headC l) 105)).alloc (.cells #[.int .i64 (fld l 0 2 : Nat), .int .i64 (fld l 3 1 : Nat), .int .u32 (fld l 4 4 : Nat), .int .u32 (fld l 8 4 : Nat), .int .i64 (sq l), .slice none 0 0, .int .u32 0, .slice none 0 0, .int .i64 0] 77)
  replace hbb2 := (hbb2.alloc hbb2.size (.cells (headC l) 105)).alloc (by simp; omega) (.cells #[.int .i64 (fld l 0 2 : Nat), .int .i64 (fld l 3 1 : Nat), .int .u32 (fld l 4 4 : Nat), .int .u32 (fld l 8 4 : Nat), .int .i64 (sq l), .slice none 0 0, .int .u32 0, .slice none 0 0, .int .i64 0] 77)
  have hs4 : ((w3.alloc (.cells (headC l) 105)).alloc (.cells #[.int .i64 (fld l 0 2 : Nat), .int .i64 (fld l 3 1 : Nat), .int .u32 (fld l 4 4 : Nat), .int .u32 (fld l 8 4 : Nat), .int .i64 (sq l), .slice none 0 0, .int .u32 0, .slice none 0 0, .int .i64 0] 77)).heap.size = w3.heap.size + 2 := by simp
  rw [show (w3.alloc (.cells (headC l) 105)).heap.size = w3.heap.size + 1 by simp] at hgl
  generalize (w3.alloc (.cells (headC l) 105)).alloc (.cells #[.int .i64 (fld l 0 2 : Nat), .int .i64 (fld l 3 1 : Nat), .int .u32 (fld l 4 4 : Nat), .int .u32 (fld l 8 4 : Nat), .int .i64 (sq l), .slice none 0 0, .int .u32 0, .slice none 0 0, .int .i64 0] 77) = w4 at *
  have hs4' := Nat.le_of_eq hs4.symm
  clear hs4
  have hd20 := sl_drop h2 20 (by omega)
  rw [if_neg (by omega)] at hd20
  simp only [Option.map_some, addr_add] at hd20
  have hd24 := hd20.take 4 (by omega)
  refine (refNum_any _ 4 _ _ w4 hd24 (by omega)).mono ?_
  rintro e w5 ⟨rfl, rfl⟩
  rw [nv_take _ _ _ (Nat.le_refl _)]
  have bm := nv_bd (l.drop 20) 4 (by omega)
  generalize hmk : nv (l.drop 20) 4 = mk at *
  have HMk := hid hmk
  clear hmk hd24
  obtain ⟨hcl, hfl⟩ := blk_cells hgl
  go_wp2_with fail
  clear hcl hfl
  have hgl5 : (w5.setCell ⟨w3.heap.size + 1, 6, none⟩ (.int .u32 (mk : Nat))).heap[w3.heap.size + 1]? = some (.cells (lsaC { headL l with mask := mk } none 0 0 none 0 0) 77 (0, 0)) := by
    have := blk_set hgl 6 (.int .u32 (mk : Nat))
    simp at this
    exact this
  have hk5 : Kept (fun b => b = w3.heap.size + 1) w5 (w5.setCell ⟨w3.heap.size + 1, 6, none⟩ (.int .u32 (mk : Nat))) := Kept.setCell (S := fun b => b = w3.heap.size + 1) (Kept.refl _ _) (p := ⟨w3.heap.size + 1, 6, none⟩) (.inl rfl) _
  replace hh2 := blk_kept hh2 hk5 (by omega)
  replace h2 := sl_kept h2 hk5 (fun ad had => by injection had with had; subst had; simp; omega)
  replace hd20 := sl_kept hd20 hk5 (fun ad had => by injection had with had; subst had; simp; omega)
  replace hbb2 := hbb2.trans (hk5.below_of (B := w.heap.size) hbb2.size (fun b hb => by omega))
  have hs5 := hk5.size
  clear hk5 hgl
  generalize w5.setCell ⟨w3.heap.size + 1, 6, none⟩ (.int .u32 (mk : Nat)) = w6 at *
  generalize hMM : ({ headL l with mask := mk } : Lsa) = M at *
  have HMM := hid hMM
  clear hMM
  have hI0 : RefI w6 (w3.heap.size + 1) (lsaC M none 0 0 none 0 0) 22 1 0 (.slice none 0 0) [] w6 := ⟨hgl5, World.ownsRow_nil _ _ _ _, Kept.refl _ _⟩
  clear hgl5
  go_loopw [8] (fun i wr => ∃ (done : List Nat) (j m : Nat) (A : Option Addr) (c' : Nat), i = .int .i64 j ∧ RefI w6 (w3.heap.size + 1) (lsaC M none 0 0 A m c') 22 1 m (.slice A m c') (U32 done) wr ∧
      Hid (done ++ routersOf ((l.drop 20).drop j) = routersOf (l.drop 24)) ∧ m * 4 + 4 ≤ j ∧ j ≤ n - 20) (fun i _ => n - (intOf i).toNat)
  case atStart => exact ⟨[], 4, 0, none, 0, rfl, hI0, by show _ = _; rw [List.drop_drop]; rfl, by omega, by omega⟩
  case round =>
    obtain ⟨done, j, m, A', c', rfl, hI, HD, hm, hj⟩ := hrel
    clear hI0
    have hX : Sl wr 1 (.slice (some ⟨b, off + 20, none⟩) (n - 20) (c - 20)) (B8 (l.drop 20)) := sl_kept hd20 hI.kp (fun ad had => by injection had with had; subst had; simp; omega)
    by_cases hjl : j + 4 ≤ n - 20
    · go_wp2_with fail
      have hown := hI.own
      have hm40 : m ≤ 1000000000 := by omega
      have hgl8 : w3.heap.size + 1 < wr.heap.size := (Array.getElem?_eq_some_iff.1 hI.hl).1
      have hB8 := hI.kp.size
      have j1 : IntKind.i64.wrap ((j : Int) + 4) = (j : Int) + 4 := IntWalk.i64_in _ (by omega)
      generalize hy : l.drop 20 = y at *
      have HY := hid hy
      clear hy
      have b0 := nv_bd (y.drop j) 4 (by omega)
      generalize hx0 : nv (y.drop j) 4 = x0 at *
      have H0 := hid hx0
      clear hx0
      have hd1 : ∀ b, Value.ownBlock (.slice A' m c') = some b → (False ∨ b = w3.heap.size + 1) → False := by
        rintro b h1 (h2 | h2)
        · exact h2
        · have := (hown.lt b h1).1; omega
      have hSB : ∀ g, g < w.heap.size → ¬ ((False ∨ g = w3.heap.size + 1) ∨ Value.ownBlock (.slice A' m c') = some g) := fun g hg h => by
        rcases h with (h | h) | h
        · exact h
        · omega
        · have := (hown.lt _ h).1; omega
      have key : ∀ i k (wS : World), Kept (fun g => (False ∨ g = w3.heap.size + 1) ∨ Value.ownBlock (.slice A' m c') = some g) wr wS → i + k ≤ n - 20 → i < n - 20 → k ≤ 4 → Calls Try.prog 50 #[.slice (some ⟨b, off + 20 + i, none⟩) k (c - 20 - i)] wS fun e w' => e = .returned (.int .i64 (nv (y.drop i) k : Nat)) ∧ w' = wS := by
        intro i k wS hS h1 h2 h3
        have hzS : Sl wS 1 (.slice (some ⟨b, off + 20, none⟩) (n - 20) (c - 20)) (B8 y) := sl_kept hX hS (fun ad had => by injection had with had; subst had; exact hSB _ hlt)
        have := sl_mid hzS i (i + k) (by omega) (by omega) h2
        rw [Nat.add_sub_cancel_left] at this
        refine (refNum_any _ _ _ _ _ this h3).mono ?_
        rintro e w' ⟨rfl, rfl⟩
        refine ⟨?_, rfl⟩
        rw [nv_take _ _ _ (Nat.le_refl _)]
      have KEY := hid key
      clear key
      refine wp_region_loud (fun g => (False ∨ g = w3.heap.size + 1) ∨ Value.ownBlock (.slice A' m c') = some g)
        [(1, loadL [100] (.slice A' m c') (BlkF (w3.heap.size + 1) 77 (lsaC M none 0 0 A' m c'))), (7, plainL [] (.int .i64 (x0 : Nat))),
         (9, rowL [] w6.heap.size 22 1 1 (U32 [x0])), (10, rowL [101, 9] w6.heap.size 22 1 (m + 1) (U32 (done ++ [x0]))),
         (12, factL [1, 10] (fun _ => True) (fun _ S w' => ∃ A1 c1, BlkF (w3.heap.size + 1) 77 (lsaC M none 0 0 A1 (m + 1) c1) S w' ∧ OwnF w6.heap.size 22 1 (m + 1) (U32 (done ++ [x0])) (.slice A1 (m + 1) c1) S w'))]
        (addL 101 (OwnF w6.heap.size 22 1 m (U32 done) (.slice A' m c')) (addL 100 (BlkF (w3.heap.size + 1) 77 (lsaC M none 0 0 A' m c')) (fun _ => Fact.none))) (by kernel_rfl) (by kernel_rfl)
        (.cons (loadL_ok _ _ (good_blk _ _ _)) (.cons (plainL_ok _ _) (.cons (rowL_ok _ _ _ _ _ _) (.cons (rowL_ok _ _ _ _ _ _) (.cons (factL_ok ⟨undef, trivial⟩ (fun _ S S' w w' h1 h2 ⟨A', c', h3, h4⟩ => ⟨A', c', good_blk _ _ _ S S' w w' h1 h2 h3, good_own _ _ _ _ _ _ S S' w w' h1 h2 h4⟩)) .nil)))))
        (good_add _ (good_own _ _ _ _ _ _) (good_add _ (good_blk _ _ _) good_nothing))
        (sat_add 101 (sat_add 100 sat_none (fun b _ h => h) (fun b (hb : b = w3.heap.size + 1) => by omega) ⟨rfl, hI.hl⟩) hd1 (ownF_lt hown) (ownF_in hown)) ?_
      repeat (refine wpX_quiet (by rfl) (by rfl) (by rfl) (fun K hK => ?_); go_big_quiet_op; refine hK _ ?_; clear hK K)
      refine wpX_loud (us := [100]) (by rfl) (by rfl) (fun S wS hC hS hU => ?_) (fun v hv K hK => ?_)
      · obtain ⟨hc, hf⟩ := blkF_cells (hU 100 (by simp) : BlkF (w3.heap.size + 1) 77 (lsaC M none 0 0 A' m c') S wS)
        exact load_x (by go_simp) (good_blk _ _ _) (hU 100 (by simp))
      obtain rfl := hv; (go_simp; refine hK _ ?_; clear hK K)
      repeat (refine wpX_quiet (by rfl) (by rfl) (by rfl) (fun K hK => ?_); go_big_quiet_op; refine hK _ ?_; clear hK K)
      refine wpX_loud (us := []) (by rfl) (by rfl) (fun S wS hC hS hU => runs_enter (f := 50) (by go_simp <;> rfl) ?_) (fun v hv K hK => ?_)
      · refine (KEY.out j 4 wS hC (by omega) (by omega) (by omega)).mono ?_
        rintro e w' ⟨rfl, rfl⟩
        rw [H0.out]
        exact ⟨_, rfl, rfl, Kept.refl _ _, trivial⟩
      obtain rfl := hv; (go_simp; refine hK _ ?_; clear hK K)
      repeat (refine wpX_quiet (by rfl) (by rfl) (by rfl) (fun K hK => ?_); go_big_quiet_op; refine hK _ ?_; clear hK K)
      refine wpX_loud (us := []) (by rfl) (by rfl) (fun S wS hC hS hU => ?_) (fun v hv K hK => ?_)
      · exact runs_value (by go_simp <;> rfl) (made_x rfl (Nat.le_trans hB8 hC.size) (by rfl) (by rfl) (by omega) (by omega))
      obtain ⟨A6, c6, rfl⟩ := hv; (go_simp; refine hK _ ?_; clear hK K)
      repeat (refine wpX_quiet (by rfl) (by rfl) (by rfl) (fun K hK => ?_); go_big_quiet_op; refine hK _ ?_; clear hK K)
      refine wpX_loud (us := [101, 9]) (by rfl) (by rfl) (fun S wS hC hS hU => ?_) (fun v hv K hK => ?_)
      · exact appS_x (.tmp 112) (.tmp 120) st_u32 (by rfl) (by rfl) (by rfl) (hU 101 (by simp)) (own_sl (hU 9 (by simp)).2) (U32_one _) (by simp [maxLen]; omega) (by omega) (Nat.le_trans hB8 hC.size) (U32_append _ _)
      obtain ⟨A7, c7, rfl⟩ := hv; (go_simp; refine hK _ ?_; clear hK K)
      repeat (refine wpX_quiet (by rfl) (by rfl) (by rfl) (fun K hK => ?_); go_big_quiet_op; refine hK _ ?_; clear hK K)
      refine wpX_loud (us := [1, 10]) (by rfl) (by rfl) (fun S wS hC hS hU => ?_) (fun v hv K hK => ?_)
      · have hB : BlkF (w3.heap.size + 1) 77 (lsaC M none 0 0 A' m c') S wS := hU 1 (by simp)
        have hO : OwnF w6.heap.size 22 1 (m + 1) (U32 (done ++ [x0])) (.slice A7 (m + 1) c7) S wS := hU 10 (by simp)
        obtain ⟨hc, hf⟩ := blkF_cells hB
        unfold runs
        go_simp
        have hO9 := ownsRow_kept hO.2 (Kept.setCell (S := fun b => b = w3.heap.size + 1) (Kept.refl _ wS) (p := ⟨w3.heap.size + 1, 7, none⟩) (.inl rfl) (.slice A7 (m + 1) c7)) (fun g hg => by have := (hO.2.lt g hg).1; omega)
        have hB9 := blk_set hB.2 7 (.slice A7 (m + 1) c7)
        simp at hB9
        exact ⟨trivial, (Kept.refl _ _).setCell (.inl hB.1) _, A7, c7, ⟨.inl hB.1, hB9⟩, ⟨fun g hg => .inl (hO.1 g hg), hO9⟩⟩
      (go_simp; refine hK _ ?_; clear hK K)
      refine wpX_nil fun w9 hsat => ?_
      obtain ⟨S, hS, hfin⟩ := sat_get hsat 12
      obtain ⟨A1, c1, hb9, ho9⟩ := (hfin : ∃ A1 c1, BlkF (w3.heap.size + 1) 77 (lsaC M none 0 0 A1 (m + 1) c1) S w9 ∧ OwnF w6.heap.size 22 1 (m + 1) (U32 (done ++ [x0])) (.slice A1 (m + 1) c1) S w9)
      have hkp9 := hI.kp.then hsat.1 (fun b hb h => by
        rcases h with (h | h) | h
        · exact h.elim
        · exact h
        · have := (hown.lt _ h).1; omega)
      clear hsat hS j1
      go_wp2_with fail
      go_light
      refine ⟨⟨done ++ [x0], j + 4, m + 1, A1, c1, by go_num, ⟨hb9.2, ho9.2, hkp9⟩, ?_, by omega, by omega⟩, by simp [intOf]; omega⟩
      show _ = _
      have hyl : y.length = n - 20 := by rw [← HY.out, List.length_drop, HL.out]
      have e1 : routersOf (y.drop j) = x0 :: routersOf (y.drop (j + 4)) := by
        rw [routersOf_yes _ (by rw [List.length_drop]; omega), List.drop_drop, H0.out]
      rw [← HD.out, e1]
      simp
      rw [← HY.out, List.drop_drop]
    · have hj12 : n - 20 < j + 4 := by omega
      have hlk : Hid (done = routersOf (l.drop 24)) := by
        show _ = _
        rw [← HD.out, routersOf_no _ (by rw [List.length_drop, List.length_drop, HL.out]; omega), List.append_nil]
      have hbl : Hid (bodyL l = { M with routers := done }) := by
        show _ = _
        unfold bodyL bodyOf
        rw [if_neg (by show ¬ ((fld l 3 1 : Nat) : Int) = 1; rw [HK.out]; omega), if_pos (by show ((fld l 3 1 : Nat) : Int) = 2; rw [HK.out]; rfl), hlk.out, ← HMM.out, ← HMk.out]
        have e1 : ¬ (l.drop 20).length < 4 := by rw [List.length_drop, HL.out]; omega
        simp only [takeV, takeR, e1, if_false, List.drop_drop]
      have hIs : IsLsa wr (bodyL l) none 0 0 A' m c' := by rw [hbl.out, ← HMM.out]; exact ⟨sl_nil _ 4, own_sl hI.own⟩
      have hgl : wr.heap[w3.heap.size + 1]? = some (.cells (lsaC (bodyL l) none 0 0 A' m c') 77 (0, 0)) := by rw [hbl.out]; exact hI.hl
      have hfr1 : FreshA (w.heap.size + 1) none := freshA_none _
      have hfr2 : FreshA (w.heap.size + 1) A' := fun ad had => by have := freshA_own hI.own ad had; omega
      replace hh2 := blk_kept hh2 hI.kp (by omega)
      replace h2 := sl_kept h2 hI.kp (fun ad had => by injection had with had; subst had; simp; omega)
      replace hbb2 := hbb2.trans (hI.kp.below_of (B := w.heap.size) hbb2.size (fun b hb => by omega))
      have hszr := hI.kp.size
      clear hI hX hd20 hlk hbl
      generalize hL : bodyL l = L at *
      have HLb := hid hL
      clear hL
      obtain ⟨hcl, hfl⟩ := blk_cells hgl
      by_cases hr : L.right = true
      · have HRt := hid hr
        clear hr
        go_wp2_with fail
        refine (refPut_yes L none 0 0 A' m c' wr hIs hbody HRt.out).mono ?_
        rintro e w6 ⟨A7, c7, n7, rfl, hown7, hb7⟩
        replace hh2 := blk_below hh2 hb7 (by omega)
        replace hgl := blk_below hgl hb7 (by omega)
        replace h2 := h2.below hb7
        replace hIs := hIs.below hb7
        replace hbb2 := hbb2.trans (hb7.mono hbb2.size)
        have hs7 := own_sl hown7
        have st1 := bstr hs7
        have st2 := bstr h2
        clear hb7 hown7 hcl hfl
        obtain ⟨hcl, hfl⟩ := blk_cells hgl
        obtain ⟨hc2, hf2⟩ := blk_cells hh2
        by_cases hq : putB L = l
        · have hE0 : Hid (getE l = 0) := by show _ = _; rw [hE.out, if_pos ⟨HRt.out, hq⟩]
          have sq1 : ((S8 (putB L)).toList == (S8 l).toList) = true := by rw [S8_toList, S8_toList, hq]; simp
          clear hq
          go_wp2_with fail
          refine ret_blk (v := .tuple #[.agg (lsaC L none 0 0 A' m c'), .int .i64 0]) (g := w.heap.size) (T := 77) (cs := lsaC L none 0 0 A' m c') (fun W hW => by obtain ⟨hc, hf⟩ := blk_cells hW; simp [results, Try.results51, go_sem, hc]) ?_ rfl ?_
          · simp [World.setCell, World.alloc, Array.getElem?_modify, Array.getElem?_push, hh2]
          · have hgL : getL l = L := by unfold getL; rw [if_pos hE0.out]; exact HLb.out
            have hkz : ∀ W : World, Kept (fun b => b = w.heap.size) w6 W → RefGetPost l w (.returned (.tuple #[.agg (lsaC L none 0 0 A' m c'), .int .i64 0])) W := fun W hW => by
              refine ⟨_, _, _, _, _, _, by rw [hgL, hE0.out], ?_, hbb2.trans (hW.below_of hbb2.size (fun b hb => by omega)), fun ad had => by have := hfr1 ad had; omega, fun ad had => by have := hfr2 ad had; omega⟩
              rw [hgL]
              exact ⟨sl_kept hIs.links hW (fun ad had => by have := hfr1 ad had; omega), sl_kept hIs.routers hW (fun ad had => by have := hfr2 ad had; omega)⟩
            refine hkz _ ?_
            repeat (first | with_reducible exact Kept.refl _ _ | (with_reducible refine Kept.setCell ?_ ?_ _; rotate_left; · exact Or.inl rfl))
        · have hE0 : Hid (getE l = 3) := by show _ = _; rw [hE.out, if_neg (fun h => hq h.2)]
          have sq1 : ((S8 (putB L)).toList == (S8 l).toList) = false := by rw [S8_toList, S8_toList]; simp [hq]
          clear hq
          go_wp2_with fail
          refine ret_blk (v := .tuple #[.agg (lsaC zeroL none 0 0 none 0 0), .int .i64 3]) (g := w.heap.size) (T := 77) (cs := lsaC zeroL none 0 0 none 0 0) (fun W hW => by obtain ⟨hc, hf⟩ := blk_cells hW; simp [results, Try.results51, go_sem, hc, zeroL]) ?_ rfl (refGetPost_no hE0.out (by omega) ?_)
          · simp [World.setCell, World.alloc, Array.getElem?_modify, Array.getElem?_push, hh2, zeroL]
            try (rw [if_neg (by omega), if_neg (by omega)]; first | done | rfl)
          · (repeat (first | with_reducible exact Below.refl _ _ | with_reducible assumption | with_reducible refine Below.drew ?_ | with_reducible refine below_drewN ?_ _ | (with_reducible refine Below.alloc ?_ ?_ _; rotate_left; · (first | (simp; done) | omega | (simp at *; omega))) | (with_reducible refine Below.setCell ?_ ?_ _; rotate_left; · (first | (simp only []; omega) | (simp; done) | (simp; omega))) | with_reducible refine Below.trans ?_ (by with_reducible assumption)))
      · have hr' : L.right = false := by simpa using hr
        have hE0 : Hid (getE l = 3) := by show _ = _; rw [hE.out, if_neg (fun h => hr h.1)]
        have HRt := hid hr'
        clear hr hr'
        go_wp2_with fail
        refine (refPut_no L none 0 0 A' m c' wr hIs HRt.out).mono ?_
        rintro e w6 ⟨rfl, hb7⟩
        replace hh2 := blk_below hh2 hb7 (by omega)
        replace hbb2 := hbb2.trans (hb7.mono hbb2.size)
        obtain ⟨hc2, hf2⟩ := blk_cells hh2
        clear hcl hfl hgl
        go_wp2_with fail
        refine ret_blk (v := .tuple #[.agg (lsaC zeroL none 0 0 none 0 0), .int .i64 3]) (g := w.heap.size) (T := 77) (cs := lsaC zeroL none 0 0 none 0 0) (fun W hW => by obtain ⟨hc, hf⟩ := blk_cells hW; simp [results, Try.results51, go_sem, hc, zeroL]) ?_ rfl (refGetPost_no hE0.out (by omega) ?_)
        · simp [World.setCell, World.alloc, Array.getElem?_modify, Array.getElem?_push, hh2, zeroL]
          try (rw [if_neg (by omega), if_neg (by omega)]; first | done | rfl)
        · (repeat (first | with_reducible exact Below.refl _ _ | with_reducible assumption | with_reducible refine Below.drew ?_ | with_reducible refine below_drewN ?_ _ | (with_reducible refine Below.alloc ?_ ?_ _; rotate_left; · (first | (simp; done) | omega | (simp at *; omega))) | (with_reducible refine Below.setCell ?_ ?_ _; rotate_left; · (first | (simp only []; omega) | (simp; done) | (simp; omega))) | with_reducible refine Below.trans ?_ (by with_reducible assumption)))

/-- **the reference's Get** -/
theorem refGet_any (A : Option Addr) (n c : Nat) (l : List UInt8) (w : World) (h : Sl w 1 (.slice A n c) (B8 l)) (hnb : n ≤ 1000000000) : Calls Try.prog 51 #[.slice A n c] w (RefGetPost l w) := by
  by_cases hn : n < 20
  · exact refGet_short A n c l w h hn
  · have hn' : 20 ≤ n := by omega
    cases hr : right (l.drop 2) with
    | false => exact refGet_sum A n c l w h hn' hr
    | true =>
      by_cases h16 : byt l 16 = 255
      · exact refGet_b16 A n c l w h hn' hr h16
      · by_cases h17 : byt l 17 = 255
        · exact refGet_b17 A n c l w h hn' hr h16 h17
        · by_cases hk1 : fld l 3 1 = 1
          · by_cases hs : n < 24
            · exact refGet_few A n c l w h hn' hnb hr h16 h17 (.inl ⟨hk1, hs⟩)
            · exact refGet1 A n c l w h hn' hnb hr h16 h17 hk1 (by omega)
          · by_cases hk2 : fld l 3 1 = 2
            · by_cases hs : n < 24
              · exact refGet_few A n c l w h hn' hnb hr h16 h17 (.inr (.inl ⟨hk2, hs⟩))
              · exact refGet2 A n c l w h hn' hnb hr h16 h17 hk2 (by omega)
            · by_cases hk3 : fld l 3 1 = 3
              · by_cases hs : n < 28
                · exact refGet_few A n c l w h hn' hnb hr h16 h17 (.inr (.inr ⟨hk3, hs⟩))
                · exact refGet3 A n c l w h hn' hnb hr h16 h17 hk3 (by omega)
              · exact refGet0 A n c l w h hn' hnb hr h16 h17 hk1 hk2 hk3
end Go.Proofs.Ytgopkpogakjckaa
