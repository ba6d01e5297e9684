/-
  Contracts: bytes.Equal; the reference's header.
-/
import Derived.Test.YtgopkpogakjckaaLsa7
import Derived.Test.YtgopkpogakjckaaLsaP
import Derived.Test.YtgopkpogakjckaaBy
import Derived.Test.YtgopkpogakjckaaRegB
namespace Go.Proofs.Ytgopkpogakjckaa
set_option linter.unusedVariables false
set_option linter.unusedSimpArgs false
open Go.RowKit SM LM

theorem nv_take (l : List UInt8) (k m : Nat) (h : k ≤ m) : nv (l.take m) k = nv l k := by
  induction k with
  | zero => rfl
  | succ k ih =>
    simp only [nv]
    rw [ih (by omega)]
    congr 1
    unfold byt
    simp [List.getD_eq_getElem?_getD, List.getElem?_take, show k < m by omega]

theorem refNum_mid {w : World} {b off n c : Nat} {l : List UInt8} (h : Sl w 1 (.slice (some ⟨b, off, none⟩) n c) (B8 l)) (i j : Nat) (hij : i ≤ j) (hj : j ≤ n) (hi : i < n) (h4 : j - i ≤ 4) (nq : Nat) :
    Calls Try.prog 50 #[.slice (some ⟨b, off + i, none⟩) (j - i) (c - i)] (w.drewN nq) fun e w' => e = .returned (.int .i64 (fld l i (j - i) : Nat)) ∧ w' = w.drewN nq := by
  refine (refNum_any _ _ _ _ (w.drewN nq) (by exact sl_mid h i j hij hj hi) h4).mono ?_
  rintro e w' ⟨rfl, rfl⟩
  refine ⟨?_, rfl⟩
  unfold fld
  rw [nv_take _ _ _ (Nat.le_refl _)]

set_option maxRecDepth 100000 in
set_option maxHeartbeats 1600000 in
theorem refHead_any (A : Option Addr) (n c : Nat) (l : List UInt8) (w : World) (h : Sl w 1 (.slice A n c) (B8 l)) (hn : 20 ≤ n) :
    Calls Try.prog 52 #[.slice A n c] w fun e w' => e = .returned (.agg (headC l)) ∧ Below w.heap.size w w' := by
  obtain ⟨hl1, hl2, hl3⟩ := h.len
  have HL := hid hl1
  clear hl1
  obtain ⟨b, off, rfl, hlt, _⟩ := h.byte (k := 0) (by omega)
  obtain ⟨_, _, e1, _, c3⟩ := h.byte (k := 3) (by omega)
  injection e1 with e1
  injection e1 with e1 e2
  subst e1; subst e2
  have f0 := fld_bd l 0 2 (by omega)
  have f3 : fld l 3 1 = byt l 3 := by unfold fld; rw [nv1, byt_drop]
  have F3 := hid f3
  have f4 := fld_bd l 4 4 (by omega)
  have f8 := fld_bd l 8 4 (by omega)
  have f12 := fld_bd l 12 4 (by omega)
  have f16 : fld l 16 2 < 65536 := by have := nv_lt (l.drop 16) 2; simpa [fld] using this
  have f18 := fld_bd l 18 2 (by omega)
  have b3 := byt_lt l 3
  have hq := sq_eq l
  clear f3
  go_enter Try.func52, Try.ntmps52
  go_wp2_with fail
  have hlt0 : b < w.heap.size := hlt
  have hb0 := heap_alloc_new w (.cells #[.int .i64 0, .int .i64 0, .int .u32 0, .int .u32 0, .int .i64 0, .int .u16 0, .int .i64 0] 105)
  have hbw := (Below.refl w.heap.size w).alloc (Nat.le_refl _) (.cells #[.int .i64 0, .int .i64 0, .int .u32 0, .int .u32 0, .int .i64 0, .int .u16 0, .int .i64 0] 105)
  have hz := h.alloc (.cells #[.int .i64 0, .int .i64 0, .int .u32 0, .int .u32 0, .int .i64 0, .int .u16 0, .int .i64 0] 105)
  have c3' := (hbw.cell (p := ⟨b, off + 3, none⟩) hlt).trans c3
  have hsz : w.heap.size < (w.alloc (.cells #[.int .i64 0, .int .i64 0, .int .u32 0, .int .u32 0, .int .i64 0, .int .u16 0, .int .i64 0] 105)).heap.size := by simp
  clear c3
  generalize w.alloc (.cells #[.int .i64 0, .int .i64 0, .int .u32 0, .int .u32 0, .int .i64 0, .int .u16 0, .int .i64 0] 105) = w0 at *
  have hk : ∀ x : WK (fun g => g = w.heap.size) w0, Below w.heap.size w0 (wat x) := fun x => (wat_kept x).below_of (by omega) (fun g hg => by omega)
  have c3x : ∀ x : WK (fun g => g = w.heap.size) w0, (wat x).cell? ⟨b, off + 3, none⟩ = some (.int .u8 (byt l 3 : Int)) := fun x => ((hk x).cell (p := ⟨b, off + 3, none⟩) hlt).trans c3'
  have key : ∀ i j (wS : World), Kept (fun g => g = w.heap.size) w0 wS → i ≤ j → j ≤ n → i < n → j - i ≤ 4 → Calls Try.prog 50 #[.slice (some ⟨b, off + i, none⟩) (j - i : Nat) (c - i)] wS fun e w' => e = .returned (.int .i64 (fld l i (j - i) : Nat)) ∧ w' = wS := by
    intro i j wS hS h1 h2 h3 h4
    have hzS : Sl wS 1 (.slice (some ⟨b, off, none⟩) n c) (B8 l) := by
      refine hz.grown (row := some w.heap.size) ⟨hS.os, hS.tape, hS.output, hS.size, fun g h1 h2 => hS.block g h1 (fun e => h2 (by rw [e]))⟩ (fun ad had => ?_)
      injection had with had
      subst had
      simp; omega
    refine (refNum_any _ _ _ _ _ (sl_mid hzS i j h1 h2 h3) h4).mono ?_
    rintro e w' ⟨rfl, rfl⟩
    refine ⟨?_, rfl⟩
    unfold fld
    rw [nv_take _ _ _ (Nat.le_refl _)]
  have KEY := hid key
  clear key
  refine wp_region_loud (fun g => g = w.heap.size)
    [(2, plainL [] (.int .i64 (fld l 0 2 : Nat))), (9, plainL [] (.int .i64 (fld l 4 4 : Nat))), (13, plainL [] (.int .i64 (fld l 8 4 : Nat))), (18, plainL [] (.int .i64 (fld l 12 4 : Nat))), (23, plainL [] (.int .i64 (fld l 16 2 : Nat))),
     (27, plainL [] (.int .i64 (fld l 18 2 : Nat))), (29, keepL [100] (BlkF w.heap.size 105 (headC l)))]
    (labelled 100 (BlkF w.heap.size 105 #[.int .i64 0, .int .i64 0, .int .u32 0, .int .u32 0, .int .i64 0, .int .u16 0, .int .i64 0])) (by kernel_rfl) (by kernel_rfl)
    (.cons (plainL_ok _ _) (.cons (plainL_ok _ _) (.cons (plainL_ok _ _) (.cons (plainL_ok _ _) (.cons (plainL_ok _ _) (.cons (plainL_ok _ _) (.cons (keepL_ok _ (good_blk _ _ _)) .nil))))))) (good_one 100 (good_blk _ _ _))
    (sat_one 100 _ (fun g hg => by omega) ⟨rfl, hb0⟩) ?_
  repeat (refine wpX_quiet (by rfl) (by rfl) (by rfl) (fun K hK => ?_); go_big_quiet_op; refine hK _ ?_; clear hK K)
  refine wpX_loud (us := []) (by rfl) (by rfl) (fun S wS hC hS hU => runs_enter (f := 50) (by go_simp <;> rfl) ?_) (fun v hv K hK => ?_)
  · refine (KEY.out 0 2 wS hC (by omega) (by omega) (by omega) (by omega)).mono ?_
    rintro e w' ⟨rfl, rfl⟩
    exact ⟨_, rfl, rfl, Kept.refl _ _, trivial⟩
  obtain rfl := hv; (go_simp; refine hK _ ?_; clear hK K)
  repeat (refine wpX_quiet (by rfl) (by rfl) (by rfl) (fun K hK => ?_); go_big_quiet_op; refine hK _ ?_; clear hK K)
  refine wpX_loud (us := []) (by rfl) (by rfl) (fun S wS hC hS hU => runs_enter (f := 50) (by go_simp <;> rfl) ?_) (fun v hv K hK => ?_)
  · refine (KEY.out 4 8 wS hC (by omega) (by omega) (by omega) (by omega)).mono ?_
    rintro e w' ⟨rfl, rfl⟩
    exact ⟨_, rfl, rfl, Kept.refl _ _, trivial⟩
  obtain rfl := hv; (go_simp; refine hK _ ?_; clear hK K)
  repeat (refine wpX_quiet (by rfl) (by rfl) (by rfl) (fun K hK => ?_); go_big_quiet_op; refine hK _ ?_; clear hK K)
  refine wpX_loud (us := []) (by rfl) (by rfl) (fun S wS hC hS hU => runs_enter (f := 50) (by go_simp <;> rfl) ?_) (fun v hv K hK => ?_)
  · refine (KEY.out 8 12 wS hC (by omega) (by omega) (by omega) (by omega)).mono ?_
    rintro e w' ⟨rfl, rfl⟩
    exact ⟨_, rfl, rfl, Kept.refl _ _, trivial⟩
  obtain rfl := hv; (go_simp; refine hK _ ?_; clear hK K)
  repeat (refine wpX_quiet (by rfl) (by rfl) (by rfl) (fun K hK => ?_); go_big_quiet_op; refine hK _ ?_; clear hK K)
  refine wpX_loud (us := []) (by rfl) (by rfl) (fun S wS hC hS hU => runs_enter (f := 50) (by go_simp <;> rfl) ?_) (fun v hv K hK => ?_)
  · refine (KEY.out 12 16 wS hC (by omega) (by omega) (by omega) (by omega)).mono ?_
    rintro e w' ⟨rfl, rfl⟩
    exact ⟨_, rfl, rfl, Kept.refl _ _, trivial⟩
  obtain rfl := hv; (go_simp; refine hK _ ?_; clear hK K)
  repeat (refine wpX_quiet (by rfl) (by rfl) (by rfl) (fun K hK => ?_); go_big_quiet_op; refine hK _ ?_; clear hK K)
  refine wpX_loud (us := []) (by rfl) (by rfl) (fun S wS hC hS hU => runs_enter (f := 50) (by go_simp <;> rfl) ?_) (fun v hv K hK => ?_)
  · refine (KEY.out 16 18 wS hC (by omega) (by omega) (by omega) (by omega)).mono ?_
    rintro e w' ⟨rfl, rfl⟩
    exact ⟨_, rfl, rfl, Kept.refl _ _, trivial⟩
  obtain rfl := hv; (go_simp; refine hK _ ?_; clear hK K)
  repeat (refine wpX_quiet (by rfl) (by rfl) (by rfl) (fun K hK => ?_); go_big_quiet_op; refine hK _ ?_; clear hK K)
  refine wpX_loud (us := []) (by rfl) (by rfl) (fun S wS hC hS hU => runs_enter (f := 50) (by go_simp <;> rfl) ?_) (fun v hv K hK => ?_)
  · refine (KEY.out 18 20 wS hC (by omega) (by omega) (by omega) (by omega)).mono ?_
    rintro e w' ⟨rfl, rfl⟩
    exact ⟨_, rfl, rfl, Kept.refl _ _, trivial⟩
  obtain rfl := hv; (go_simp; refine hK _ ?_; clear hK K)
  repeat (refine wpX_quiet (by rfl) (by rfl) (by rfl) (fun K hK => ?_); go_big_quiet_op; refine hK _ ?_; clear hK K)
  refine wpX_loud (us := [100]) (by rfl) (by rfl) (fun S wS hC hS hU => ?_) (fun v hv K hK => ?_)
  · have hB : BlkF w.heap.size 105 #[.int .i64 0, .int .i64 0, .int .u32 0, .int .u32 0, .int .i64 0, .int .u16 0, .int .i64 0] S wS := hU 100 (by simp)
    obtain ⟨hc, hf⟩ := blkF_cells hB
    unfold runs
    go_simp
    obtain ⟨hS0, hh⟩ := hB
    have h7 := blk_set (blk_set (blk_set (blk_set (blk_set (blk_set (blk_set hh 0 (.int .i64 (fld l 0 2 : Nat))) 1 (.int .i64 (byt l 3 : Nat))) 2 (.int .u32 (fld l 4 4 : Nat))) 3 (.int .u32 (fld l 8 4 : Nat))) 4 (.int .i64 (sq l))) 5 (.int .u16 (fld l 16 2 : Nat))) 6 (.int .i64 (fld l 18 2 : Nat))
    simp at h7
    rw [← F3.out] at h7
    refine ⟨trivial, ?_, ?_⟩
    · repeat (first | with_reducible exact Kept.refl _ _ | with_reducible refine Kept.setCell ?_ (Or.inl hS0) _)
    · have h9 : BlkF w.heap.size 105 (headC l) (fun b => S b ∨ wS.heap.size ≤ b ∧ b < wS.heap.size) _ := ⟨Or.inl hS0, h7⟩
      rw [← F3.out]
      exact h9
  (go_simp; refine hK _ ?_; clear hK K)
  refine wpX_nil fun w2 hsat => ?_
  obtain ⟨S, _, hfin⟩ := sat_get hsat 29
  have hfb : BlkF w.heap.size 105 (headC l) S w2 := hfin
  obtain ⟨hc, hf⟩ := blkF_cells hfb
  have hb2 := hsat.1.below_of (B := w.heap.size) (by omega) (fun g hg => by omega)
  clear hsat hfin hfb c3x hk
  go_wp2_with fail
  refine bodyPost_ret (v := .agg (headC l)) (by simp [results, Try.results52, go_sem, hc]) rfl ⟨rfl, hbw.trans hb2⟩
end Go.Proofs.Ytgopkpogakjckaa
