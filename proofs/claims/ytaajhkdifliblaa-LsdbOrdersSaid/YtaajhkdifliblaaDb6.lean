/-
  The law's keeps; the walk of LsdbLess.
-/
import Derived.Test.YtaajhkdifliblaaDb5
namespace Go.Proofs.Ytaajhkdifliblaa
set_option linter.unusedVariables false
set_option linter.unusedSimpArgs false
open Go Go.RowKit SM LM

def keptL : Lsa := ⟨0, 1, 5, 5, 1, [], 0, [], 0⟩
theorem keptL_wf : WfL keptL := ⟨by simp [keptL], by simp [keptL], by decide, by decide, by decide⟩
theorem keptL_right : keptL.right = true := by decide
set_option maxRecDepth 100000 in
set_option maxHeartbeats 3200000 in
theorem keeps_any (w : World) : Calls Try.prog 57 #[] w fun e w' => e = .returned (.bool true) ∧ Below w.heap.size w w' := by
  go_enter Try.func57, Try.ntmps57
  go_wp2_with fail
  refine (new_any w).mono ?_
  rintro e w1 ⟨rfl, hD, hs1, hb1⟩
  have hX := heap_alloc_new w1 (.cells (lsaC keptL none 0 0 none 0 0) 80)
  have hba := (Below.refl w1.heap.size w1).alloc (Nat.le_refl _) (.cells (lsaC keptL none 0 0 none 0 0) 80)
  have hbw := hb1.trans (hba.mono hb1.size)
  replace hD := hD.below hba
  clear hba hb1
  go_wp2_with fail
  change Calls _ _ _ (w1.alloc (.cells (lsaC keptL none 0 0 none 0 0) 80)) _
  generalize w1.alloc (.cells (lsaC keptL none 0 0 none 0 0) 80) = w2 at *
  generalize w1.heap.size = gX at *
  refine (put_new keptL (w.heap.size + 1) w.heap.size 0 w2 hD keptL_wf keptL_right rfl rfl).mono ?_
  rintro e w3 ⟨rfl, hD3, hk3⟩
  replace hX := blk_kept hX hk3 (fun e => by have : gX = w.heap.size := e; omega)
  replace hbw := hbw.trans (hk3.below_of (B := w.heap.size) hbw.size (fun b hb => by have : b = w.heap.size := hb; omega))
  clear hk3 hD
  obtain ⟨hcX, _⟩ := blk_cells hX
  go_wp2_with fail
  refine (put_less keptL keptL (w.heap.size + 1) w.heap.size 0 (0 + 1) w3 hD3 keptL_wf keptL_right rfl rfl keptL_wf keptL_right (newer_self keptL keptL_right)).mono ?_
  rintro e w4 ⟨rfl, hD4, hk4⟩
  replace hX := blk_kept hX hk4 (fun e => by have : gX = w.heap.size := e; omega)
  replace hbw := hbw.trans (hk4.below_of (B := w.heap.size) hbw.size (fun b hb => by have : b = w.heap.size := hb; omega))
  clear hk4 hD3 hcX
  obtain ⟨hcX, _⟩ := blk_cells hX
  go_wp2_with fail
  refine (find_one keptL keptL.kty keptL.kid keptL.kadv (w.heap.size + 1) w.heap.size 0 (0 + 1) w4 hD4 keptL_wf keptL_right).mono ?_
  rintro e w5 ⟨rfl, hb5⟩
  have hD5 := hD4.below hb5
  have hba := (Below.refl w5.heap.size w5).alloc (Nat.le_refl _) (.cells (lsaC keptL none 0 0 none 0 0) 80)
  replace hD5 := hD5.below hba
  replace hbw := hbw.trans (hb5.mono hbw.size)
  replace hbw := hbw.trans (hba.mono hbw.size)
  have hseq : keptL.seq = 1 := rfl
  clear hcX hX hD4 hb5 hba
  go_wp2_with fail
  refine (count_any (w.heap.size + 1) w.heap.size (0 + 1) _ _ hD5 (by simp)).mono ?_
  rintro e w6 ⟨rfl, rfl⟩
  go_wp2_with fail
  go_ret
  exact ⟨rfl, hbw⟩

set_option maxRecDepth 100000 in
set_option maxHeartbeats 1600000 in
theorem lsdbLess_walk (t1 i1 v1 t2 i2 v2 : Int) (w : World) :
    Calls Try.prog 12 #[keyV t1 i1 v1, keyV t2 i2 v2] w fun e w' => e = .returned (.bool true) ∧ Below w.heap.size w w' := by
  have hbw := ((Below.refl w.heap.size w).alloc (Nat.le_refl _) (.cells #[.int .i64 t1, .int .u32 i1, .int .u32 v1] 71)).alloc (by simp) (.cells #[.int .i64 t2, .int .u32 i2, .int .u32 v2] 71)
  have hba := blk_alloc (heap_alloc_new w (.cells #[.int .i64 t1, .int .u32 i1, .int .u32 v1] 71)) (.cells #[.int .i64 t2, .int .u32 i2, .int .u32 v2] 71)
  have hbb := heap_alloc_new' (w.alloc (.cells #[.int .i64 t1, .int .u32 i1, .int .u32 v1] 71)) (.cells #[.int .i64 t2, .int .u32 i2, .int .u32 v2] 71) (w.heap.size + 1) (by simp)
  obtain ⟨X, hX⟩ : ∃ X, lessK t1 i1 v1 t2 i2 v2 = X := ⟨_, rfl⟩
  have HX := hid hX
  have HO := hid ((ord_less t1 i1 v1 t2 i2 v2).trans hX)
  clear hX
  go_enter Try.func12, Try.ntmps12
  go_wp2_with fail
  change Code.wp _ _ _ _ ((w.alloc (.cells #[.int .i64 t1, .int .u32 i1, .int .u32 v1] 71)).alloc (.cells #[.int .i64 t2, .int .u32 i2, .int .u32 v2] 71))
  generalize ((w.alloc (.cells #[.int .i64 t1, .int .u32 i1, .int .u32 v1] 71)).alloc (.cells #[.int .i64 t2, .int .u32 i2, .int .u32 v2] 71)) = w1 at *
  have za := fun (z : WK (fun _ => False) w1) i => (wat_cell (p := ⟨w.heap.size, i, none⟩) (Array.getElem?_eq_some_iff.1 hba).1 (by simp) z).trans ((blk_cells hba).1 i)
  have zb := fun (z : WK (fun _ => False) w1) i => (wat_cell (p := ⟨w.heap.size + 1, i, none⟩) (Array.getElem?_eq_some_iff.1 hbb).1 (by simp) z).trans ((blk_cells hbb).1 i)
  refine wp_region_loud (fun _ => False)
      [(0, plainL [] (.bool true)), (3, plainL [] (keyV t1 i1 v1)), (5, plainL [] (keyV t2 i2 v2)), (6, plainL [] (.bool X)), (9, plainL [] (.bool X))]
      (fun _ => Fact.none) (by kernel_rfl) (by kernel_rfl)
      (.cons (plainL_ok _ _) (.cons (plainL_ok _ _) (.cons (plainL_ok _ _) (.cons (plainL_ok _ _) (.cons (plainL_ok _ _) .nil))))) good_nothing sat_none (WX.out ?_)
  repeat (first | (refine wx_quietU (by rfl) (by rfl) (by rfl) (fun K hK => ?_); go_big_quiet_op; refine hK _ ?_; clear hK K) | (refine wx_quietG (by rfl) (by rfl) (by rfl) (by rfl) (by rfl) (fun K hK => ?_); go_big_quiet_op; refine hK _ ?_; clear hK K) | (refine wx_skipG (by rfl) (by rfl) (by rfl) (fun K hK => ?_); go_simp; refine hK _ ?_; clear hK K) | (refine wx_skipN (by rfl) (by rfl) (by rfl) (fun K hK => ?_); go_simp; refine hK _ ?_; clear hK K))
  refine wx_loudU (us := []) (by rfl) (by rfl) (fun S wS hC hS hU => runs_enter (f := 57) (by go_simp <;> rfl) ?_) (fun v hv K hK => ?_)
  · refine (keeps_any wS).mono ?_
    rintro e w' ⟨rfl, hb⟩
    exact ⟨_, rfl, rfl, Kept.of_below hb, trivial⟩
  obtain rfl := hv; (go_simp; refine hK _ ?_; clear hK K)
  repeat (first | (refine wx_quietU (by rfl) (by rfl) (by rfl) (fun K hK => ?_); go_big_quiet_op; refine hK _ ?_; clear hK K) | (refine wx_quietG (by rfl) (by rfl) (by rfl) (by rfl) (by rfl) (fun K hK => ?_); go_big_quiet_op; refine hK _ ?_; clear hK K) | (refine wx_skipG (by rfl) (by rfl) (by rfl) (fun K hK => ?_); go_simp; refine hK _ ?_; clear hK K) | (refine wx_skipN (by rfl) (by rfl) (by rfl) (fun K hK => ?_); go_simp; refine hK _ ?_; clear hK K))
  refine wx_loudG (us := []) (by rfl) (by rfl) (by rfl) (by rfl) (fun S wS hC hS hU => runs_enter (f := 59) (by go_simp <;> rfl) ?_) (fun v hv K hK => ?_)
  · refine (key_any t1 i1 v1 wS).mono ?_
    rintro e w' ⟨rfl, hb⟩
    exact ⟨_, rfl, rfl, Kept.of_below hb, trivial⟩
  obtain rfl := hv; (go_simp; refine hK _ ?_; clear hK K)
  repeat (first | (refine wx_quietU (by rfl) (by rfl) (by rfl) (fun K hK => ?_); go_big_quiet_op; refine hK _ ?_; clear hK K) | (refine wx_quietG (by rfl) (by rfl) (by rfl) (by rfl) (by rfl) (fun K hK => ?_); go_big_quiet_op; refine hK _ ?_; clear hK K) | (refine wx_skipG (by rfl) (by rfl) (by rfl) (fun K hK => ?_); go_simp; refine hK _ ?_; clear hK K) | (refine wx_skipN (by rfl) (by rfl) (by rfl) (fun K hK => ?_); go_simp; refine hK _ ?_; clear hK K))
  refine wx_loudG (us := []) (by rfl) (by rfl) (by rfl) (by rfl) (fun S wS hC hS hU => runs_enter (f := 59) (by go_simp <;> rfl) ?_) (fun v hv K hK => ?_)
  · refine (key_any t2 i2 v2 wS).mono ?_
    rintro e w' ⟨rfl, hb⟩
    exact ⟨_, rfl, rfl, Kept.of_below hb, trivial⟩
  obtain rfl := hv; (go_simp; refine hK _ ?_; clear hK K)
  repeat (first | (refine wx_quietU (by rfl) (by rfl) (by rfl) (fun K hK => ?_); go_big_quiet_op; refine hK _ ?_; clear hK K) | (refine wx_quietG (by rfl) (by rfl) (by rfl) (by rfl) (by rfl) (fun K hK => ?_); go_big_quiet_op; refine hK _ ?_; clear hK K) | (refine wx_skipG (by rfl) (by rfl) (by rfl) (fun K hK => ?_); go_simp; refine hK _ ?_; clear hK K) | (refine wx_skipN (by rfl) (by rfl) (by rfl) (fun K hK => ?_); go_simp; refine hK _ ?_; clear hK K))
  refine wx_loudG (us := []) (by rfl) (by rfl) (by rfl) (by rfl) (fun S wS hC hS hU => runs_enter (f := 58) (by go_simp <;> rfl) ?_) (fun v hv K hK => ?_)
  · refine (less_any t1 i1 v1 t2 i2 v2 wS).mono ?_
    rintro e w' ⟨rfl, hb⟩
    rw [HO.out]
    exact ⟨_, rfl, rfl, Kept.of_below hb, trivial⟩
  obtain rfl := hv; (go_simp; refine hK _ ?_; clear hK K)
  repeat (first | (refine wx_quietU (by rfl) (by rfl) (by rfl) (fun K hK => ?_); go_big_quiet_op; refine hK _ ?_; clear hK K) | (refine wx_quietG (by rfl) (by rfl) (by rfl) (by rfl) (by rfl) (fun K hK => ?_); go_big_quiet_op; refine hK _ ?_; clear hK K) | (refine wx_skipG (by rfl) (by rfl) (by rfl) (fun K hK => ?_); go_simp; refine hK _ ?_; clear hK K) | (refine wx_skipN (by rfl) (by rfl) (by rfl) (fun K hK => ?_); go_simp; refine hK _ ?_; clear hK K))
  refine wx_loudG (us := []) (by rfl) (by rfl) (by rfl) (by rfl) (fun S wS hC hS hU => runs_enter (f := 60) (by go_simp <;> rfl) ?_) (fun v hv K hK => ?_)
  · refine (refLess_any t1 i1 v1 t2 i2 v2 wS).mono ?_
    rintro e w' ⟨rfl, hb⟩
    rw [HX.out]
    exact ⟨_, rfl, rfl, Kept.of_below hb, trivial⟩
  obtain rfl := hv; (go_simp; refine hK _ ?_; clear hK K)
  repeat (first | (refine wx_quietU (by rfl) (by rfl) (by rfl) (fun K hK => ?_); go_big_quiet_op; refine hK _ ?_; clear hK K) | (refine wx_quietG (by rfl) (by rfl) (by rfl) (by rfl) (by rfl) (fun K hK => ?_); go_big_quiet_op; refine hK _ ?_; clear hK K) | (refine wx_skipG (by rfl) (by rfl) (by rfl) (fun K hK => ?_); go_simp; refine hK _ ?_; clear hK K) | (refine wx_skipN (by rfl) (by rfl) (by rfl) (fun K hK => ?_); go_simp; refine hK _ ?_; clear hK K))
  refine wx_nil fun w2 hsat => ?_
  have hb2 := sat_below hsat
  have hbw2 := hbw.trans (hb2.mono hbw.size)
  clear hsat za zb
  go_wp2_with fail
  go_ret
  exact ⟨by simp, hbw2⟩
end Go.Proofs.Ytaajhkdifliblaa
