/-
  Contracts of package lsdb: the order of two keys; a copy of an Lsa without lists; its header.
-/
import Derived.Test.YtaajhkdifliblaaDb1
import Derived.Lib.SliceRun
import Derived.StillTailTactics
namespace Go.Proofs.Ytaajhkdifliblaa
set_option linter.unusedVariables false
set_option linter.unusedSimpArgs false
open Go Go.RowKit SM LM

set_option maxRecDepth 100000 in
set_option maxHeartbeats 400000 in
theorem nanU32_any (x : Int) (w : World) : Calls Try.prog 105 #[.int .u32 x] w fun e w' => e = .returned (.bool false) ∧ w' = w := by
  go_enter Try.func105, Try.ntmps105
  go_wp2_with fail
  go_ret
  exact ⟨ret_bool (by simp), rfl⟩
set_option maxRecDepth 100000 in
set_option maxHeartbeats 400000 in
theorem cmpU32_any (x y : Int) (w : World) :
    Calls Try.prog 97 #[.int .u32 x, .int .u32 y] w fun e w' => e = .returned (.int .i64 (cmpZ x y)) ∧ w' = w := by
  unfold cmpZ
  by_cases h1 : x < y
  · rw [if_pos h1]
    go_enter Try.func97, Try.ntmps97
    go_wp2_with (go_at_call 105; refine (nanU32_any _ _).mono ?_; rintro e w' ⟨rfl, rfl⟩)
    go_ret
    exact ⟨rfl, rfl⟩
  · rw [if_neg h1]
    by_cases h2 : y < x
    · rw [if_pos h2]
      go_enter Try.func97, Try.ntmps97
      go_wp2_with (go_at_call 105; refine (nanU32_any _ _).mono ?_; rintro e w' ⟨rfl, rfl⟩)
      go_ret
      exact ⟨rfl, rfl⟩
    · rw [if_neg h2]
      go_enter Try.func97, Try.ntmps97
      go_wp2_with (go_at_call 105; refine (nanU32_any _ _).mono ?_; rintro e w' ⟨rfl, rfl⟩)
      go_ret
      exact ⟨rfl, rfl⟩
set_option maxRecDepth 100000 in
set_option maxHeartbeats 1600000 in
theorem or3_any (A : Option Addr) (c : Nat) (x y z : Int) (w : World) (h : Sl w 1 (.slice A 3 c) [.int .i64 x, .int .i64 y, .int .i64 z]) :
    Calls Try.prog 87 #[.slice A 3 c] w fun e w' => e = .returned (.int .i64 (if x = 0 then (if y = 0 then z else y) else x)) ∧ Below w.heap.size w w' := by
  obtain ⟨A', n', c', he, hl, _, _, h⟩ := h
  injection he with e1 e2 e3
  subst e1; subst e2; subst e3
  obtain ⟨b, off, rfl, hb, h⟩ := h (by omega)
  have h0 : w.cell? ⟨b, off, none⟩ = some (.int .i64 x) := h 0 (by omega)
  have h1 : w.cell? ⟨b, off + 1, none⟩ = some (.int .i64 y) := h 1 (by omega)
  have h2 : w.cell? ⟨b, off + 2, none⟩ = some (.int .i64 z) := h 2 (by omega)
  clear h hl
  go_enter Try.func87, Try.ntmps87
  go_wp2_with fail
  go_loop [8] (fun i => i = .int .i64 0 ∨ (i = .int .i64 1 ∧ x = 0) ∨ (i = .int .i64 2 ∧ x = 0 ∧ y = 0) ∨ (i = .int .i64 3 ∧ x = 0 ∧ y = 0 ∧ z = 0)) (fun i => 3 - (intOf i).toNat)
  case atStart => exact .inl rfl
  case round =>
    rcases hrel with rfl | ⟨rfl, hx⟩ | ⟨rfl, hx, hy⟩ | ⟨rfl, hx, hy, hz⟩
    · by_cases hx : x = 0
      · subst hx
        go_wp2_with fail
        exact ⟨by first | exact .inr (.inl ⟨rfl, rfl⟩) | simp, by first | decide | simp [intOf]⟩
      ·
        go_wp2_with fail
        go_ret
        exact ⟨by simp [*], by (repeat (first | with_reducible exact Below.refl _ _ | with_reducible assumption | with_reducible refine Below.drew ?_ | with_reducible refine below_drewN ?_ _ | (with_reducible refine Below.alloc ?_ ?_ _; rotate_left; · (first | (simp; done) | omega | (simp at *; omega))) | (with_reducible refine Below.setCell ?_ ?_ _; rotate_left; · (first | (simp only []; omega) | (simp; done) | (simp; omega))) | with_reducible refine Below.trans ?_ (by with_reducible assumption)))⟩
    · subst hx
      by_cases hy : y = 0
      · subst hy
        go_wp2_with fail
        exact ⟨by first | exact .inr (.inr (.inl ⟨rfl, rfl, rfl⟩)) | simp, by first | decide | simp [intOf]⟩
      ·
        go_wp2_with fail
        go_ret
        exact ⟨by simp [*], by (repeat (first | with_reducible exact Below.refl _ _ | with_reducible assumption | with_reducible refine Below.drew ?_ | with_reducible refine below_drewN ?_ _ | (with_reducible refine Below.alloc ?_ ?_ _; rotate_left; · (first | (simp; done) | omega | (simp at *; omega))) | (with_reducible refine Below.setCell ?_ ?_ _; rotate_left; · (first | (simp only []; omega) | (simp; done) | (simp; omega))) | with_reducible refine Below.trans ?_ (by with_reducible assumption)))⟩
    · subst hx; subst hy
      by_cases hz : z = 0
      · subst hz
        go_wp2_with fail
        exact ⟨by first | exact .inr (.inr (.inr ⟨rfl, rfl, rfl, rfl⟩)) | simp, by first | decide | simp [intOf]⟩
      ·
        go_wp2_with fail
        go_ret
        exact ⟨by simp [*], by (repeat (first | with_reducible exact Below.refl _ _ | with_reducible assumption | with_reducible refine Below.drew ?_ | with_reducible refine below_drewN ?_ _ | (with_reducible refine Below.alloc ?_ ?_ _; rotate_left; · (first | (simp; done) | omega | (simp at *; omega))) | (with_reducible refine Below.setCell ?_ ?_ _; rotate_left; · (first | (simp only []; omega) | (simp; done) | (simp; omega))) | with_reducible refine Below.trans ?_ (by with_reducible assumption)))⟩
    · subst hx; subst hy; subst hz
      go_wp2_with fail
      go_ret
      exact ⟨by simp [*], by (repeat (first | with_reducible exact Below.refl _ _ | with_reducible assumption | with_reducible refine Below.drew ?_ | with_reducible refine below_drewN ?_ _ | (with_reducible refine Below.alloc ?_ ?_ _; rotate_left; · (first | (simp; done) | omega | (simp at *; omega))) | (with_reducible refine Below.setCell ?_ ?_ _; rotate_left; · (first | (simp only []; omega) | (simp; done) | (simp; omega))) | with_reducible refine Below.trans ?_ (by with_reducible assumption)))⟩
/-- which of two keys is ahead -/
def ordK (t1 i1 v1 t2 i2 v2 : Int) : Int := if cmpZ t1 t2 = 0 then (if cmpZ v1 v2 = 0 then cmpZ i1 i2 else cmpZ v1 v2) else cmpZ t1 t2
set_option maxRecDepth 100000 in
set_option maxHeartbeats 1600000 in
theorem order_any (t1 i1 v1 t2 i2 v2 : Int) (w : World) :
    Calls Try.prog 86 #[keyV t1 i1 v1, keyV t2 i2 v2] w fun e w' => e = .returned (.int .i64 (ordK t1 i1 v1 t2 i2 v2)) ∧ Below w.heap.size w w' := by
  go_enter Try.func86, Try.ntmps86
  go_wp2_with fail
  have hbw := ((Below.refl w.heap.size w).alloc (Nat.le_refl _) (.cells #[.int .i64 t1, .int .u32 i1, .int .u32 v1] 77)).alloc (by simp) (.cells #[.int .i64 t2, .int .u32 i2, .int .u32 v2] 77)
  have hba := blk_alloc (heap_alloc_new w (.cells #[.int .i64 t1, .int .u32 i1, .int .u32 v1] 77)) (.cells #[.int .i64 t2, .int .u32 i2, .int .u32 v2] 77)
  have hbb := heap_alloc_new' (w.alloc (.cells #[.int .i64 t1, .int .u32 i1, .int .u32 v1] 77)) (.cells #[.int .i64 t2, .int .u32 i2, .int .u32 v2] 77) (w.heap.size + 1) (by simp)
  generalize ((w.alloc (.cells #[.int .i64 t1, .int .u32 i1, .int .u32 v1] 77)).alloc (.cells #[.int .i64 t2, .int .u32 i2, .int .u32 v2] 77)) = w1 at *
  have za := fun (z : WK (fun _ => False) w1) i => (wat_cell (p := ⟨w.heap.size, i, none⟩) (Array.getElem?_eq_some_iff.1 hba).1 (by simp) z).trans ((blk_cells hba).1 i)
  have zb := fun (z : WK (fun _ => False) w1) i => (wat_cell (p := ⟨w.heap.size + 1, i, none⟩) (Array.getElem?_eq_some_iff.1 hbb).1 (by simp) z).trans ((blk_cells hbb).1 i)
  refine wp_region_loud (fun _ => False)
      [(4, plainL [] (.int .i64 (cmpZ t1 t2))), (9, plainL [] (.int .i64 (cmpZ v1 v2))), (14, plainL [] (.int .i64 (cmpZ i1 i2))), (15, rowL [] w1.heap.size 3 1 3 [.int .i64 (cmpZ t1 t2), .int .i64 (cmpZ v1 v2), .int .i64 (cmpZ i1 i2)]),
       (16, plainL [15] (.int .i64 (ordK t1 i1 v1 t2 i2 v2)))]
      (fun _ => Fact.none) (by kernel_rfl) (by kernel_rfl)
      (.cons (plainL_ok _ _) (.cons (plainL_ok _ _) (.cons (plainL_ok _ _) (.cons (rowL_ok _ _ _ _ _ _) (.cons (plainL_ok _ _) .nil))))) good_nothing sat_none (WX.out ?_)
  repeat (first | (refine wx_quietU (by rfl) (by rfl) (by rfl) (fun K hK => ?_); go_big_quiet_op; refine hK _ ?_; clear hK K) | (refine wx_quietG (by rfl) (by rfl) (by rfl) (by rfl) (by rfl) (fun K hK => ?_); go_big_quiet_op; refine hK _ ?_; clear hK K) | (refine wx_skipG (by rfl) (by rfl) (by rfl) (fun K hK => ?_); go_simp; refine hK _ ?_; clear hK K) | (refine wx_skipN (by rfl) (by rfl) (by rfl) (fun K hK => ?_); go_simp; refine hK _ ?_; clear hK K))
  refine wx_loudU (us := []) (by rfl) (by rfl) (fun S wS hC hS hU => runs_enter (f := 88) (by go_simp <;> rfl) ?_) (fun v hv K hK => ?_)
  · refine (cmpInt_any _ _ wS).mono ?_
    rintro e w' ⟨rfl, rfl⟩
    exact ⟨_, rfl, rfl, Kept.refl _ _, trivial⟩
  obtain rfl := hv; (go_simp; refine hK _ ?_; clear hK K)
  repeat (first | (refine wx_quietU (by rfl) (by rfl) (by rfl) (fun K hK => ?_); go_big_quiet_op; refine hK _ ?_; clear hK K) | (refine wx_quietG (by rfl) (by rfl) (by rfl) (by rfl) (by rfl) (fun K hK => ?_); go_big_quiet_op; refine hK _ ?_; clear hK K) | (refine wx_skipG (by rfl) (by rfl) (by rfl) (fun K hK => ?_); go_simp; refine hK _ ?_; clear hK K) | (refine wx_skipN (by rfl) (by rfl) (by rfl) (fun K hK => ?_); go_simp; refine hK _ ?_; clear hK K))
  refine wx_loudU (us := []) (by rfl) (by rfl) (fun S wS hC hS hU => runs_enter (f := 97) (by go_simp <;> rfl) ?_) (fun v hv K hK => ?_)
  · refine (cmpU32_any _ _ wS).mono ?_
    rintro e w' ⟨rfl, rfl⟩
    exact ⟨_, rfl, rfl, Kept.refl _ _, trivial⟩
  obtain rfl := hv; (go_simp; refine hK _ ?_; clear hK K)
  repeat (first | (refine wx_quietU (by rfl) (by rfl) (by rfl) (fun K hK => ?_); go_big_quiet_op; refine hK _ ?_; clear hK K) | (refine wx_quietG (by rfl) (by rfl) (by rfl) (by rfl) (by rfl) (fun K hK => ?_); go_big_quiet_op; refine hK _ ?_; clear hK K) | (refine wx_skipG (by rfl) (by rfl) (by rfl) (fun K hK => ?_); go_simp; refine hK _ ?_; clear hK K) | (refine wx_skipN (by rfl) (by rfl) (by rfl) (fun K hK => ?_); go_simp; refine hK _ ?_; clear hK K))
  refine wx_loudU (us := []) (by rfl) (by rfl) (fun S wS hC hS hU => runs_enter (f := 97) (by go_simp <;> rfl) ?_) (fun v hv K hK => ?_)
  · refine (cmpU32_any _ _ wS).mono ?_
    rintro e w' ⟨rfl, rfl⟩
    exact ⟨_, rfl, rfl, Kept.refl _ _, trivial⟩
  obtain rfl := hv; (go_simp; refine hK _ ?_; clear hK K)
  repeat (first | (refine wx_quietU (by rfl) (by rfl) (by rfl) (fun K hK => ?_); go_big_quiet_op; refine hK _ ?_; clear hK K) | (refine wx_quietG (by rfl) (by rfl) (by rfl) (by rfl) (by rfl) (fun K hK => ?_); go_big_quiet_op; refine hK _ ?_; clear hK K) | (refine wx_skipG (by rfl) (by rfl) (by rfl) (fun K hK => ?_); go_simp; refine hK _ ?_; clear hK K) | (refine wx_skipN (by rfl) (by rfl) (by rfl) (fun K hK => ?_); go_simp; refine hK _ ?_; clear hK K))
  refine wx_loudU (us := []) (by rfl) (by rfl) (fun S wS hC hS hU => ?_) (fun v hv K hK => ?_)
  · refine runs_value (by go_simp <;> rfl) (made_x rfl hC.size ?_ (by simp) (by omega) (by omega))
    simp
  obtain ⟨A9, c9, rfl⟩ := hv; (go_simp; refine hK _ ?_; clear hK K)
  repeat (first | (refine wx_quietU (by rfl) (by rfl) (by rfl) (fun K hK => ?_); go_big_quiet_op; refine hK _ ?_; clear hK K) | (refine wx_quietG (by rfl) (by rfl) (by rfl) (by rfl) (by rfl) (fun K hK => ?_); go_big_quiet_op; refine hK _ ?_; clear hK K) | (refine wx_skipG (by rfl) (by rfl) (by rfl) (fun K hK => ?_); go_simp; refine hK _ ?_; clear hK K) | (refine wx_skipN (by rfl) (by rfl) (by rfl) (fun K hK => ?_); go_simp; refine hK _ ?_; clear hK K))
  refine wx_loudU (us := [15]) (by rfl) (by rfl) (fun S wS hC hS hU => runs_enter (f := 87) (by go_simp <;> rfl) ?_) (fun v hv K hK => ?_)
  · have k15 : OwnF w1.heap.size 3 1 3 [.int .i64 (cmpZ t1 t2), .int .i64 (cmpZ v1 v2), .int .i64 (cmpZ i1 i2)] (.slice A9 3 c9) S wS := hU 15 (by simp)
    refine (or3_any A9 c9 _ _ _ wS (own_sl k15.2)).mono ?_
    rintro e w' ⟨rfl, hb⟩
    exact ⟨_, rfl, rfl, Kept.of_below hb, trivial⟩
  obtain rfl := hv; (go_simp; refine hK _ ?_; clear hK K)
  repeat (first | (refine wx_quietU (by rfl) (by rfl) (by rfl) (fun K hK => ?_); go_big_quiet_op; refine hK _ ?_; clear hK K) | (refine wx_quietG (by rfl) (by rfl) (by rfl) (by rfl) (by rfl) (fun K hK => ?_); go_big_quiet_op; refine hK _ ?_; clear hK K) | (refine wx_skipG (by rfl) (by rfl) (by rfl) (fun K hK => ?_); go_simp; refine hK _ ?_; clear hK K) | (refine wx_skipN (by rfl) (by rfl) (by rfl) (fun K hK => ?_); go_simp; refine hK _ ?_; clear hK K))
  refine wx_nil fun w2 hsat => ?_
  have hb2 := sat_below hsat
  have hbw2 := hbw.trans (hb2.mono hbw.size)
  clear hsat za zb
  go_wp2_with fail
  go_ret
  exact ⟨rfl, hbw2⟩
set_option maxRecDepth 100000 in
set_option maxHeartbeats 400000 in
theorem less_any (t1 i1 v1 t2 i2 v2 : Int) (w : World) :
    Calls Try.prog 58 #[keyV t1 i1 v1, keyV t2 i2 v2] w fun e w' => e = .returned (.bool (decide (ordK t1 i1 v1 t2 i2 v2 < 0))) ∧ Below w.heap.size w w' := by
  have hbw := ((Below.refl w.heap.size w).alloc (Nat.le_refl _) (.cells #[.int .i64 t1, .int .u32 i1, .int .u32 v1] 77)).alloc (by simp) (.cells #[.int .i64 t2, .int .u32 i2, .int .u32 v2] 77)
  go_enter Try.func58, Try.ntmps58
  go_wp2_with fail
  refine (order_any t1 i1 v1 t2 i2 v2 _).mono ?_
  rintro e w' ⟨rfl, hb⟩
  have hbw2 := hbw.trans (hb.mono (by simp; omega))
  clear hbw
  go_wp2_with fail
  go_ret
  exact ⟨rfl, hbw2⟩
set_option maxRecDepth 100000 in
set_option maxHeartbeats 400000 in
theorem key_any (t i v : Int) (w : World) : Calls Try.prog 59 #[keyV t i v] w fun e w' => e = .returned (keyV t i v) ∧ Below w.heap.size w w' := by
  have hbw := ((Below.refl w.heap.size w).alloc (Nat.le_refl _) (.cells #[.int .i64 t, .int .u32 i, .int .u32 v] 71)).alloc (by simp) (.cells #[.int .i64 t, .int .u32 i, .int .u32 v] 77)
  have hh := heap_alloc_new' (w.alloc (.cells #[.int .i64 t, .int .u32 i, .int .u32 v] 71)) (.cells #[.int .i64 t, .int .u32 i, .int .u32 v] 77) (w.heap.size + 1) (by simp)
  go_enter Try.func59, Try.ntmps59
  go_wp2_with fail
  refine ret_blk (v := keyV t i v) (g := w.heap.size + 1) (T := 77) (cs := #[.int .i64 t, .int .u32 i, .int .u32 v]) (fun W hW => by obtain ⟨hc, hf⟩ := blk_cells hW; simp [results, Try.results59, go_sem, hc]) hh rfl ⟨rfl, hbw⟩
/-- the document's order of two keys -/
def lessK (t1 i1 v1 t2 i2 v2 : Int) : Bool := if t1 = t2 then (if v1 = v2 then decide (i1 < i2) else decide (v1 < v2)) else decide (t1 < t2)
set_option maxRecDepth 100000 in
set_option maxHeartbeats 800000 in
theorem refLess_any (t1 i1 v1 t2 i2 v2 : Int) (w : World) :
    Calls Try.prog 60 #[keyV t1 i1 v1, keyV t2 i2 v2] w fun e w' => e = .returned (.bool (lessK t1 i1 v1 t2 i2 v2)) ∧ Below w.heap.size w w' := by
  have hbw := ((Below.refl w.heap.size w).alloc (Nat.le_refl _) (.cells #[.int .i64 t1, .int .u32 i1, .int .u32 v1] 71)).alloc (by simp) (.cells #[.int .i64 t2, .int .u32 i2, .int .u32 v2] 71)
  by_cases h1 : t1 = t2
  · subst h1
    by_cases h2 : v1 = v2
    · subst h2
      go_enter Try.func60, Try.ntmps60
      go_wp2_with fail
      go_ret
      exact ⟨ret_bool (by simp [lessK, *]), hbw⟩
    · have q2 : (v1 != v2) = true := by simp [h2]
      go_enter Try.func60, Try.ntmps60
      go_wp2_with fail
      go_ret
      exact ⟨ret_bool (by simp [lessK, *]), hbw⟩
  · have q1 : (t1 != t2) = true := by simp [h1]
    go_enter Try.func60, Try.ntmps60
    go_wp2_with fail
    go_ret
    exact ⟨ret_bool (by simp [lessK, *]), hbw⟩
theorem ord_less (t1 i1 v1 t2 i2 v2 : Int) : decide (ordK t1 i1 v1 t2 i2 v2 < 0) = lessK t1 i1 v1 t2 i2 v2 := by
  unfold ordK lessK cmpZ
  by_cases a : t1 < t2 <;> by_cases b : t2 < t1 <;> by_cases c : v1 < v2 <;> by_cases d : v2 < v1 <;> by_cases e : i1 < i2 <;> by_cases f : i2 < i1 <;> simp [*] <;> omega
end Go.Proofs.Ytaajhkdifliblaa
