/-
  Contracts of package elect: a round; is a router one of both now?
-/
import Derived.Test.YtaajhkdifliblaaEl2
namespace Go.Proofs.Ytaajhkdifliblaa
set_option linter.unusedVariables false
set_option linter.unusedSimpArgs false
open Go Go.RowKit EL

set_option maxRecDepth 100000 in
set_option maxHeartbeats 1600000 in
theorem round_any (A : Option Addr) (n c : Nat) (l : List Vot) (w : World) (h : Sl w 5 (.slice A n c) (VS l)) :
    Calls Try.prog 101 #[.slice A n c] w fun e w' => e = .returned (.tuple #[.int .u32 (roundA l).1, .int .u32 (roundA l).2]) ∧ Below w.heap.size w w' := by
  obtain ⟨⟨b1, ok1⟩, hs1⟩ : ∃ s, bestOf deputy l = s := ⟨_, rfl⟩
  obtain ⟨⟨b2, ok2⟩, hs2⟩ : ∃ s, bestOf other l = s := ⟨_, rfl⟩
  obtain ⟨⟨b3, ok3⟩, hs3⟩ : ∃ s, bestOf speaks l = s := ⟨_, rfl⟩
  have HR : Hid (roundA l = ((if ok3 = true then b3 else if ok1 = true then b1 else b2).addr, (if ok1 = true then b1 else b2).addr)) := by show _ = _; unfold roundA roundV; rw [hs1, hs2, hs3]
  have H1 := hid hs1
  have H2 := hid hs2
  have H3 := hid hs3
  clear hs1 hs2 hs3
  go_enter Try.func101, Try.ntmps101
  go_wp2_with fail
  refine (best_deputy A n c l w h).mono ?_
  rintro e w1 ⟨rfl, hb1⟩
  rw [H1.out]
  have hB := heap_alloc_new w1 (.cells (vC b1) 50)
  have hbw := hb1.alloc hb1.size (.cells (vC b1) 50)
  have hg1 := hb1.size
  clear hb1
  cases ok1 with
  | false =>
    go_wp2_with fail
    refine (best_other A n c l _ (h.below hbw)).mono ?_
    rintro e w2 ⟨rfl, hb2⟩
    rw [H2.out]
    replace hB := blk_below hB hb2 (by simp)
    replace hbw := hbw.trans (hb2.mono hbw.size)
    obtain ⟨hc, hf⟩ := blk_cells hB
    clear hb2
    go_wp2_with fail
    have hBB := putV_in b2 hB
    replace hbw := putV_below (g := w1.heap.size) b2 hbw hg1
    clear hc hf hB
    refine (best_speaks A n c l (putV w2 w1.heap.size b2) (h.below hbw)).mono ?_
    generalize putV w2 w1.heap.size b2 = w2' at *
    rintro e w3 ⟨rfl, hb3⟩
    rw [H3.out]
    replace hbw := hbw.trans (hb3.mono hbw.size)
    have hB3 := blk_below hBB hb3 (Array.getElem?_eq_some_iff.1 hBB).1
    have hB4 := blk_alloc hB3 (.cells (vC b3) 50)
    have hD := heap_alloc_new w3 (.cells (vC b3) 50)
    have hbv := hbw
    replace hbw := hbw.alloc hbw.size (.cells (vC b3) 50)
    have hg3 := (Array.getElem?_eq_some_iff.1 hB3).1
    have hw3 : w.heap.size ≤ w3.heap.size := by omega
    obtain ⟨hc4, _⟩ := blk_cells hB4
    obtain ⟨hc6, hf6⟩ := blk_cells hD
    generalize hG : w1.heap.size = G at *
    clear hb3 hBB
    cases ok3 with
    | true =>
      go_wp2_with fail
      go_quiet (fail)
      go_wp2_with fail
      refine bodyPost_ret (v := .tuple #[.int .u32 b3.addr, .int .u32 b2.addr]) (by simp [results, Try.results101, go_sem]) rfl ⟨by rw [HR.out]; rfl, by (repeat (first | with_reducible exact Below.refl _ _ | with_reducible assumption | with_reducible refine Below.drew ?_ | with_reducible refine below_drewN ?_ _ | (with_reducible refine Below.alloc ?_ ?_ _; rotate_left; · (first | (simp; done) | omega | (simp at *; omega))) | (with_reducible refine Below.setCell ?_ ?_ _; rotate_left; · (first | (simp only []; omega) | (simp; done) | (simp; omega))) | with_reducible refine Below.trans ?_ (by with_reducible assumption)))⟩
    | false =>
      go_wp2_with fail
      have hD2 := heap_alloc_new w3 (.cells (vC b2) 50)
      have hB5 := blk_alloc hB3 (.cells (vC b2) 50)
      replace hbw := hbv.alloc hw3 (.cells (vC b2) 50)
      clear hc4 hc6 hf6 hD hB4
      change Code.wp _ _ _ _ (w3.alloc (.cells (vC b2) 50))
      generalize (w3.alloc (.cells (vC b2) 50)) = w5 at *
      obtain ⟨hc4, _⟩ := blk_cells hB5
      obtain ⟨hc6, _⟩ := blk_cells hD2
      go_quiet (fail)
      go_wp2_with fail
      refine bodyPost_ret (v := .tuple #[.int .u32 b2.addr, .int .u32 b2.addr]) (by simp [results, Try.results101, go_sem]) rfl ⟨by rw [HR.out]; rfl, by (repeat (first | with_reducible exact Below.refl _ _ | with_reducible assumption | with_reducible refine Below.drew ?_ | with_reducible refine below_drewN ?_ _ | (with_reducible refine Below.alloc ?_ ?_ _; rotate_left; · (first | (simp; done) | omega | (simp at *; omega))) | (with_reducible refine Below.setCell ?_ ?_ _; rotate_left; · (first | (simp only []; omega) | (simp; done) | (simp; omega))) | with_reducible refine Below.trans ?_ (by with_reducible assumption)))⟩
  | true =>
    go_wp2_with fail
    refine (best_speaks A n c l _ (h.below hbw)).mono ?_
    have hBB := hB
    generalize w1.alloc (.cells (vC b1) 50) = w2' at *
    rintro e w3 ⟨rfl, hb3⟩
    rw [H3.out]
    replace hbw := hbw.trans (hb3.mono hbw.size)
    have hB3 := blk_below hBB hb3 (Array.getElem?_eq_some_iff.1 hBB).1
    have hB4 := blk_alloc hB3 (.cells (vC b3) 50)
    have hD := heap_alloc_new w3 (.cells (vC b3) 50)
    have hbv := hbw
    replace hbw := hbw.alloc hbw.size (.cells (vC b3) 50)
    have hg3 := (Array.getElem?_eq_some_iff.1 hB3).1
    have hw3 : w.heap.size ≤ w3.heap.size := by omega
    obtain ⟨hc4, _⟩ := blk_cells hB4
    obtain ⟨hc6, hf6⟩ := blk_cells hD
    generalize hG : w1.heap.size = G at *
    clear hb3 hBB
    cases ok3 with
    | true =>
      go_wp2_with fail
      go_quiet (fail)
      go_wp2_with fail
      refine bodyPost_ret (v := .tuple #[.int .u32 b3.addr, .int .u32 b1.addr]) (by simp [results, Try.results101, go_sem]) rfl ⟨by rw [HR.out]; rfl, by (repeat (first | with_reducible exact Below.refl _ _ | with_reducible assumption | with_reducible refine Below.drew ?_ | with_reducible refine below_drewN ?_ _ | (with_reducible refine Below.alloc ?_ ?_ _; rotate_left; · (first | (simp; done) | omega | (simp at *; omega))) | (with_reducible refine Below.setCell ?_ ?_ _; rotate_left; · (first | (simp only []; omega) | (simp; done) | (simp; omega))) | with_reducible refine Below.trans ?_ (by with_reducible assumption)))⟩
    | false =>
      go_wp2_with fail
      have hD2 := heap_alloc_new w3 (.cells (vC b1) 50)
      have hB5 := blk_alloc hB3 (.cells (vC b1) 50)
      replace hbw := hbv.alloc hw3 (.cells (vC b1) 50)
      clear hc4 hc6 hf6 hD hB4
      change Code.wp _ _ _ _ (w3.alloc (.cells (vC b1) 50))
      generalize (w3.alloc (.cells (vC b1) 50)) = w5 at *
      obtain ⟨hc4, _⟩ := blk_cells hB5
      obtain ⟨hc6, _⟩ := blk_cells hD2
      go_quiet (fail)
      go_wp2_with fail
      refine bodyPost_ret (v := .tuple #[.int .u32 b1.addr, .int .u32 b1.addr]) (by simp [results, Try.results101, go_sem]) rfl ⟨by rw [HR.out]; rfl, by (repeat (first | with_reducible exact Below.refl _ _ | with_reducible assumption | with_reducible refine Below.drew ?_ | with_reducible refine below_drewN ?_ _ | (with_reducible refine Below.alloc ?_ ?_ _; rotate_left; · (first | (simp; done) | omega | (simp at *; omega))) | (with_reducible refine Below.setCell ?_ ?_ _; rotate_left; · (first | (simp only []; omega) | (simp; done) | (simp; omega))) | with_reducible refine Below.trans ?_ (by with_reducible assumption)))⟩
theorem beq_dec (a b : Int) : (a == b) = decide (a = b) := rfl
set_option maxRecDepth 100000 in
set_option maxHeartbeats 3200000 in
theorem turned_any (v : Vot) (x y : Int) (w : World) : Calls Try.prog 102 #[.agg (vC v), .int .u32 x, .int .u32 y] w fun e w' => e = .returned (.bool (turned v x y)) ∧ Below w.heap.size w w' := by
  obtain ⟨id, ad, pr, dr, bd⟩ := v
  have hbb := (Below.refl w.heap.size w).alloc (Nat.le_refl _) (.cells (vC ⟨id, ad, pr, dr, bd⟩) 50)
  have hh := heap_alloc_new w (.cells (vC ⟨id, ad, pr, dr, bd⟩) 50)
  obtain ⟨s, hs⟩ : ∃ s, speaks ⟨id, ad, pr, dr, bd⟩ = s := ⟨_, rfl⟩
  have HS := hid hs
  have HT : Hid (turned ⟨id, ad, pr, dr, bd⟩ x y = ((decide (x = ad) != s) || (decide (y = ad) != decide (bd = ad)))) := by show _ = _; unfold turned; rw [hs]
  clear hs
  cases s with
  | true =>
    by_cases hx : x = ad
    · have qx : (x == ad) = true := by simp [hx]
      have HX := hid hx
      clear hx
      go_enter Try.func102, Try.ntmps102
      go_wp2_with fail
      change Code.wp _ _ _ _ (w.alloc (.cells (vC ⟨id, ad, pr, dr, bd⟩) 50))
      generalize w.alloc (.cells (vC ⟨id, ad, pr, dr, bd⟩) 50) = w1 at *
      have z := fun (z : WK (fun _ => False) w1) i => (wat_cell (p := ⟨w.heap.size, i, none⟩) (Array.getElem?_eq_some_iff.1 hh).1 (by simp) z).trans ((blk_cells hh).1 i)
      refine wp_region_loud (fun _ => False) [(5, plainL [] (.bool true))] (fun _ => Fact.none) (by kernel_rfl) (by kernel_rfl) (.cons (plainL_ok _ _) .nil) good_nothing sat_none (WX.out ?_)
      repeat (first | (refine wx_quietU (by rfl) (by rfl) (by rfl) (fun K hK => ?_); go_big_quiet_op; refine hK _ ?_; clear hK K) | (refine wx_quietG (by rfl) (by rfl) (by rfl) (by rfl) (by rfl) (fun K hK => ?_); go_big_quiet_op; refine hK _ ?_; clear hK K) | (refine wx_skipG (by rfl) (by rfl) (by rfl) (fun K hK => ?_); go_simp; refine hK _ ?_; clear hK K) | (refine wx_skipN (by rfl) (by rfl) (by rfl) (fun K hK => ?_); go_simp; refine hK _ ?_; clear hK K))
      refine wx_loudU (us := []) (by rfl) (by rfl) (fun S wS hC hS hU => runs_enter (f := 109) (by go_simp <;> rfl) ?_) (fun v hv K hK => ?_)
      · refine (speaks_any ⟨id, ad, pr, dr, bd⟩ wS).mono ?_
        rintro e w' ⟨rfl, hb⟩
        rw [HS.out]
        exact ⟨_, rfl, rfl, Kept.of_below hb, trivial⟩
      obtain rfl := hv; (go_simp; refine hK _ ?_; clear hK K)
      repeat (first | (refine wx_quietU (by rfl) (by rfl) (by rfl) (fun K hK => ?_); go_big_quiet_op; refine hK _ ?_; clear hK K) | (refine wx_quietG (by rfl) (by rfl) (by rfl) (by rfl) (by rfl) (fun K hK => ?_); go_big_quiet_op; refine hK _ ?_; clear hK K) | (refine wx_skipG (by rfl) (by rfl) (by rfl) (fun K hK => ?_); go_simp; refine hK _ ?_; clear hK K) | (refine wx_skipN (by rfl) (by rfl) (by rfl) (fun K hK => ?_); go_simp; refine hK _ ?_; clear hK K))
      refine wx_nil fun w2 hsat => ?_
      have hb2 := sat_below hsat
      have hbw2 := hbb.trans (hb2.mono hbb.size)
      clear hsat z
      go_wp2_with fail
      go_ret
      exact ⟨ret_bool (by have := HX.out; rw [HT.out]; first | (simp [this]; done) | (simp only [this, decide_true, decide_false, bne_self_eq_false, Bool.false_or]; rfl) | (simp [this, beq_dec])), hbw2⟩
    · have qx : (x == ad) = false := by simp [hx]
      have HX := hid hx
      clear hx
      go_enter Try.func102, Try.ntmps102
      go_wp2_with fail
      change Code.wp _ _ _ _ (w.alloc (.cells (vC ⟨id, ad, pr, dr, bd⟩) 50))
      generalize w.alloc (.cells (vC ⟨id, ad, pr, dr, bd⟩) 50) = w1 at *
      have z := fun (z : WK (fun _ => False) w1) i => (wat_cell (p := ⟨w.heap.size, i, none⟩) (Array.getElem?_eq_some_iff.1 hh).1 (by simp) z).trans ((blk_cells hh).1 i)
      refine wp_region_loud (fun _ => False) [(5, plainL [] (.bool true))] (fun _ => Fact.none) (by kernel_rfl) (by kernel_rfl) (.cons (plainL_ok _ _) .nil) good_nothing sat_none (WX.out ?_)
      repeat (first | (refine wx_quietU (by rfl) (by rfl) (by rfl) (fun K hK => ?_); go_big_quiet_op; refine hK _ ?_; clear hK K) | (refine wx_quietG (by rfl) (by rfl) (by rfl) (by rfl) (by rfl) (fun K hK => ?_); go_big_quiet_op; refine hK _ ?_; clear hK K) | (refine wx_skipG (by rfl) (by rfl) (by rfl) (fun K hK => ?_); go_simp; refine hK _ ?_; clear hK K) | (refine wx_skipN (by rfl) (by rfl) (by rfl) (fun K hK => ?_); go_simp; refine hK _ ?_; clear hK K))
      refine wx_loudU (us := []) (by rfl) (by rfl) (fun S wS hC hS hU => runs_enter (f := 109) (by go_simp <;> rfl) ?_) (fun v hv K hK => ?_)
      · refine (speaks_any ⟨id, ad, pr, dr, bd⟩ wS).mono ?_
        rintro e w' ⟨rfl, hb⟩
        rw [HS.out]
        exact ⟨_, rfl, rfl, Kept.of_below hb, trivial⟩
      obtain rfl := hv; (go_simp; refine hK _ ?_; clear hK K)
      repeat (first | (refine wx_quietU (by rfl) (by rfl) (by rfl) (fun K hK => ?_); go_big_quiet_op; refine hK _ ?_; clear hK K) | (refine wx_quietG (by rfl) (by rfl) (by rfl) (by rfl) (by rfl) (fun K hK => ?_); go_big_quiet_op; refine hK _ ?_; clear hK K) | (refine wx_skipG (by rfl) (by rfl) (by rfl) (fun K hK => ?_); go_simp; refine hK _ ?_; clear hK K) | (refine wx_skipN (by rfl) (by rfl) (by rfl) (fun K hK => ?_); go_simp; refine hK _ ?_; clear hK K))
      refine wx_nil fun w2 hsat => ?_
      have hb2 := sat_below hsat
      have hbw2 := hbb.trans (hb2.mono hbb.size)
      clear hsat z
      go_wp2_with fail
      go_ret
      exact ⟨ret_bool (by have := HX.out; rw [HT.out]; first | (simp [this]; done) | (simp only [this, decide_true, decide_false, bne_self_eq_false, Bool.false_or]; rfl) | (simp [this, beq_dec])), hbw2⟩
  | false =>
    by_cases hx : x = ad
    · have qx : (x == ad) = true := by simp [hx]
      have HX := hid hx
      clear hx
      go_enter Try.func102, Try.ntmps102
      go_wp2_with fail
      change Code.wp _ _ _ _ (w.alloc (.cells (vC ⟨id, ad, pr, dr, bd⟩) 50))
      generalize w.alloc (.cells (vC ⟨id, ad, pr, dr, bd⟩) 50) = w1 at *
      have z := fun (z : WK (fun _ => False) w1) i => (wat_cell (p := ⟨w.heap.size, i, none⟩) (Array.getElem?_eq_some_iff.1 hh).1 (by simp) z).trans ((blk_cells hh).1 i)
      refine wp_region_loud (fun _ => False) [(5, plainL [] (.bool false))] (fun _ => Fact.none) (by kernel_rfl) (by kernel_rfl) (.cons (plainL_ok _ _) .nil) good_nothing sat_none (WX.out ?_)
      repeat (first | (refine wx_quietU (by rfl) (by rfl) (by rfl) (fun K hK => ?_); go_big_quiet_op; refine hK _ ?_; clear hK K) | (refine wx_quietG (by rfl) (by rfl) (by rfl) (by rfl) (by rfl) (fun K hK => ?_); go_big_quiet_op; refine hK _ ?_; clear hK K) | (refine wx_skipG (by rfl) (by rfl) (by rfl) (fun K hK => ?_); go_simp; refine hK _ ?_; clear hK K) | (refine wx_skipN (by rfl) (by rfl) (by rfl) (fun K hK => ?_); go_simp; refine hK _ ?_; clear hK K))
      refine wx_loudU (us := []) (by rfl) (by rfl) (fun S wS hC hS hU => runs_enter (f := 109) (by go_simp <;> rfl) ?_) (fun v hv K hK => ?_)
      · refine (speaks_any ⟨id, ad, pr, dr, bd⟩ wS).mono ?_
        rintro e w' ⟨rfl, hb⟩
        rw [HS.out]
        exact ⟨_, rfl, rfl, Kept.of_below hb, trivial⟩
      obtain rfl := hv; (go_simp; refine hK _ ?_; clear hK K)
      repeat (first | (refine wx_quietU (by rfl) (by rfl) (by rfl) (fun K hK => ?_); go_big_quiet_op; refine hK _ ?_; clear hK K) | (refine wx_quietG (by rfl) (by rfl) (by rfl) (by rfl) (by rfl) (fun K hK => ?_); go_big_quiet_op; refine hK _ ?_; clear hK K) | (refine wx_skipG (by rfl) (by rfl) (by rfl) (fun K hK => ?_); go_simp; refine hK _ ?_; clear hK K) | (refine wx_skipN (by rfl) (by rfl) (by rfl) (fun K hK => ?_); go_simp; refine hK _ ?_; clear hK K))
      refine wx_nil fun w2 hsat => ?_
      have hb2 := sat_below hsat
      have hbw2 := hbb.trans (hb2.mono hbb.size)
      clear hsat z
      go_wp2_with fail
      go_ret
      exact ⟨ret_bool (by have := HX.out; rw [HT.out]; first | (simp [this]; done) | (simp only [this, decide_true, decide_false, bne_self_eq_false, Bool.false_or]; rfl) | (simp [this, beq_dec])), hbw2⟩
    · have qx : (x == ad) = false := by simp [hx]
      have HX := hid hx
      clear hx
      go_enter Try.func102, Try.ntmps102
      go_wp2_with fail
      change Code.wp _ _ _ _ (w.alloc (.cells (vC ⟨id, ad, pr, dr, bd⟩) 50))
      generalize w.alloc (.cells (vC ⟨id, ad, pr, dr, bd⟩) 50) = w1 at *
      have z := fun (z : WK (fun _ => False) w1) i => (wat_cell (p := ⟨w.heap.size, i, none⟩) (Array.getElem?_eq_some_iff.1 hh).1 (by simp) z).trans ((blk_cells hh).1 i)
      refine wp_region_loud (fun _ => False) [(5, plainL [] (.bool false))] (fun _ => Fact.none) (by kernel_rfl) (by kernel_rfl) (.cons (plainL_ok _ _) .nil) good_nothing sat_none (WX.out ?_)
      repeat (first | (refine wx_quietU (by rfl) (by rfl) (by rfl) (fun K hK => ?_); go_big_quiet_op; refine hK _ ?_; clear hK K) | (refine wx_quietG (by rfl) (by rfl) (by rfl) (by rfl) (by rfl) (fun K hK => ?_); go_big_quiet_op; refine hK _ ?_; clear hK K) | (refine wx_skipG (by rfl) (by rfl) (by rfl) (fun K hK => ?_); go_simp; refine hK _ ?_; clear hK K) | (refine wx_skipN (by rfl) (by rfl) (by rfl) (fun K hK => ?_); go_simp; refine hK _ ?_; clear hK K))
      refine wx_loudU (us := []) (by rfl) (by rfl) (fun S wS hC hS hU => runs_enter (f := 109) (by go_simp <;> rfl) ?_) (fun v hv K hK => ?_)
      · refine (speaks_any ⟨id, ad, pr, dr, bd⟩ wS).mono ?_
        rintro e w' ⟨rfl, hb⟩
        rw [HS.out]
        exact ⟨_, rfl, rfl, Kept.of_below hb, trivial⟩
      obtain rfl := hv; (go_simp; refine hK _ ?_; clear hK K)
      repeat (first | (refine wx_quietU (by rfl) (by rfl) (by rfl) (fun K hK => ?_); go_big_quiet_op; refine hK _ ?_; clear hK K) | (refine wx_quietG (by rfl) (by rfl) (by rfl) (by rfl) (by rfl) (fun K hK => ?_); go_big_quiet_op; refine hK _ ?_; clear hK K) | (refine wx_skipG (by rfl) (by rfl) (by rfl) (fun K hK => ?_); go_simp; refine hK _ ?_; clear hK K) | (refine wx_skipN (by rfl) (by rfl) (by rfl) (fun K hK => ?_); go_simp; refine hK _ ?_; clear hK K))
      refine wx_nil fun w2 hsat => ?_
      have hb2 := sat_below hsat
      have hbw2 := hbb.trans (hb2.mono hbb.size)
      clear hsat z
      go_wp2_with fail
      go_ret
      exact ⟨ret_bool (by have := HX.out; rw [HT.out]; first | (simp [this]; done) | (simp only [this, decide_true, decide_false, bne_self_eq_false, Bool.false_or]; rfl) | (simp [this, beq_dec])), hbw2⟩
end Go.Proofs.Ytaajhkdifliblaa
