/-
  Contracts of lsdb's Find and Count; the law's keeps; the walk of LsdbLess.
-/
import Derived.Test.YtaajhkdifliblaaDb4
namespace Go.Proofs.Ytaajhkdifliblaa
set_option linter.unusedVariables false
set_option linter.unusedSimpArgs false
open Go Go.RowKit SM LM

set_option maxRecDepth 100000 in
set_option maxHeartbeats 800000 in
theorem count_any (d r clk : Nat) (es : Array MapEntry) (w : World) (h : DbIs w d r es clk) (hs : es.size ≤ 1000) :
    Calls Try.prog 85 #[.pointer (some ⟨d, 0, none⟩)] w fun e w' => e = .returned (.int .i64 es.size) ∧ w' = w := by
  have hlen := mapLen h.map hs 3
  have hcd0 := (blk_cells h.cell).1 0
  simp at hcd0
  go_enter Try.func85, Try.ntmps85
  go_wp2_with fail
  go_ret
  exact ⟨by simp, rfl⟩

set_option maxRecDepth 100000 in
set_option maxHeartbeats 3200000 in
theorem find_one (L0 : Lsa) (t i v : Int) (d r n clk : Nat) (w : World) (h : DbIs w d r #[⟨keyV t i v, oneV L0, n⟩] clk) (hwf0 : WfL L0) (hr0 : L0.right = true) :
    Calls Try.prog 56 #[.pointer (some ⟨d, 0, none⟩), keyV t i v] w fun e w' => e = .returned (.tuple #[.agg (lsaC L0 none 0 0 none 0 0), .bool true]) ∧ Below w.heap.size w w' := by
  obtain ⟨u1, u2, u3, u6, f1, f2⟩ := hdr_of L0 hwf0 hr0
  have F2 := hid f2
  clear f1 f2 hr0
  have hdl := (Array.getElem?_eq_some_iff.1 h.cell).1
  have hrl := (Array.getElem?_eq_some_iff.1 h.map).1
  have hbw := ((Below.refl w.heap.size w).alloc (Nat.le_refl _) (.cells #[.int .i64 t, .int .u32 i, .int .u32 v] 77)).alloc (by simp) (.cells (lsaC zeroL none 0 0 none 0 0) 80)
  have hK := blk_alloc (heap_alloc_new w (.cells #[.int .i64 t, .int .u32 i, .int .u32 v] 77)) (.cells (lsaC zeroL none 0 0 none 0 0) 80)
  have hR := heap_alloc_new' (w.alloc (.cells #[.int .i64 t, .int .u32 i, .int .u32 v] 77)) (.cells (lsaC zeroL none 0 0 none 0 0) 80) (w.heap.size + 1) (by simp)
  have hD := h.below hbw
  go_enter Try.func56, Try.ntmps56
  go_wp2_with fail
  change Code.wp _ _ _ _ ((w.alloc (.cells #[.int .i64 t, .int .u32 i, .int .u32 v] 77)).alloc (.cells (lsaC zeroL none 0 0 none 0 0) 80))
  generalize ((w.alloc (.cells #[.int .i64 t, .int .u32 i, .int .u32 v] 77)).alloc (.cells (lsaC zeroL none 0 0 none 0 0) 80)) = w2 at *
  have hd2 := (Array.getElem?_eq_some_iff.1 hD.cell).1
  have hr2 := (Array.getElem?_eq_some_iff.1 hD.map).1
  have hk2 := (Array.getElem?_eq_some_iff.1 hK).1
  have zd := fun (z : WK (fun _ => False) w2) => (wat_cell (p := ⟨d, 0, none⟩) hd2 (by simp) z).trans ((blk_cells hD.cell).1 0)
  have zl := fun (z : WK (fun _ => False) w2) i => (wat_cell (p := ⟨w.heap.size, i, none⟩) hk2 (by simp) z).trans ((blk_cells hK).1 i)
  have zm := fun (z : WK (fun _ => False) w2) => (fun hb => (dlook1 (a := t) (b := i) (c := v) hb).trans (by rw [F2.out])) (((wat_kept z).block r hr2 (by simp)).trans hD.map)
  simp at zd
  refine wp_region_loud (fun _ => False)
    [(9, newL 152 #[.int .i64 0, .int .i64 0, .int .u32 0, .int .u32 0, .int .i64 0, .slice none 0 0, .int .u32 0, .slice none 0 0, .int .i64 0, .int .i64 0, .int .i64 0, .int .u32 0, .int .u32 0, .int .i64 0, .int .u16 0, .int .i64 0]),
     (10, argL [9] (fun _ _ => True) (fun xs _ S w' => ∃ g, xs = [.pointer (some ⟨g, 0, none⟩), .agg (oneC L0 L0.age u1 u2 u3 L0.seq (sumOf L0) u6)] ∧ BlkF g 152 (oneC L0 L0.age u1 u2 u3 L0.seq (sumOf L0) u6) S w'))]
    (fun _ => Fact.none) (by kernel_rfl) (by kernel_rfl)
    (.cons (newL_ok _ _) (.cons (argL_ok (fun _ => ⟨undef, trivial⟩) (fun xs _ S S' w w' h1 h2 ⟨g, h0, h3⟩ => ⟨g, h0, good_blk _ _ _ S S' w w' h1 h2 h3⟩)) .nil)) good_nothing sat_none (WX.out ?_)
  repeat (first | (refine wx_quietU (by rfl) (by rfl) (by rfl) (fun K hK => ?_); go_big_quiet_op; refine hK _ ?_; clear hK K) | (refine wx_quietG (by rfl) (by rfl) (by rfl) (by rfl) (by rfl) (fun K hK => ?_); go_big_quiet_op; refine hK _ ?_; clear hK K) | (refine wx_skipG (by rfl) (by rfl) (by rfl) (fun K hK => ?_); go_simp; refine hK _ ?_; clear hK K) | (refine wx_skipN (by rfl) (by rfl) (by rfl) (fun K hK => ?_); go_simp; refine hK _ ?_; clear hK K))
  refine wx_loudU (us := []) (by rfl) (by rfl) (fun S wS hC hS hU => ?_) (fun v hv K hK => ?_)
  · exact runs_value (by go_simp <;> rfl) (newB_x rfl)
  obtain ⟨g1, rfl⟩ := hv; (go_simp; refine hK _ ?_; clear hK K)
  repeat (first | (refine wx_quietU (by rfl) (by rfl) (by rfl) (fun K hK => ?_); go_big_quiet_op; refine hK _ ?_; clear hK K) | (refine wx_quietG (by rfl) (by rfl) (by rfl) (by rfl) (by rfl) (fun K hK => ?_); go_big_quiet_op; refine hK _ ?_; clear hK K) | (refine wx_skipG (by rfl) (by rfl) (by rfl) (fun K hK => ?_); go_simp; refine hK _ ?_; clear hK K) | (refine wx_skipN (by rfl) (by rfl) (by rfl) (fun K hK => ?_); go_simp; refine hK _ ?_; clear hK K))
  refine wx_loudU (us := [9]) (by rfl) (by rfl) (fun S wS hC hS hU => ?_) (fun v hv K hK => ?_)
  · obtain ⟨g', e1, k23, k24⟩ := (hU 9 (by simp) : NewB 152 #[.int .i64 0, .int .i64 0, .int .u32 0, .int .u32 0, .int .i64 0, .slice none 0 0, .int .u32 0, .slice none 0 0, .int .i64 0, .int .i64 0, .int .i64 0, .int .u32 0, .int .u32 0, .int .i64 0, .int .u16 0, .int .i64 0] (.pointer (some ⟨g1, 0, none⟩)) S wS)
    injection e1 with e1
    injection e1 with e1
    injection e1 with e1
    subst e1
    obtain ⟨hc, hf⟩ := blk_cells k24
    have hc0 := hc 0; have hc1 := hc 1; have hc2 := hc 2; have hc3 := hc 3; have hc4 := hc 4; have hc5 := hc 5; have hc6 := hc 6; have hc7 := hc 7; have hc8 := hc 8
    have hc9 := hc 9; have hca := hc 10; have hcb := hc 11; have hcc := hc 12; have hcd := hc 13; have hce := hc 14; have hcf := hc 15
    simp at hc0 hc1 hc2 hc3 hc4 hc5 hc6 hc7 hc8 hc9 hca hcb hcc hcd hce hcf
    clear hc
    have h9 := blk_one k24 (.int .i64 L0.age) (.int .i64 L0.kty) (.int .u32 (L0.kid : Int)) (.int .u32 (L0.kadv : Int)) (.int .i64 L0.seq) (.slice none 0 0) (.int .u32 (L0.mask : Int)) (.slice none 0 0) (.int .i64 L0.cost) (.int .i64 L0.age) (.int .i64 u1) (.int .u32 u2) (.int .u32 u3) (.int .i64 L0.seq) (.int .u16 (sumOf L0)) (.int .i64 u6)
    refine runs_skip (by go_simp <;> rfl) ⟨trivial, ?_, g1, rfl, .inl k23, h9⟩
    repeat (first | with_reducible exact Kept.refl _ _ | (with_reducible refine Kept.setCell ?_ ?_ _; rotate_left; · exact Or.inl k23))
  (go_simp; refine hK _ ?_; clear hK K)
  repeat (first | (refine wx_quietU (by rfl) (by rfl) (by rfl) (fun K hK => ?_); go_big_quiet_op; refine hK _ ?_; clear hK K) | (refine wx_quietG (by rfl) (by rfl) (by rfl) (by rfl) (by rfl) (fun K hK => ?_); go_big_quiet_op; refine hK _ ?_; clear hK K) | (refine wx_skipG (by rfl) (by rfl) (by rfl) (fun K hK => ?_); go_simp; refine hK _ ?_; clear hK K) | (refine wx_skipN (by rfl) (by rfl) (by rfl) (fun K hK => ?_); go_simp; refine hK _ ?_; clear hK K))
  refine wx_nil fun w3 hsat => ?_
  have hb3 := sat_below hsat
  obtain ⟨_, own, hdis, hin, hfact⟩ := hsat
  obtain ⟨x1, e4, k4⟩ := (hfact 10 : ∃ g, [Value.pointer (some ⟨g1, 0, none⟩), .agg (oneC L0 L0.age u1 u2 u3 L0.seq (sumOf L0) u6)] = [.pointer (some ⟨g, 0, none⟩), .agg (oneC L0 L0.age u1 u2 u3 L0.seq (sumOf L0) u6)] ∧ BlkF g 152 (oneC L0 L0.age u1 u2 u3 L0.seq (sumOf L0) u6) (own 10) w3)
  obtain rfl : x1 = g1 := by
    injection e4 with e1 _
    injection e1 with e1
    injection e1 with e1
    injection e1 with e1
    exact e1.symm
  clear e4
  have hX := k4.2
  clear hdis hin hfact k4 zd zl zm
  replace hbw := hbw.trans (hb3.mono hbw.size)
  replace hR := blk_below hR hb3 (Array.getElem?_eq_some_iff.1 hR).1
  clear hb3 hd2 hr2 hk2 hD hK
  obtain ⟨hcX, _⟩ := blk_cells hX
  go_wp2_with fail
  refine (copied_nil L0 w3).mono ?_
  rintro e w4 ⟨rfl, hb4⟩
  replace hbw := hbw.trans (hb4.mono hbw.size)
  replace hR := blk_below hR hb4 (Array.getElem?_eq_some_iff.1 hR).1
  clear hcX hX hb4
  obtain ⟨_, hfR⟩ := blk_cells hR
  have hin := putL_in L0 none 0 0 none 0 0 hR
  have hbe := putL_below (g := w.heap.size + 1) L0 none 0 0 none 0 0 hbw (by omega)
  go_wp2_with fail
  refine ret_blk (v := .tuple #[.agg (lsaC L0 none 0 0 none 0 0), .bool true]) (g := w.heap.size + 1) (T := 80) (cs := lsaC L0 none 0 0 none 0 0) (fun W hW => by obtain ⟨hc, hf⟩ := blk_cells hW; simp [results, Try.results56, go_sem, hc]) hin rfl ⟨rfl, hbe⟩
set_option maxRecDepth 100000 in
set_option maxHeartbeats 3200000 in
theorem find_none (t i v : Int) (d r clk : Nat) (w : World) (h : DbIs w d r #[] clk) :
    Calls Try.prog 56 #[.pointer (some ⟨d, 0, none⟩), keyV t i v] w fun e w' => e = .returned (.tuple #[.agg (lsaC zeroL none 0 0 none 0 0), .bool false]) ∧ Below w.heap.size w w' := by
  have hdl := (Array.getElem?_eq_some_iff.1 h.cell).1
  have hrl := (Array.getElem?_eq_some_iff.1 h.map).1
  have hbw := ((Below.refl w.heap.size w).alloc (Nat.le_refl _) (.cells #[.int .i64 t, .int .u32 i, .int .u32 v] 77)).alloc (by simp) (.cells (lsaC zeroL none 0 0 none 0 0) 80)
  have hK := blk_alloc (heap_alloc_new w (.cells #[.int .i64 t, .int .u32 i, .int .u32 v] 77)) (.cells (lsaC zeroL none 0 0 none 0 0) 80)
  have hR := heap_alloc_new' (w.alloc (.cells #[.int .i64 t, .int .u32 i, .int .u32 v] 77)) (.cells (lsaC zeroL none 0 0 none 0 0) 80) (w.heap.size + 1) (by simp)
  have hD := h.below hbw
  go_enter Try.func56, Try.ntmps56
  go_wp2_with fail
  change Code.wp _ _ _ _ ((w.alloc (.cells #[.int .i64 t, .int .u32 i, .int .u32 v] 77)).alloc (.cells (lsaC zeroL none 0 0 none 0 0) 80))
  generalize ((w.alloc (.cells #[.int .i64 t, .int .u32 i, .int .u32 v] 77)).alloc (.cells (lsaC zeroL none 0 0 none 0 0) 80)) = w2 at *
  have hd2 := (Array.getElem?_eq_some_iff.1 hD.cell).1
  have hr2 := (Array.getElem?_eq_some_iff.1 hD.map).1
  have hk2 := (Array.getElem?_eq_some_iff.1 hK).1
  have zd := fun (z : WK (fun _ => False) w2) => (wat_cell (p := ⟨d, 0, none⟩) hd2 (by simp) z).trans ((blk_cells hD.cell).1 0)
  have zl := fun (z : WK (fun _ => False) w2) i => (wat_cell (p := ⟨w.heap.size, i, none⟩) hk2 (by simp) z).trans ((blk_cells hK).1 i)
  have zm := fun (z : WK (fun _ => False) w2) => (fun hb => dlook0 hb t i v) (((wat_kept z).block r hr2 (by simp)).trans hD.map)
  simp at zd
  refine wp_region_loud (fun _ => False)
    [(9, newL 152 #[.int .i64 0, .int .i64 0, .int .u32 0, .int .u32 0, .int .i64 0, .slice none 0 0, .int .u32 0, .slice none 0 0, .int .i64 0, .int .i64 0, .int .i64 0, .int .u32 0, .int .u32 0, .int .i64 0, .int .u16 0, .int .i64 0]),
     (10, argL [9] (fun _ _ => True) (fun xs _ S w' => ∃ g, xs = [.pointer (some ⟨g, 0, none⟩), .agg #[.int .i64 0, .int .i64 0, .int .u32 0, .int .u32 0, .int .i64 0, .slice none 0 0, .int .u32 0, .slice none 0 0, .int .i64 0, .int .i64 0, .int .i64 0, .int .u32 0, .int .u32 0, .int .i64 0, .int .u16 0, .int .i64 0]] ∧ BlkF g 152 #[.int .i64 0, .int .i64 0, .int .u32 0, .int .u32 0, .int .i64 0, .slice none 0 0, .int .u32 0, .slice none 0 0, .int .i64 0, .int .i64 0, .int .i64 0, .int .u32 0, .int .u32 0, .int .i64 0, .int .u16 0, .int .i64 0] S w'))]
    (fun _ => Fact.none) (by kernel_rfl) (by kernel_rfl)
    (.cons (newL_ok _ _) (.cons (argL_ok (fun _ => ⟨undef, trivial⟩) (fun xs _ S S' w w' h1 h2 ⟨g, h0, h3⟩ => ⟨g, h0, good_blk _ _ _ S S' w w' h1 h2 h3⟩)) .nil)) good_nothing sat_none (WX.out ?_)
  repeat (first | (refine wx_quietU (by rfl) (by rfl) (by rfl) (fun K hK => ?_); go_big_quiet_op; refine hK _ ?_; clear hK K) | (refine wx_quietG (by rfl) (by rfl) (by rfl) (by rfl) (by rfl) (fun K hK => ?_); go_big_quiet_op; refine hK _ ?_; clear hK K) | (refine wx_skipG (by rfl) (by rfl) (by rfl) (fun K hK => ?_); go_simp; refine hK _ ?_; clear hK K) | (refine wx_skipN (by rfl) (by rfl) (by rfl) (fun K hK => ?_); go_simp; refine hK _ ?_; clear hK K))
  refine wx_loudU (us := []) (by rfl) (by rfl) (fun S wS hC hS hU => ?_) (fun v hv K hK => ?_)
  · exact runs_value (by go_simp <;> rfl) (newB_x rfl)
  obtain ⟨g1, rfl⟩ := hv; (go_simp; refine hK _ ?_; clear hK K)
  repeat (first | (refine wx_quietU (by rfl) (by rfl) (by rfl) (fun K hK => ?_); go_big_quiet_op; refine hK _ ?_; clear hK K) | (refine wx_quietG (by rfl) (by rfl) (by rfl) (by rfl) (by rfl) (fun K hK => ?_); go_big_quiet_op; refine hK _ ?_; clear hK K) | (refine wx_skipG (by rfl) (by rfl) (by rfl) (fun K hK => ?_); go_simp; refine hK _ ?_; clear hK K) | (refine wx_skipN (by rfl) (by rfl) (by rfl) (fun K hK => ?_); go_simp; refine hK _ ?_; clear hK K))
  refine wx_loudU (us := [9]) (by rfl) (by rfl) (fun S wS hC hS hU => ?_) (fun v hv K hK => ?_)
  · obtain ⟨g', e1, k23, k24⟩ := (hU 9 (by simp) : NewB 152 #[.int .i64 0, .int .i64 0, .int .u32 0, .int .u32 0, .int .i64 0, .slice none 0 0, .int .u32 0, .slice none 0 0, .int .i64 0, .int .i64 0, .int .i64 0, .int .u32 0, .int .u32 0, .int .i64 0, .int .u16 0, .int .i64 0] (.pointer (some ⟨g1, 0, none⟩)) S wS)
    injection e1 with e1
    injection e1 with e1
    injection e1 with e1
    subst e1
    obtain ⟨hc, hf⟩ := blk_cells k24
    have hc0 := hc 0; have hc1 := hc 1; have hc2 := hc 2; have hc3 := hc 3; have hc4 := hc 4; have hc5 := hc 5; have hc6 := hc 6; have hc7 := hc 7; have hc8 := hc 8
    have hc9 := hc 9; have hca := hc 10; have hcb := hc 11; have hcc := hc 12; have hcd := hc 13; have hce := hc 14; have hcf := hc 15
    simp at hc0 hc1 hc2 hc3 hc4 hc5 hc6 hc7 hc8 hc9 hca hcb hcc hcd hce hcf
    clear hc
    have h9 := blk_one k24 (.int .i64 0) (.int .i64 0) (.int .u32 0) (.int .u32 0) (.int .i64 0) (.slice none 0 0) (.int .u32 0) (.slice none 0 0) (.int .i64 0) (.int .i64 0) (.int .i64 0) (.int .u32 0) (.int .u32 0) (.int .i64 0) (.int .u16 0) (.int .i64 0)
    refine runs_skip (by go_simp <;> rfl) ⟨trivial, ?_, g1, rfl, .inl k23, h9⟩
    repeat (first | with_reducible exact Kept.refl _ _ | (with_reducible refine Kept.setCell ?_ ?_ _; rotate_left; · exact Or.inl k23))
  (go_simp; refine hK _ ?_; clear hK K)
  repeat (first | (refine wx_quietU (by rfl) (by rfl) (by rfl) (fun K hK => ?_); go_big_quiet_op; refine hK _ ?_; clear hK K) | (refine wx_quietG (by rfl) (by rfl) (by rfl) (by rfl) (by rfl) (fun K hK => ?_); go_big_quiet_op; refine hK _ ?_; clear hK K) | (refine wx_skipG (by rfl) (by rfl) (by rfl) (fun K hK => ?_); go_simp; refine hK _ ?_; clear hK K) | (refine wx_skipN (by rfl) (by rfl) (by rfl) (fun K hK => ?_); go_simp; refine hK _ ?_; clear hK K))
  refine wx_nil fun w3 hsat => ?_
  have hb3 := sat_below hsat
  obtain ⟨_, own, hdis, hin, hfact⟩ := hsat
  obtain ⟨x1, e4, k4⟩ := (hfact 10 : ∃ g, [Value.pointer (some ⟨g1, 0, none⟩), .agg #[.int .i64 0, .int .i64 0, .int .u32 0, .int .u32 0, .int .i64 0, .slice none 0 0, .int .u32 0, .slice none 0 0, .int .i64 0, .int .i64 0, .int .i64 0, .int .u32 0, .int .u32 0, .int .i64 0, .int .u16 0, .int .i64 0]] = [.pointer (some ⟨g, 0, none⟩), .agg #[.int .i64 0, .int .i64 0, .int .u32 0, .int .u32 0, .int .i64 0, .slice none 0 0, .int .u32 0, .slice none 0 0, .int .i64 0, .int .i64 0, .int .i64 0, .int .u32 0, .int .u32 0, .int .i64 0, .int .u16 0, .int .i64 0]] ∧ BlkF g 152 #[.int .i64 0, .int .i64 0, .int .u32 0, .int .u32 0, .int .i64 0, .slice none 0 0, .int .u32 0, .slice none 0 0, .int .i64 0, .int .i64 0, .int .i64 0, .int .u32 0, .int .u32 0, .int .i64 0, .int .u16 0, .int .i64 0] (own 10) w3)
  obtain rfl : x1 = g1 := by
    injection e4 with e1 _
    injection e1 with e1
    injection e1 with e1
    injection e1 with e1
    exact e1.symm
  clear e4
  have hX := k4.2
  clear hdis hin hfact k4 zd zl zm
  replace hbw := hbw.trans (hb3.mono hbw.size)
  replace hR := blk_below hR hb3 (Array.getElem?_eq_some_iff.1 hR).1
  clear hb3 hd2 hr2 hk2 hD hK
  obtain ⟨hcX, _⟩ := blk_cells hX
  go_wp2_with fail
  refine (copied_nil zeroL w3).mono ?_
  rintro e w4 ⟨rfl, hb4⟩
  replace hbw := hbw.trans (hb4.mono hbw.size)
  replace hR := blk_below hR hb4 (Array.getElem?_eq_some_iff.1 hR).1
  clear hcX hX hb4
  obtain ⟨_, hfR⟩ := blk_cells hR
  have hin := putL_in zeroL none 0 0 none 0 0 hR
  have hbe := putL_below (g := w.heap.size + 1) zeroL none 0 0 none 0 0 hbw (by omega)
  go_wp2_with fail
  refine ret_blk (v := .tuple #[.agg (lsaC zeroL none 0 0 none 0 0), .bool false]) (g := w.heap.size + 1) (T := 80) (cs := lsaC zeroL none 0 0 none 0 0) (fun W hW => by obtain ⟨hc, hf⟩ := blk_cells hW; simp [results, Try.results56, go_sem, hc]) hin rfl ⟨rfl, hbe⟩
theorem newer_self (L : Lsa) (hr : L.right = true) : newer L L = false := by
  have h := (right_spec L hr).1
  unfold newer
  rw [decide_eq_false_iff_not]
  intro e
  have := (cmpH_same L.age L.age L.seq (sumOf L) (by omega) (by omega)).1 e
  omega
end Go.Proofs.Ytaajhkdifliblaa
