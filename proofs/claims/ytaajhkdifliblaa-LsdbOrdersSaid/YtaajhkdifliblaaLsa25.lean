/-
  The walk of LsaAges where the Lsa is right. (Begun: the region that copies it twice.)
-/
import Derived.Test.YtaajhkdifliblaaLsa24
import Derived.Test.YtaajhkdifliblaaRegP
import Derived.Test.YtaajhkdifliblaaLsa20
namespace Go.Proofs.Ytaajhkdifliblaa
set_option linter.unusedVariables false
set_option linter.unusedSimpArgs false
open Go Go.RowKit SM LM

theorem right_lens {L : Lsa} (hr : L.right = true) {w' : World} {B1 : Option Addr} {m1 d1 : Nat} {B2 : Option Addr} {m2 d2 : Nat} (hI : IsLsa w' L B1 m1 d1 B2 m2 d2) : m1 ≤ 100000 ∧ m2 ≤ 100000 := by
  have hrs := right_spec L hr
  have e1 := hI.links.lenN.1
  have e2 := hI.routers.lenN.1
  rw [LK_length] at e1
  rw [U32_length] at e2
  rcases hrs.2.2 with h | h | h
  · have h0 := h.2.2.2.2.1; rw [h0] at e2; simp at e2; omega
  · have h0 := h.2.1; rw [h0] at e1; simp at e1; omega
  · have h0 := h.2.1; have h9 := h.2.2.1; rw [h0] at e1; rw [h9] at e2; simp at e1 e2; omega
set_option maxRecDepth 100000 in
set_option maxHeartbeats 3200000 in
theorem lsaAges_yes (L : Lsa) (a b : Int) (A1 : Option Addr) (n1 c1 : Nat) (A2 : Option Addr) (n2 c2 : Nat) (w : World) (h : IsLsa w L A1 n1 c1 A2 n2 c2) (hwf : WfL L) (hn1 : n1 * 24 ≤ 140737488355328) (hn2 : n2 * 4 ≤ 140737488355328) (hr : L.right = true) :
    Calls Try.prog 13 #[.agg (lsaC L A1 n1 c1 A2 n2 c2), .int .i64 a, .int .i64 b] w fun e w' => e = .returned (.bool true) ∧ Below w.heap.size w w' := by
  have HR := hid hr
  clear hr
  have hbb := (Below.refl w.heap.size w).alloc (Nat.le_refl _) (.cells (lsaC L A1 n1 c1 A2 n2 c2) 75)
  have HBB := hid hbb
  have hb0 := hid (heap_alloc_new w (.cells (lsaC L A1 n1 c1 A2 n2 c2) 75))
  have h0 := h.below hbb
  have hs0 : w.heap.size + 1 ≤ (w.alloc (.cells (lsaC L A1 n1 c1 A2 n2 c2) 75)).heap.size := by simp
  clear hbb
  go_enter Try.func13, Try.ntmps13
  go_wp2_with fail
  refine (refRight_l L A1 n1 c1 A2 n2 c2 _ h0.links h0.routers).mono ?_
  rintro e w1 ⟨rfl, hb1⟩
  rw [HR.out]
  have hblk := blk_below hb0.out hb1 (by omega)
  have hbw := HBB.out.trans (hb1.mono (by omega))
  have hws := hbw.size
  clear h0 hb1 hs0 hb0 HBB
  go_wp2_with fail
  obtain ⟨hc, hf⟩ := blk_cells hblk
  have hcx : ∀ (z : WK (fun _ => False) w1) i, (wat z).cell? ⟨w.heap.size, i, none⟩ = _ := fun z i => (wat_cell (p := ⟨w.heap.size, i, none⟩) (Array.getElem?_eq_some_iff.1 hblk).1 (by simp) z).trans (hc i)
  have hx0 := fun z => hcx z 0
  have hx1 := fun z => hcx z 1
  have hx2 := fun z => hcx z 2
  have hx3 := fun z => hcx z 3
  have hx4 := fun z => hcx z 4
  have hx5 := fun z => hcx z 5
  have hx6 := fun z => hcx z 6
  have hx7 := fun z => hcx z 7
  have hx8 := fun z => hcx z 8
  simp at hx0 hx1 hx2 hx3 hx4 hx5 hx6 hx7 hx8
  clear hcx hc hf
  refine wp_region_loud (fun _ => False)
    [(2, newL 75 (lsaC zeroL none 0 0 none 0 0)), (3, newL 75 (lsaC zeroL none 0 0 none 0 0)), (4, argL [2] (fun _ _ => True) (fun xs _ S w' => ∃ g, xs = [.pointer (some ⟨g, 0, none⟩), .agg (lsaC L A1 n1 c1 A2 n2 c2)] ∧ BlkF g 75 (lsaC L A1 n1 c1 A2 n2 c2) S w')), (5, argL [3] (fun _ _ => True) (fun xs _ S w' => ∃ g, xs = [.pointer (some ⟨g, 0, none⟩), .agg (lsaC L A1 n1 c1 A2 n2 c2)] ∧ BlkF g 75 (lsaC L A1 n1 c1 A2 n2 c2) S w'))]
    (fun _ => Fact.none) (by kernel_rfl) (by kernel_rfl)
    (.cons (newL_ok _ _) (.cons (newL_ok _ _) (.cons (argL_ok (fun _ => ⟨undef, trivial⟩) (fun xs _ S S' w w' h1 h2 ⟨g, h0, h3⟩ => ⟨g, h0, good_blk _ _ _ S S' w w' h1 h2 h3⟩)) (.cons (argL_ok (fun _ => ⟨undef, trivial⟩) (fun xs _ S S' w w' h1 h2 ⟨g, h0, h3⟩ => ⟨g, h0, good_blk _ _ _ S S' w w' h1 h2 h3⟩)) .nil))))
    good_nothing sat_none ?_
  repeat (refine wpX_quiet (by rfl) (by rfl) (by rfl) (fun K hK => ?_); go_big_quiet_op; refine hK _ ?_; clear hK K)
  refine wpX_loud (us := []) (by rfl) (by rfl) (fun S wS hC hS hU => ?_) (fun v hv K hK => ?_)
  · exact runs_value (by go_simp <;> rfl) (newB_x rfl)
  obtain ⟨g1, rfl⟩ := hv; (go_simp; refine hK _ ?_; clear hK K)
  repeat (refine wpX_quiet (by rfl) (by rfl) (by rfl) (fun K hK => ?_); go_big_quiet_op; refine hK _ ?_; clear hK K)
  refine wpX_loud (us := []) (by rfl) (by rfl) (fun S wS hC hS hU => ?_) (fun v hv K hK => ?_)
  · exact runs_value (by go_simp <;> rfl) (newB_x rfl)
  obtain ⟨g2, rfl⟩ := hv; (go_simp; refine hK _ ?_; clear hK K)
  repeat (refine wpX_quiet (by rfl) (by rfl) (by rfl) (fun K hK => ?_); go_big_quiet_op; refine hK _ ?_; clear hK K)
  refine wpX_loud (us := [2]) (by rfl) (by rfl) (fun S wS hC hS hU => ?_) (fun v hv K hK => ?_)
  · obtain ⟨g', e1, k23, k24⟩ := (hU 2 (by simp) : NewB 75 (lsaC zeroL none 0 0 none 0 0) (.pointer (some ⟨g1, 0, none⟩)) S wS)
    injection e1 with e1
    injection e1 with e1
    injection e1 with e1
    subst e1
    obtain ⟨hc, hf⟩ := blk_cells k24
    have hc0 := hc 0; have hc1 := hc 1; have hc2 := hc 2; have hc3 := hc 3; have hc4 := hc 4; have hc5 := hc 5; have hc6 := hc 6; have hc7 := hc 7; have hc8 := hc 8
    simp [zeroL] at hc0 hc1 hc2 hc3 hc4 hc5 hc6 hc7 hc8
    clear hc
    have h9 := blk_set (blk_set (blk_set (blk_set (blk_set (blk_set (blk_set (blk_set (blk_set k24 0 (.int .i64 L.age)) 1 (.int .i64 L.kty)) 2 (.int .u32 (L.kid : Int))) 3 (.int .u32 (L.kadv : Int))) 4 (.int .i64 L.seq)) 5 (.slice A1 n1 c1)) 6 (.int .u32 (L.mask : Int))) 7 (.slice A2 n2 c2)) 8 (.int .i64 L.cost)
    simp at h9
    refine runs_skip (by go_simp <;> rfl) ⟨trivial, ?_, g1, rfl, .inl k23, h9⟩
    repeat (first | with_reducible exact Kept.refl _ _ | (with_reducible refine Kept.setCell ?_ ?_ _; rotate_left; · exact Or.inl k23))
  (go_simp; refine hK _ ?_; clear hK K)
  repeat (refine wpX_quiet (by rfl) (by rfl) (by rfl) (fun K hK => ?_); go_big_quiet_op; refine hK _ ?_; clear hK K)
  refine wpX_loud (us := [3]) (by rfl) (by rfl) (fun S wS hC hS hU => ?_) (fun v hv K hK => ?_)
  · obtain ⟨g', e1, k23, k24⟩ := (hU 3 (by simp) : NewB 75 (lsaC zeroL none 0 0 none 0 0) (.pointer (some ⟨g2, 0, none⟩)) S wS)
    injection e1 with e1
    injection e1 with e1
    injection e1 with e1
    subst e1
    obtain ⟨hc, hf⟩ := blk_cells k24
    have hc0 := hc 0; have hc1 := hc 1; have hc2 := hc 2; have hc3 := hc 3; have hc4 := hc 4; have hc5 := hc 5; have hc6 := hc 6; have hc7 := hc 7; have hc8 := hc 8
    simp [zeroL] at hc0 hc1 hc2 hc3 hc4 hc5 hc6 hc7 hc8
    clear hc
    have h9 := blk_set (blk_set (blk_set (blk_set (blk_set (blk_set (blk_set (blk_set (blk_set k24 0 (.int .i64 L.age)) 1 (.int .i64 L.kty)) 2 (.int .u32 (L.kid : Int))) 3 (.int .u32 (L.kadv : Int))) 4 (.int .i64 L.seq)) 5 (.slice A1 n1 c1)) 6 (.int .u32 (L.mask : Int))) 7 (.slice A2 n2 c2)) 8 (.int .i64 L.cost)
    simp at h9
    refine runs_skip (by go_simp <;> rfl) ⟨trivial, ?_, g2, rfl, .inl k23, h9⟩
    repeat (first | with_reducible exact Kept.refl _ _ | (with_reducible refine Kept.setCell ?_ ?_ _; rotate_left; · exact Or.inl k23))
  (go_simp; refine hK _ ?_; clear hK K)
  repeat (refine wpX_quiet (by rfl) (by rfl) (by rfl) (fun K hK => ?_); go_big_quiet_op; refine hK _ ?_; clear hK K)
  refine wpX_nil fun w2 hsat => ?_
  have hb2 := sat_below hsat
  obtain ⟨_, own, hdis, hin, hfact⟩ := hsat
  obtain ⟨x1, e4, k4⟩ := (hfact 4 : ∃ g, [Value.pointer (some ⟨g1, 0, none⟩), .agg (lsaC L A1 n1 c1 A2 n2 c2)] = [.pointer (some ⟨g, 0, none⟩), .agg (lsaC L A1 n1 c1 A2 n2 c2)] ∧ BlkF g 75 (lsaC L A1 n1 c1 A2 n2 c2) (own 4) w2)
  obtain rfl : x1 = g1 := by
    injection e4 with e1 _
    injection e1 with e1
    injection e1 with e1
    injection e1 with e1
    exact e1.symm
  clear e4
  obtain ⟨x2, e5, k5⟩ := (hfact 5 : ∃ g, [Value.pointer (some ⟨g2, 0, none⟩), .agg (lsaC L A1 n1 c1 A2 n2 c2)] = [.pointer (some ⟨g, 0, none⟩), .agg (lsaC L A1 n1 c1 A2 n2 c2)] ∧ BlkF g 75 (lsaC L A1 n1 c1 A2 n2 c2) (own 5) w2)
  obtain rfl : x2 = g2 := by
    injection e5 with e1 _
    injection e1 with e1
    injection e1 with e1
    injection e1 with e1
    exact e1.symm
  clear e5
  have hne : x1 ≠ x2 := fun e => by
    subst e
    have := hdis 4 5 _ k4.1 k5.1
    omega
  have hge1 : w1.heap.size ≤ x1 := ((hin 4 _ k4.1).1).resolve_left (fun h => h)
  have hge2 : w1.heap.size ≤ x2 := ((hin 5 _ k5.1).1).resolve_left (fun h => h)
  have hB1 := k4.2
  have hB2 := k5.2
  replace hblk := blk_below hblk hb2 (Array.getElem?_eq_some_iff.1 hblk).1
  have hlt := (Array.getElem?_eq_some_iff.1 hblk).1
  replace hbw := hbw.trans (hb2.mono hbw.size)
  clear hfact hin hdis k4 k5 hx0 hx1 hx2 hx3 hx4 hx5 hx6 hx7 hx8 own hb2
  obtain ⟨_, f1⟩ := blk_cells hB1
  obtain ⟨_, f2⟩ := blk_cells hB2
  have rk : ∀ x : Int, 0 ≤ wrap64 ((IntKind.u64.wrap x).tmod 3601) ∧ wrap64 ((IntKind.u64.wrap x).tmod 3601) ≤ 3600 := fun x => by
    rw [IntKind.wrap_u64, Int.tmod_eq_emod_of_nonneg (by omega)]
    unfold wrap64
    omega
  go_wp2_with fail
  have ra := rk a
  have rb := rk b
  clear rk
  generalize wrap64 ((IntKind.u64.wrap a).tmod 3601) = ka at *
  generalize wrap64 ((IntKind.u64.wrap b).tmod 3601) = kb at *
  have hK : Kept (fun y => y = x1 ∨ y = x2) w2 ((w2.setCell ⟨x1, 0, none⟩ (.int .i64 ka)).setCell ⟨x2, 0, none⟩ (.int .i64 kb)) := ((Kept.refl (fun y => y = x1 ∨ y = x2) w2).setCell (p := ⟨x1, 0, none⟩) (.inl (.inl rfl)) (.int .i64 ka)).setCell (p := ⟨x2, 0, none⟩) (.inl (.inr rfl)) (.int .i64 kb)
  have hC1 : ((w2.setCell ⟨x1, 0, none⟩ (.int .i64 ka)).setCell ⟨x2, 0, none⟩ (.int .i64 kb)).heap[x1]? = some (.cells (lsaC (aged L ka) A1 n1 c1 A2 n2 c2) 75 (0, 0)) := by
    have := set_far (blk_set hB1 0 (.int .i64 ka)) (p := ⟨x2, 0, none⟩) hne (.int .i64 kb)
    simp at this
    exact this
  have hC2 : ((w2.setCell ⟨x1, 0, none⟩ (.int .i64 ka)).setCell ⟨x2, 0, none⟩ (.int .i64 kb)).heap[x2]? = some (.cells (lsaC (aged L kb) A1 n1 c1 A2 n2 c2) 75 (0, 0)) := by
    have := blk_set (set_far hB2 (p := ⟨x1, 0, none⟩) (Ne.symm hne) (.int .i64 ka)) 0 (.int .i64 kb)
    simp at this
    exact this
  replace hbw := hbw.trans (hK.below_of (B := w.heap.size) (by omega) (fun y hy => by omega))
  clear hB1 hB2 hK f1 f2 hblk
  generalize ((w2.setCell ⟨x1, 0, none⟩ (.int .i64 ka)).setCell ⟨x2, 0, none⟩ (.int .i64 kb)) = w3 at *
  have h3 := h.below hbw
  refine (to1 (aged L ka) A1 n1 c1 A2 n2 c2 w3 (aged_is h3 ka) hn1 hn2).mono ?_
  rintro e w4 ⟨B1, m1, d1, B2, m2, d2, rfl, hI1, hb4, _⟩
  replace hC1 := blk_below hC1 hb4 (Array.getElem?_eq_some_iff.1 hC1).1
  replace hC2 := blk_below hC2 hb4 (Array.getElem?_eq_some_iff.1 hC2).1
  replace hbw := hbw.trans (hb4.mono hbw.size)
  clear hb4 h3
  have RA := hid (aged_right L ka HR.out ra)
  have RB := hid (aged_right L kb HR.out rb)
  obtain ⟨hm1, hm2⟩ := right_lens RA.out hI1
  go_wp2_with fail
  refine (put_yes (aged L ka) B1 m1 d1 B2 m2 d2 w4 hI1 (aged_wf hwf ka) RA.out hm1 hm2).mono ?_
  rintro e w5 ⟨P, cp, np, rfl, hownP, hb5⟩
  replace hC1 := blk_below hC1 hb5 (Array.getElem?_eq_some_iff.1 hC1).1
  replace hC2 := blk_below hC2 hb5 (Array.getElem?_eq_some_iff.1 hC2).1
  replace hbw := hbw.trans (hb5.mono hbw.size)
  have hP := own_sl hownP
  clear hb5 hI1 hm1 hm2 hownP
  obtain ⟨hc2, _⟩ := blk_cells hC2
  go_wp2_with fail
  have h5 := h.below hbw
  refine (to1 (aged L kb) A1 n1 c1 A2 n2 c2 w5 (aged_is h5 kb) hn1 hn2).mono ?_
  rintro e w6 ⟨D1, o1, f1, D2, o2, f2, rfl, hI2, hb6, _⟩
  replace hC1 := blk_below hC1 hb6 (Array.getElem?_eq_some_iff.1 hC1).1
  replace hC2 := blk_below hC2 hb6 (Array.getElem?_eq_some_iff.1 hC2).1
  replace hP := hP.below hb6
  replace hbw := hbw.trans (hb6.mono hbw.size)
  obtain ⟨ho1, ho2⟩ := right_lens RB.out hI2
  clear hb6 h5 hc2
  go_wp2_with fail
  refine (put_yes (aged L kb) D1 o1 f1 D2 o2 f2 w6 hI2 (aged_wf hwf kb) RB.out ho1 ho2).mono ?_
  rintro e w7 ⟨Q, cq, nq, rfl, hownQ, hb7⟩
  replace hC1 := blk_below hC1 hb7 (Array.getElem?_eq_some_iff.1 hC1).1
  replace hC2 := blk_below hC2 hb7 (Array.getElem?_eq_some_iff.1 hC2).1
  replace hP := hP.below hb7
  replace hbw := hbw.trans (hb7.mono hbw.size)
  have hQ := own_sl hownQ
  clear hb7 hI2 ho1 ho2 hownQ
  have lP := hP.len
  have lQ := hQ.len
  have t1 := tellB_length (aged L ka) RA.out
  have t2 := putB_length (aged L ka)
  have t3 := tellB_length (aged L kb) RB.out
  have t4 := putB_length (aged L kb)
  have hn20 : 20 ≤ np := by omega
  have hq20 : 20 ≤ nq := by omega
  have hcp := lP.2.1
  have hcq := lQ.2.1
  clear t1 t2 t3 t4 lP lQ
  obtain ⟨bP, oP, rfl, hlP, _⟩ := hP.byte (k := 0) (by omega)
  obtain ⟨bQ, oQ, rfl, hlQ, _⟩ := hQ.byte (k := 0) (by omega)
  have dP := sl_drop hP 2 (by omega)
  have dQ := sl_drop hQ 2 (by omega)
  rw [if_neg (by omega)] at dP dQ
  simp only [Option.map_some, addr_add] at dP dQ
  rw [aged_put2 L ka kb] at dP
  have HP := hid hP
  have HQ := hid hQ
  clear hP hQ
  have qs : ((S8 ((putB (aged L kb)).drop 2)).toList == (S8 ((putB (aged L kb)).drop 2)).toList) = true := by simp
  go_wp2_with fail
  refine wp_region_loud (fun _ => False)
    [(0, plainL [] (.bool true)), (13, plainL [] (.string (S8 ((putB (aged L kb)).drop 2)))), (16, plainL [] (.string (S8 ((putB (aged L kb)).drop 2))))]
    (fun _ => Fact.none) (by kernel_rfl) (by kernel_rfl) (.cons (plainL_ok _ _) (.cons (plainL_ok _ _) (.cons (plainL_ok _ _) .nil))) good_nothing sat_none (WX.out ?_)
  repeat (first | (refine wx_quietU (by rfl) (by rfl) (by rfl) (fun K hK => ?_); go_big_quiet_op; refine hK _ ?_; clear hK K) | (refine wx_quietG (by rfl) (by rfl) (by rfl) (by rfl) (by rfl) (fun K hK => ?_); go_big_quiet_op; refine hK _ ?_; clear hK K) | (refine wx_skipG (by rfl) (by rfl) (by rfl) (fun K hK => ?_); go_simp; refine hK _ ?_; clear hK K) | (refine wx_skipN (by rfl) (by rfl) (by rfl) (fun K hK => ?_); go_simp; refine hK _ ?_; clear hK K))
  refine wx_loudU (us := []) (by rfl) (by rfl) (fun S wS hC hS hU => runs_enter (f := 43) (by go_simp <;> rfl) ?_) (fun v hv K hK => ?_)
  · refine (puts_any wS).mono ?_
    rintro e w' ⟨rfl, hb⟩
    exact ⟨_, rfl, rfl, Kept.of_below hb, trivial⟩
  obtain rfl := hv; (go_simp; refine hK _ ?_; clear hK K)
  repeat (first | (refine wx_quietU (by rfl) (by rfl) (by rfl) (fun K hK => ?_); go_big_quiet_op; refine hK _ ?_; clear hK K) | (refine wx_quietG (by rfl) (by rfl) (by rfl) (by rfl) (by rfl) (fun K hK => ?_); go_big_quiet_op; refine hK _ ?_; clear hK K) | (refine wx_skipG (by rfl) (by rfl) (by rfl) (fun K hK => ?_); go_simp; refine hK _ ?_; clear hK K) | (refine wx_skipN (by rfl) (by rfl) (by rfl) (fun K hK => ?_); go_simp; refine hK _ ?_; clear hK K))
  refine wx_loudG (us := []) (by rfl) (by rfl) (by rfl) (by rfl) (fun S wS hC hS hU => ?_) (fun v hv K hK => ?_)
  · have st := bstr (dP.below hC.below)
    exact runs_value (by go_simp <;> rfl) ⟨rfl, Kept.refl _ _, trivial⟩
  obtain rfl := hv; (go_simp; refine hK _ ?_; clear hK K)
  repeat (first | (refine wx_quietU (by rfl) (by rfl) (by rfl) (fun K hK => ?_); go_big_quiet_op; refine hK _ ?_; clear hK K) | (refine wx_quietG (by rfl) (by rfl) (by rfl) (by rfl) (by rfl) (fun K hK => ?_); go_big_quiet_op; refine hK _ ?_; clear hK K) | (refine wx_skipG (by rfl) (by rfl) (by rfl) (fun K hK => ?_); go_simp; refine hK _ ?_; clear hK K) | (refine wx_skipN (by rfl) (by rfl) (by rfl) (fun K hK => ?_); go_simp; refine hK _ ?_; clear hK K))
  refine wx_loudG (us := []) (by rfl) (by rfl) (by rfl) (by rfl) (fun S wS hC hS hU => ?_) (fun v hv K hK => ?_)
  · have st := bstr (dQ.below hC.below)
    exact runs_value (by go_simp <;> rfl) ⟨rfl, Kept.refl _ _, trivial⟩
  obtain rfl := hv; (go_simp; refine hK _ ?_; clear hK K)
  repeat (first | (refine wx_quietU (by rfl) (by rfl) (by rfl) (fun K hK => ?_); go_big_quiet_op; refine hK _ ?_; clear hK K) | (refine wx_quietG (by rfl) (by rfl) (by rfl) (by rfl) (by rfl) (fun K hK => ?_); go_big_quiet_op; refine hK _ ?_; clear hK K) | (refine wx_skipG (by rfl) (by rfl) (by rfl) (fun K hK => ?_); go_simp; refine hK _ ?_; clear hK K) | (refine wx_skipN (by rfl) (by rfl) (by rfl) (fun K hK => ?_); go_simp; refine hK _ ?_; clear hK K))
  refine wx_nil fun w8 hsat => ?_
  have hb8 := sat_below hsat
  replace hbw := hbw.trans (hb8.mono hbw.size)
  replace hC1 := blk_below hC1 hb8 (Array.getElem?_eq_some_iff.1 hC1).1
  replace hC2 := blk_below hC2 hb8 (Array.getElem?_eq_some_iff.1 hC2).1
  replace HP := hid (HP.out.below hb8)
  replace HQ := hid (HQ.out.below hb8)
  clear hsat dP dQ qs hb8 hlP hlQ
  go_wp2_with fail
  -- the two headers
  have pa : ((fld (putB (aged L ka)) 0 2 : Nat) : Int) = ka := put_age (aged L ka) (aged_wf hwf ka) RA.out
  have pb : ((fld (putB (aged L kb)) 0 2 : Nat) : Int) = kb := put_age (aged L kb) (aged_wf hwf kb) RB.out
  have sa : sq (putB (aged L ka)) = L.seq := put_seq (aged L ka) (aged_wf hwf ka) RA.out
  have sb : sq (putB (aged L kb)) = L.seq := put_seq (aged L kb) (aged_wf hwf kb) RB.out
  obtain ⟨sm, hsm⟩ : ∃ sm : Int, sm = ((fld (putB (aged L ka)) 16 2 : Nat) : Int) := ⟨_, rfl⟩
  have hsm2 : ((fld (putB (aged L kb)) 16 2 : Nat) : Int) = sm := by rw [hsm, aged_sum L kb ka]
  obtain ⟨y1, y2, y3, y6, E1⟩ : ∃ y1 y2 y3 y6, Hid (headC (putB (aged L ka)) = hdrCells ka y1 y2 y3 L.seq sm y6) := ⟨_, _, _, _, by show _ = _; rw [hsm]; unfold headC; rw [pa, sa]⟩
  obtain ⟨u1, u2, u3, u6, E2⟩ : ∃ y1 y2 y3 y6, Hid (headC (putB (aged L kb)) = hdrCells kb y1 y2 y3 L.seq sm y6) := ⟨_, _, _, _, by show _ = _; unfold headC; rw [pb, sb, hsm2]⟩
  clear pa pb sa sb hsm hsm2
  refine (head_yes (some ⟨bP, oP, none⟩) np cp (putB (aged L ka)) w8 HP.out hn20).mono ?_
  rintro e w9 ⟨rfl, hb9⟩
  rw [E1.out]
  replace hbw := hbw.trans (hb9.mono hbw.size)
  replace hC1 := blk_below hC1 hb9 (Array.getElem?_eq_some_iff.1 hC1).1
  replace hC2 := blk_below hC2 hb9 (Array.getElem?_eq_some_iff.1 hC2).1
  replace HQ := hid (HQ.out.below hb9)
  clear hb9 HP E1
  go_wp2_with fail
  have hb10 := (Below.refl w9.heap.size w9).alloc (Nat.le_refl _) (.cells (hdrCells ka y1 y2 y3 L.seq sm y6) 87)
  have hH1 := heap_alloc_new w9 (.cells (hdrCells ka y1 y2 y3 L.seq sm y6) 87)
  replace hbw := hbw.trans (hb10.mono hbw.size)
  replace hC1 := blk_below hC1 hb10 (Array.getElem?_eq_some_iff.1 hC1).1
  replace hC2 := blk_below hC2 hb10 (Array.getElem?_eq_some_iff.1 hC2).1
  replace HQ := hid (HQ.out.below hb10)
  clear hb10
  change Calls _ _ _ (w9.alloc (.cells (hdrCells ka y1 y2 y3 L.seq sm y6) 87)) _
  generalize w9.alloc (.cells (hdrCells ka y1 y2 y3 L.seq sm y6) 87) = w10 at *
  generalize w9.heap.size = g1 at *
  refine (head_yes (some ⟨bQ, oQ, none⟩) nq cq (putB (aged L kb)) w10 HQ.out hq20).mono ?_
  rintro e w11 ⟨rfl, hb11⟩
  rw [E2.out]
  replace hbw := hbw.trans (hb11.mono hbw.size)
  replace hC1 := blk_below hC1 hb11 (Array.getElem?_eq_some_iff.1 hC1).1
  replace hC2 := blk_below hC2 hb11 (Array.getElem?_eq_some_iff.1 hC2).1
  replace hH1 := blk_below hH1 hb11 (Array.getElem?_eq_some_iff.1 hH1).1
  clear hb11 HQ E2
  have hH2 := heap_alloc_new w11 (.cells (hdrCells kb u1 u2 u3 L.seq sm u6) 87)
  have hH1' := blk_alloc hH1 (.cells (hdrCells kb u1 u2 u3 L.seq sm u6) 87)
  obtain ⟨k1, _⟩ := blk_cells hH1'
  obtain ⟨k2, _⟩ := blk_cells hH2
  go_wp2_with fail
  have hb12 := (Below.refl w11.heap.size w11).alloc (Nat.le_refl _) (.cells (hdrCells kb u1 u2 u3 L.seq sm u6) 87)
  replace hbw := hbw.trans (hb12.mono hbw.size)
  replace hC1 := blk_below hC1 hb12 (Array.getElem?_eq_some_iff.1 hC1).1
  replace hC2 := blk_below hC2 hb12 (Array.getElem?_eq_some_iff.1 hC2).1
  clear hb12 k1 k2 hH1 hH1' hH2
  refine (lsaCompare_any _ _ _ _ _ _ _ _ _ _ _ _ _ _ _).mono ?_
  rintro e w12 ⟨rfl, hb12⟩
  replace hbw := hbw.trans (hb12.mono hbw.size)
  replace hC1 := blk_below hC1 hb12 (Array.getElem?_eq_some_iff.1 hC1).1
  replace hC2 := blk_below hC2 hb12 (Array.getElem?_eq_some_iff.1 hC2).1
  clear hb12
  have hcmp := hid (cmpH_same ka kb L.seq sm ra rb)
  generalize cmpH ka L.seq sm kb L.seq sm = N at *
  go_wp2_with fail
  have h12 := h.below hbw
  have z1 := fun (z : WK (fun _ => False) w12) i => (wat_cell (p := ⟨x1, i, none⟩) (Array.getElem?_eq_some_iff.1 hC1).1 (by simp) z).trans ((blk_cells hC1).1 i)
  have z2 := fun (z : WK (fun _ => False) w12) i => (wat_cell (p := ⟨x2, i, none⟩) (Array.getElem?_eq_some_iff.1 hC2).1 (by simp) z).trans ((blk_cells hC2).1 i)
  have hta : Hid (decide (tells (aged L ka) (aged L kb)) = true) := by show _ = _; rw [decide_eq_true_iff]; exact aged_tells L ka kb
  obtain ⟨ra0, ra1⟩ := ra
  obtain ⟨rb0, rb1⟩ := rb
  have hw : wrap64 (kb - ka) = kb - ka := by unfold wrap64; omega
  have ea : (aged L ka).age = ka := rfl
  have eb : (aged L kb).age = kb := rfl
  by_cases ha : ka = 3600
  · have qa : (ka == 3600) = true := by simp [ha]
    by_cases hb : kb = 3600
    · have qb : (kb == 3600) = true := by simp [hb]
      have qc : (kb != 3600) = false := by simp [hb]
      have qn : (N == 1) = false := by rw [beq_eq_false_iff_ne]; intro e; have := hcmp.out.1 e; omega
      clear ha hb
      refine wp_region_loud (fun _ => False)
        [(8, lsaL [] (aged L ka)), (10, lsaL [] (aged L kb)), (11, plainL [8, 10] (.bool true))]
        (fun _ => Fact.none) (by kernel_rfl) (by kernel_rfl)
        (.cons (lsaL_ok _ _) (.cons (lsaL_ok _ _) (.cons (plainL_ok _ _) .nil))) good_nothing sat_none (WX.out ?_)
      repeat (first | (refine wx_quietU (by rfl) (by rfl) (by rfl) (fun K hK => ?_); go_big_quiet_op; refine hK _ ?_; clear hK K) | (refine wx_quietG (by rfl) (by rfl) (by rfl) (by rfl) (by rfl) (fun K hK => ?_); go_big_quiet_op; refine hK _ ?_; clear hK K) | (refine wx_skipG (by rfl) (by rfl) (by rfl) (fun K hK => ?_); go_simp; refine hK _ ?_; clear hK K) | (refine wx_skipN (by rfl) (by rfl) (by rfl) (fun K hK => ?_); go_simp; refine hK _ ?_; clear hK K))
      refine wx_loudG (us := []) (by rfl) (by rfl) (by rfl) (by rfl) (fun S wS hC hS hU => runs_enter (f := 41) (by go_simp <;> rfl) ?_) (fun v hv K hK => ?_)
      · refine (to1 (aged L ka) A1 n1 c1 A2 n2 c2 wS (aged_is (h12.below hC.below) ka) hn1 hn2).mono ?_
        rintro e w' ⟨_, _, _, _, _, _, rfl, hI, hb, hfA, hfB⟩
        exact ⟨_, rfl, ⟨_, _, _, _, _, _, rfl⟩, Kept.of_below hb, lsaF_of hI hfA hfB⟩
      obtain ⟨P1, p1, q1, P2, p2, q2, rfl⟩ := hv; (go_simp; refine hK _ ?_; clear hK K)
      repeat (first | (refine wx_quietU (by rfl) (by rfl) (by rfl) (fun K hK => ?_); go_big_quiet_op; refine hK _ ?_; clear hK K) | (refine wx_quietG (by rfl) (by rfl) (by rfl) (by rfl) (by rfl) (fun K hK => ?_); go_big_quiet_op; refine hK _ ?_; clear hK K) | (refine wx_skipG (by rfl) (by rfl) (by rfl) (fun K hK => ?_); go_simp; refine hK _ ?_; clear hK K) | (refine wx_skipN (by rfl) (by rfl) (by rfl) (fun K hK => ?_); go_simp; refine hK _ ?_; clear hK K))
      refine wx_loudG (us := []) (by rfl) (by rfl) (by rfl) (by rfl) (fun S wS hC hS hU => runs_enter (f := 41) (by go_simp <;> rfl) ?_) (fun v hv K hK => ?_)
      · refine (to1 (aged L kb) A1 n1 c1 A2 n2 c2 wS (aged_is (h12.below hC.below) kb) hn1 hn2).mono ?_
        rintro e w' ⟨_, _, _, _, _, _, rfl, hI, hb, hfA, hfB⟩
        exact ⟨_, rfl, ⟨_, _, _, _, _, _, rfl⟩, Kept.of_below hb, lsaF_of hI hfA hfB⟩
      obtain ⟨R1, r1, s1, R2, r2, s2, rfl⟩ := hv; (go_simp; refine hK _ ?_; clear hK K)
      repeat (first | (refine wx_quietU (by rfl) (by rfl) (by rfl) (fun K hK => ?_); go_big_quiet_op; refine hK _ ?_; clear hK K) | (refine wx_quietG (by rfl) (by rfl) (by rfl) (by rfl) (by rfl) (fun K hK => ?_); go_big_quiet_op; refine hK _ ?_; clear hK K) | (refine wx_skipG (by rfl) (by rfl) (by rfl) (fun K hK => ?_); go_simp; refine hK _ ?_; clear hK K) | (refine wx_skipN (by rfl) (by rfl) (by rfl) (fun K hK => ?_); go_simp; refine hK _ ?_; clear hK K))
      refine wx_loudG (us := [8, 10]) (by rfl) (by rfl) (by rfl) (by rfl) (fun S wS hC hS hU => runs_enter (f := 52) (by go_simp <;> rfl) ?_) (fun v hv K hK => ?_)
      · refine (alike_any (aged L ka) (aged L kb) P1 p1 q1 P2 p2 q2 R1 r1 s1 R2 r2 s2 wS (lsaF_out (hU 8 (by simp))) (lsaF_out (hU 10 (by simp)))).mono ?_
        rintro e w' ⟨rfl, hb⟩
        rw [hta.out]
        exact ⟨_, rfl, rfl, Kept.of_below hb, trivial⟩
      obtain rfl := hv; (go_simp; refine hK _ ?_; clear hK K)
      repeat (first | (refine wx_quietU (by rfl) (by rfl) (by rfl) (fun K hK => ?_); go_big_quiet_op; refine hK _ ?_; clear hK K) | (refine wx_quietG (by rfl) (by rfl) (by rfl) (by rfl) (by rfl) (fun K hK => ?_); go_big_quiet_op; refine hK _ ?_; clear hK K) | (refine wx_skipG (by rfl) (by rfl) (by rfl) (fun K hK => ?_); go_simp; refine hK _ ?_; clear hK K) | (refine wx_skipN (by rfl) (by rfl) (by rfl) (fun K hK => ?_); go_simp; refine hK _ ?_; clear hK K))
      refine wx_nil fun w13 hsat => ?_
      have hb13 := sat_below hsat
      have hbw13 := hbw.trans (hb13.mono hbw.size)
      clear hsat z1 z2
      go_wp2_with fail
      go_ret
      exact ⟨rfl, hbw13⟩
    · have qb : (kb == 3600) = false := by simp [hb]
      have qc : (kb != 3600) = true := by simp [hb]
      have qn : (N == 1) = true := by rw [beq_iff_eq]; exact hcmp.out.2 (.inl ⟨ha, hb⟩)
      clear ha hb
      refine wp_region_loud (fun _ => False)
        [(8, lsaL [] (aged L ka)), (10, lsaL [] (aged L kb)), (11, plainL [8, 10] (.bool true))]
        (fun _ => Fact.none) (by kernel_rfl) (by kernel_rfl)
        (.cons (lsaL_ok _ _) (.cons (lsaL_ok _ _) (.cons (plainL_ok _ _) .nil))) good_nothing sat_none (WX.out ?_)
      repeat (first | (refine wx_quietU (by rfl) (by rfl) (by rfl) (fun K hK => ?_); go_big_quiet_op; refine hK _ ?_; clear hK K) | (refine wx_quietG (by rfl) (by rfl) (by rfl) (by rfl) (by rfl) (fun K hK => ?_); go_big_quiet_op; refine hK _ ?_; clear hK K) | (refine wx_skipG (by rfl) (by rfl) (by rfl) (fun K hK => ?_); go_simp; refine hK _ ?_; clear hK K) | (refine wx_skipN (by rfl) (by rfl) (by rfl) (fun K hK => ?_); go_simp; refine hK _ ?_; clear hK K))
      refine wx_loudG (us := []) (by rfl) (by rfl) (by rfl) (by rfl) (fun S wS hC hS hU => runs_enter (f := 41) (by go_simp <;> rfl) ?_) (fun v hv K hK => ?_)
      · refine (to1 (aged L ka) A1 n1 c1 A2 n2 c2 wS (aged_is (h12.below hC.below) ka) hn1 hn2).mono ?_
        rintro e w' ⟨_, _, _, _, _, _, rfl, hI, hb, hfA, hfB⟩
        exact ⟨_, rfl, ⟨_, _, _, _, _, _, rfl⟩, Kept.of_below hb, lsaF_of hI hfA hfB⟩
      obtain ⟨P1, p1, q1, P2, p2, q2, rfl⟩ := hv; (go_simp; refine hK _ ?_; clear hK K)
      repeat (first | (refine wx_quietU (by rfl) (by rfl) (by rfl) (fun K hK => ?_); go_big_quiet_op; refine hK _ ?_; clear hK K) | (refine wx_quietG (by rfl) (by rfl) (by rfl) (by rfl) (by rfl) (fun K hK => ?_); go_big_quiet_op; refine hK _ ?_; clear hK K) | (refine wx_skipG (by rfl) (by rfl) (by rfl) (fun K hK => ?_); go_simp; refine hK _ ?_; clear hK K) | (refine wx_skipN (by rfl) (by rfl) (by rfl) (fun K hK => ?_); go_simp; refine hK _ ?_; clear hK K))
      refine wx_loudG (us := []) (by rfl) (by rfl) (by rfl) (by rfl) (fun S wS hC hS hU => runs_enter (f := 41) (by go_simp <;> rfl) ?_) (fun v hv K hK => ?_)
      · refine (to1 (aged L kb) A1 n1 c1 A2 n2 c2 wS (aged_is (h12.below hC.below) kb) hn1 hn2).mono ?_
        rintro e w' ⟨_, _, _, _, _, _, rfl, hI, hb, hfA, hfB⟩
        exact ⟨_, rfl, ⟨_, _, _, _, _, _, rfl⟩, Kept.of_below hb, lsaF_of hI hfA hfB⟩
      obtain ⟨R1, r1, s1, R2, r2, s2, rfl⟩ := hv; (go_simp; refine hK _ ?_; clear hK K)
      repeat (first | (refine wx_quietU (by rfl) (by rfl) (by rfl) (fun K hK => ?_); go_big_quiet_op; refine hK _ ?_; clear hK K) | (refine wx_quietG (by rfl) (by rfl) (by rfl) (by rfl) (by rfl) (fun K hK => ?_); go_big_quiet_op; refine hK _ ?_; clear hK K) | (refine wx_skipG (by rfl) (by rfl) (by rfl) (fun K hK => ?_); go_simp; refine hK _ ?_; clear hK K) | (refine wx_skipN (by rfl) (by rfl) (by rfl) (fun K hK => ?_); go_simp; refine hK _ ?_; clear hK K))
      refine wx_loudG (us := [8, 10]) (by rfl) (by rfl) (by rfl) (by rfl) (fun S wS hC hS hU => runs_enter (f := 52) (by go_simp <;> rfl) ?_) (fun v hv K hK => ?_)
      · refine (alike_any (aged L ka) (aged L kb) P1 p1 q1 P2 p2 q2 R1 r1 s1 R2 r2 s2 wS (lsaF_out (hU 8 (by simp))) (lsaF_out (hU 10 (by simp)))).mono ?_
        rintro e w' ⟨rfl, hb⟩
        rw [hta.out]
        exact ⟨_, rfl, rfl, Kept.of_below hb, trivial⟩
      obtain rfl := hv; (go_simp; refine hK _ ?_; clear hK K)
      repeat (first | (refine wx_quietU (by rfl) (by rfl) (by rfl) (fun K hK => ?_); go_big_quiet_op; refine hK _ ?_; clear hK K) | (refine wx_quietG (by rfl) (by rfl) (by rfl) (by rfl) (by rfl) (fun K hK => ?_); go_big_quiet_op; refine hK _ ?_; clear hK K) | (refine wx_skipG (by rfl) (by rfl) (by rfl) (fun K hK => ?_); go_simp; refine hK _ ?_; clear hK K) | (refine wx_skipN (by rfl) (by rfl) (by rfl) (fun K hK => ?_); go_simp; refine hK _ ?_; clear hK K))
      refine wx_nil fun w13 hsat => ?_
      have hb13 := sat_below hsat
      have hbw13 := hbw.trans (hb13.mono hbw.size)
      clear hsat z1 z2
      go_wp2_with fail
      go_ret
      exact ⟨rfl, hbw13⟩
  · have qa : (ka == 3600) = false := by simp [ha]
    by_cases hb : kb = 3600
    · have qb : (kb == 3600) = true := by simp [hb]
      have qc : (kb != 3600) = false := by simp [hb]
      have qn : (N == 1) = false := by rw [beq_eq_false_iff_ne]; intro e; have := hcmp.out.1 e; omega
      clear ha hb
      refine wp_region_loud (fun _ => False)
        [(8, lsaL [] (aged L ka)), (10, lsaL [] (aged L kb)), (11, plainL [8, 10] (.bool true))]
        (fun _ => Fact.none) (by kernel_rfl) (by kernel_rfl)
        (.cons (lsaL_ok _ _) (.cons (lsaL_ok _ _) (.cons (plainL_ok _ _) .nil))) good_nothing sat_none (WX.out ?_)
      repeat (first | (refine wx_quietU (by rfl) (by rfl) (by rfl) (fun K hK => ?_); go_big_quiet_op; refine hK _ ?_; clear hK K) | (refine wx_quietG (by rfl) (by rfl) (by rfl) (by rfl) (by rfl) (fun K hK => ?_); go_big_quiet_op; refine hK _ ?_; clear hK K) | (refine wx_skipG (by rfl) (by rfl) (by rfl) (fun K hK => ?_); go_simp; refine hK _ ?_; clear hK K) | (refine wx_skipN (by rfl) (by rfl) (by rfl) (fun K hK => ?_); go_simp; refine hK _ ?_; clear hK K))
      refine wx_loudG (us := []) (by rfl) (by rfl) (by rfl) (by rfl) (fun S wS hC hS hU => runs_enter (f := 41) (by go_simp <;> rfl) ?_) (fun v hv K hK => ?_)
      · refine (to1 (aged L ka) A1 n1 c1 A2 n2 c2 wS (aged_is (h12.below hC.below) ka) hn1 hn2).mono ?_
        rintro e w' ⟨_, _, _, _, _, _, rfl, hI, hb, hfA, hfB⟩
        exact ⟨_, rfl, ⟨_, _, _, _, _, _, rfl⟩, Kept.of_below hb, lsaF_of hI hfA hfB⟩
      obtain ⟨P1, p1, q1, P2, p2, q2, rfl⟩ := hv; (go_simp; refine hK _ ?_; clear hK K)
      repeat (first | (refine wx_quietU (by rfl) (by rfl) (by rfl) (fun K hK => ?_); go_big_quiet_op; refine hK _ ?_; clear hK K) | (refine wx_quietG (by rfl) (by rfl) (by rfl) (by rfl) (by rfl) (fun K hK => ?_); go_big_quiet_op; refine hK _ ?_; clear hK K) | (refine wx_skipG (by rfl) (by rfl) (by rfl) (fun K hK => ?_); go_simp; refine hK _ ?_; clear hK K) | (refine wx_skipN (by rfl) (by rfl) (by rfl) (fun K hK => ?_); go_simp; refine hK _ ?_; clear hK K))
      refine wx_loudG (us := []) (by rfl) (by rfl) (by rfl) (by rfl) (fun S wS hC hS hU => runs_enter (f := 41) (by go_simp <;> rfl) ?_) (fun v hv K hK => ?_)
      · refine (to1 (aged L kb) A1 n1 c1 A2 n2 c2 wS (aged_is (h12.below hC.below) kb) hn1 hn2).mono ?_
        rintro e w' ⟨_, _, _, _, _, _, rfl, hI, hb, hfA, hfB⟩
        exact ⟨_, rfl, ⟨_, _, _, _, _, _, rfl⟩, Kept.of_below hb, lsaF_of hI hfA hfB⟩
      obtain ⟨R1, r1, s1, R2, r2, s2, rfl⟩ := hv; (go_simp; refine hK _ ?_; clear hK K)
      repeat (first | (refine wx_quietU (by rfl) (by rfl) (by rfl) (fun K hK => ?_); go_big_quiet_op; refine hK _ ?_; clear hK K) | (refine wx_quietG (by rfl) (by rfl) (by rfl) (by rfl) (by rfl) (fun K hK => ?_); go_big_quiet_op; refine hK _ ?_; clear hK K) | (refine wx_skipG (by rfl) (by rfl) (by rfl) (fun K hK => ?_); go_simp; refine hK _ ?_; clear hK K) | (refine wx_skipN (by rfl) (by rfl) (by rfl) (fun K hK => ?_); go_simp; refine hK _ ?_; clear hK K))
      refine wx_loudG (us := [8, 10]) (by rfl) (by rfl) (by rfl) (by rfl) (fun S wS hC hS hU => runs_enter (f := 52) (by go_simp <;> rfl) ?_) (fun v hv K hK => ?_)
      · refine (alike_any (aged L ka) (aged L kb) P1 p1 q1 P2 p2 q2 R1 r1 s1 R2 r2 s2 wS (lsaF_out (hU 8 (by simp))) (lsaF_out (hU 10 (by simp)))).mono ?_
        rintro e w' ⟨rfl, hb⟩
        rw [hta.out]
        exact ⟨_, rfl, rfl, Kept.of_below hb, trivial⟩
      obtain rfl := hv; (go_simp; refine hK _ ?_; clear hK K)
      repeat (first | (refine wx_quietU (by rfl) (by rfl) (by rfl) (fun K hK => ?_); go_big_quiet_op; refine hK _ ?_; clear hK K) | (refine wx_quietG (by rfl) (by rfl) (by rfl) (by rfl) (by rfl) (fun K hK => ?_); go_big_quiet_op; refine hK _ ?_; clear hK K) | (refine wx_skipG (by rfl) (by rfl) (by rfl) (fun K hK => ?_); go_simp; refine hK _ ?_; clear hK K) | (refine wx_skipN (by rfl) (by rfl) (by rfl) (fun K hK => ?_); go_simp; refine hK _ ?_; clear hK K))
      refine wx_nil fun w13 hsat => ?_
      have hb13 := sat_below hsat
      have hbw13 := hbw.trans (hb13.mono hbw.size)
      clear hsat z1 z2
      go_wp2_with fail
      go_ret
      exact ⟨rfl, hbw13⟩
    · have qb : (kb == 3600) = false := by simp [hb]
      have qc : (kb != 3600) = true := by simp [hb]
      by_cases h9 : 900 < kb - ka
      · have qn : (N == 1) = true := by rw [beq_iff_eq]; exact hcmp.out.2 (.inr ⟨hb, by omega⟩)
        clear ha hb
        refine wp_region_loud (fun _ => False)
          [(8, lsaL [] (aged L ka)), (10, lsaL [] (aged L kb)), (11, plainL [8, 10] (.bool true))]
          (fun _ => Fact.none) (by kernel_rfl) (by kernel_rfl)
          (.cons (lsaL_ok _ _) (.cons (lsaL_ok _ _) (.cons (plainL_ok _ _) .nil))) good_nothing sat_none (WX.out ?_)
        repeat (first | (refine wx_quietU (by rfl) (by rfl) (by rfl) (fun K hK => ?_); go_big_quiet_op; refine hK _ ?_; clear hK K) | (refine wx_quietG (by rfl) (by rfl) (by rfl) (by rfl) (by rfl) (fun K hK => ?_); go_big_quiet_op; refine hK _ ?_; clear hK K) | (refine wx_skipG (by rfl) (by rfl) (by rfl) (fun K hK => ?_); go_simp; refine hK _ ?_; clear hK K) | (refine wx_skipN (by rfl) (by rfl) (by rfl) (fun K hK => ?_); go_simp; refine hK _ ?_; clear hK K))
        refine wx_loudG (us := []) (by rfl) (by rfl) (by rfl) (by rfl) (fun S wS hC hS hU => runs_enter (f := 41) (by go_simp <;> rfl) ?_) (fun v hv K hK => ?_)
        · refine (to1 (aged L ka) A1 n1 c1 A2 n2 c2 wS (aged_is (h12.below hC.below) ka) hn1 hn2).mono ?_
          rintro e w' ⟨_, _, _, _, _, _, rfl, hI, hb, hfA, hfB⟩
          exact ⟨_, rfl, ⟨_, _, _, _, _, _, rfl⟩, Kept.of_below hb, lsaF_of hI hfA hfB⟩
        obtain ⟨P1, p1, q1, P2, p2, q2, rfl⟩ := hv; (go_simp; refine hK _ ?_; clear hK K)
        repeat (first | (refine wx_quietU (by rfl) (by rfl) (by rfl) (fun K hK => ?_); go_big_quiet_op; refine hK _ ?_; clear hK K) | (refine wx_quietG (by rfl) (by rfl) (by rfl) (by rfl) (by rfl) (fun K hK => ?_); go_big_quiet_op; refine hK _ ?_; clear hK K) | (refine wx_skipG (by rfl) (by rfl) (by rfl) (fun K hK => ?_); go_simp; refine hK _ ?_; clear hK K) | (refine wx_skipN (by rfl) (by rfl) (by rfl) (fun K hK => ?_); go_simp; refine hK _ ?_; clear hK K))
        refine wx_loudG (us := []) (by rfl) (by rfl) (by rfl) (by rfl) (fun S wS hC hS hU => runs_enter (f := 41) (by go_simp <;> rfl) ?_) (fun v hv K hK => ?_)
        · refine (to1 (aged L kb) A1 n1 c1 A2 n2 c2 wS (aged_is (h12.below hC.below) kb) hn1 hn2).mono ?_
          rintro e w' ⟨_, _, _, _, _, _, rfl, hI, hb, hfA, hfB⟩
          exact ⟨_, rfl, ⟨_, _, _, _, _, _, rfl⟩, Kept.of_below hb, lsaF_of hI hfA hfB⟩
        obtain ⟨R1, r1, s1, R2, r2, s2, rfl⟩ := hv; (go_simp; refine hK _ ?_; clear hK K)
        repeat (first | (refine wx_quietU (by rfl) (by rfl) (by rfl) (fun K hK => ?_); go_big_quiet_op; refine hK _ ?_; clear hK K) | (refine wx_quietG (by rfl) (by rfl) (by rfl) (by rfl) (by rfl) (fun K hK => ?_); go_big_quiet_op; refine hK _ ?_; clear hK K) | (refine wx_skipG (by rfl) (by rfl) (by rfl) (fun K hK => ?_); go_simp; refine hK _ ?_; clear hK K) | (refine wx_skipN (by rfl) (by rfl) (by rfl) (fun K hK => ?_); go_simp; refine hK _ ?_; clear hK K))
        refine wx_loudG (us := [8, 10]) (by rfl) (by rfl) (by rfl) (by rfl) (fun S wS hC hS hU => runs_enter (f := 52) (by go_simp <;> rfl) ?_) (fun v hv K hK => ?_)
        · refine (alike_any (aged L ka) (aged L kb) P1 p1 q1 P2 p2 q2 R1 r1 s1 R2 r2 s2 wS (lsaF_out (hU 8 (by simp))) (lsaF_out (hU 10 (by simp)))).mono ?_
          rintro e w' ⟨rfl, hb⟩
          rw [hta.out]
          exact ⟨_, rfl, rfl, Kept.of_below hb, trivial⟩
        obtain rfl := hv; (go_simp; refine hK _ ?_; clear hK K)
        repeat (first | (refine wx_quietU (by rfl) (by rfl) (by rfl) (fun K hK => ?_); go_big_quiet_op; refine hK _ ?_; clear hK K) | (refine wx_quietG (by rfl) (by rfl) (by rfl) (by rfl) (by rfl) (fun K hK => ?_); go_big_quiet_op; refine hK _ ?_; clear hK K) | (refine wx_skipG (by rfl) (by rfl) (by rfl) (fun K hK => ?_); go_simp; refine hK _ ?_; clear hK K) | (refine wx_skipN (by rfl) (by rfl) (by rfl) (fun K hK => ?_); go_simp; refine hK _ ?_; clear hK K))
        refine wx_nil fun w13 hsat => ?_
        have hb13 := sat_below hsat
        have hbw13 := hbw.trans (hb13.mono hbw.size)
        clear hsat z1 z2
        go_wp2_with fail
        go_ret
        exact ⟨rfl, hbw13⟩
      · have qn : (N == 1) = false := by rw [beq_eq_false_iff_ne]; intro e; have := hcmp.out.1 e; omega
        have h9' : (kb - ka ≤ 900) := by omega
        clear ha hb
        refine wp_region_loud (fun _ => False)
          [(8, lsaL [] (aged L ka)), (10, lsaL [] (aged L kb)), (11, plainL [8, 10] (.bool true))]
          (fun _ => Fact.none) (by kernel_rfl) (by kernel_rfl)
          (.cons (lsaL_ok _ _) (.cons (lsaL_ok _ _) (.cons (plainL_ok _ _) .nil))) good_nothing sat_none (WX.out ?_)
        repeat (first | (refine wx_quietU (by rfl) (by rfl) (by rfl) (fun K hK => ?_); go_big_quiet_op; refine hK _ ?_; clear hK K) | (refine wx_quietG (by rfl) (by rfl) (by rfl) (by rfl) (by rfl) (fun K hK => ?_); go_big_quiet_op; refine hK _ ?_; clear hK K) | (refine wx_skipG (by rfl) (by rfl) (by rfl) (fun K hK => ?_); go_simp; refine hK _ ?_; clear hK K) | (refine wx_skipN (by rfl) (by rfl) (by rfl) (fun K hK => ?_); go_simp; refine hK _ ?_; clear hK K))
        refine wx_loudG (us := []) (by rfl) (by rfl) (by rfl) (by rfl) (fun S wS hC hS hU => runs_enter (f := 41) (by go_simp <;> rfl) ?_) (fun v hv K hK => ?_)
        · refine (to1 (aged L ka) A1 n1 c1 A2 n2 c2 wS (aged_is (h12.below hC.below) ka) hn1 hn2).mono ?_
          rintro e w' ⟨_, _, _, _, _, _, rfl, hI, hb, hfA, hfB⟩
          exact ⟨_, rfl, ⟨_, _, _, _, _, _, rfl⟩, Kept.of_below hb, lsaF_of hI hfA hfB⟩
        obtain ⟨P1, p1, q1, P2, p2, q2, rfl⟩ := hv; (go_simp; refine hK _ ?_; clear hK K)
        repeat (first | (refine wx_quietU (by rfl) (by rfl) (by rfl) (fun K hK => ?_); go_big_quiet_op; refine hK _ ?_; clear hK K) | (refine wx_quietG (by rfl) (by rfl) (by rfl) (by rfl) (by rfl) (fun K hK => ?_); go_big_quiet_op; refine hK _ ?_; clear hK K) | (refine wx_skipG (by rfl) (by rfl) (by rfl) (fun K hK => ?_); go_simp; refine hK _ ?_; clear hK K) | (refine wx_skipN (by rfl) (by rfl) (by rfl) (fun K hK => ?_); go_simp; refine hK _ ?_; clear hK K))
        refine wx_loudG (us := []) (by rfl) (by rfl) (by rfl) (by rfl) (fun S wS hC hS hU => runs_enter (f := 41) (by go_simp <;> rfl) ?_) (fun v hv K hK => ?_)
        · refine (to1 (aged L kb) A1 n1 c1 A2 n2 c2 wS (aged_is (h12.below hC.below) kb) hn1 hn2).mono ?_
          rintro e w' ⟨_, _, _, _, _, _, rfl, hI, hb, hfA, hfB⟩
          exact ⟨_, rfl, ⟨_, _, _, _, _, _, rfl⟩, Kept.of_below hb, lsaF_of hI hfA hfB⟩
        obtain ⟨R1, r1, s1, R2, r2, s2, rfl⟩ := hv; (go_simp; refine hK _ ?_; clear hK K)
        repeat (first | (refine wx_quietU (by rfl) (by rfl) (by rfl) (fun K hK => ?_); go_big_quiet_op; refine hK _ ?_; clear hK K) | (refine wx_quietG (by rfl) (by rfl) (by rfl) (by rfl) (by rfl) (fun K hK => ?_); go_big_quiet_op; refine hK _ ?_; clear hK K) | (refine wx_skipG (by rfl) (by rfl) (by rfl) (fun K hK => ?_); go_simp; refine hK _ ?_; clear hK K) | (refine wx_skipN (by rfl) (by rfl) (by rfl) (fun K hK => ?_); go_simp; refine hK _ ?_; clear hK K))
        refine wx_loudG (us := [8, 10]) (by rfl) (by rfl) (by rfl) (by rfl) (fun S wS hC hS hU => runs_enter (f := 52) (by go_simp <;> rfl) ?_) (fun v hv K hK => ?_)
        · refine (alike_any (aged L ka) (aged L kb) P1 p1 q1 P2 p2 q2 R1 r1 s1 R2 r2 s2 wS (lsaF_out (hU 8 (by simp))) (lsaF_out (hU 10 (by simp)))).mono ?_
          rintro e w' ⟨rfl, hb⟩
          rw [hta.out]
          exact ⟨_, rfl, rfl, Kept.of_below hb, trivial⟩
        obtain rfl := hv; (go_simp; refine hK _ ?_; clear hK K)
        repeat (first | (refine wx_quietU (by rfl) (by rfl) (by rfl) (fun K hK => ?_); go_big_quiet_op; refine hK _ ?_; clear hK K) | (refine wx_quietG (by rfl) (by rfl) (by rfl) (by rfl) (by rfl) (fun K hK => ?_); go_big_quiet_op; refine hK _ ?_; clear hK K) | (refine wx_skipG (by rfl) (by rfl) (by rfl) (fun K hK => ?_); go_simp; refine hK _ ?_; clear hK K) | (refine wx_skipN (by rfl) (by rfl) (by rfl) (fun K hK => ?_); go_simp; refine hK _ ?_; clear hK K))
        refine wx_nil fun w13 hsat => ?_
        have hb13 := sat_below hsat
        have hbw13 := hbw.trans (hb13.mono hbw.size)
        clear hsat z1 z2
        go_wp2_with fail
        go_ret
        exact ⟨rfl, hbw13⟩
theorem lsaAges_walk (L : Lsa) (a b : Int) (A1 : Option Addr) (n1 c1 : Nat) (A2 : Option Addr) (n2 c2 : Nat) (w : World) (h : IsLsa w L A1 n1 c1 A2 n2 c2) (hwf : WfL L) (hn1 : n1 * 24 ≤ 140737488355328) (hn2 : n2 * 4 ≤ 140737488355328) :
    Calls Try.prog 13 #[.agg (lsaC L A1 n1 c1 A2 n2 c2), .int .i64 a, .int .i64 b] w fun e w' => e = .returned (.bool true) ∧ Below w.heap.size w w' := by
  cases hr : L.right with
  | false => exact lsaAges_no L a b A1 n1 c1 A2 n2 c2 w h hr
  | true => exact lsaAges_yes L a b A1 n1 c1 A2 n2 c2 w h hwf hn1 hn2 hr
end Go.Proofs.Ytaajhkdifliblaa
