/-
  Contracts of the law's To and From.
-/
import Derived.Test.YtgopkpogakjckaaLg2
namespace Go.Proofs.Ytgopkpogakjckaa
set_option linter.unusedVariables false
set_option linter.unusedSimpArgs false
open Go Go.RowKit SM LM

theorem LK_take_succ (l : List Link) (k : Nat) (h : k < l.length) : LK (l.take (k + 1)) = LK (l.take k) ++ LK [linkAt l k] := by
  rw [← LK_append]
  congr 1
  have e : l.take (k + 1) = l.take k ++ [l[k]] := List.take_succ_eq_append_getElem h
  rw [e]
  unfold linkAt
  rw [List.getD_eq_getElem?_getD, List.getElem?_eq_getElem h]
  rfl
set_option maxRecDepth 100000 in
set_option maxHeartbeats 3200000 in
theorem to1 (L : Lsa) (A1 : Option Addr) (n1 c1 : Nat) (A2 : Option Addr) (n2 c2 : Nat) (w : World) (h : IsLsa w L A1 n1 c1 A2 n2 c2) (hn1 : n1 * 24 ≤ 140737488355328) (hn2 : n2 * 4 ≤ 140737488355328) :
    Calls Try.prog 27 #[.agg (lsaC L A1 n1 c1 A2 n2 c2)] w fun e w' => ∃ B1 m1 d1 B2 m2 d2, e = .returned (.agg (lsaC L B1 m1 d1 B2 m2 d2)) ∧ IsLsa w' L B1 m1 d1 B2 m2 d2 ∧ Below w.heap.size w w' ∧ FreshA w.heap.size B1 ∧ FreshA w.heap.size B2 := by
  have hln := h.links.lenN.1
  rw [LK_length] at hln
  have hln' : L.links.length = n1 := by omega
  have HLN := hid hln'
  clear hln hln'
  go_enter Try.func27, Try.ntmps27
  go_wp2_with fail
  have hb0 := heap_alloc_new w (.cells (lsaC L A1 n1 c1 A2 n2 c2) 77)
  have hbb := (Below.refl w.heap.size w).alloc (Nat.le_refl _) (.cells (lsaC L A1 n1 c1 A2 n2 c2) 77)
  have hb1 := heap_alloc_new (w.alloc (.cells (lsaC L A1 n1 c1 A2 n2 c2) 77)) (.cells (lsaC zeroL none 0 0 none 0 0) 63)
  replace hb0 := blk_alloc hb0 (.cells (lsaC zeroL none 0 0 none 0 0) 63)
  replace hbb := hbb.alloc hbb.size (.cells (lsaC zeroL none 0 0 none 0 0) 63)
  have hs1 : ((w.alloc (.cells (lsaC L A1 n1 c1 A2 n2 c2) 77)).alloc (.cells (lsaC zeroL none 0 0 none 0 0) 63)).heap.size = w.heap.size + 2 := by simp
  rw [show (w.alloc (.cells (lsaC L A1 n1 c1 A2 n2 c2) 77)).heap.size = w.heap.size + 1 by simp] at hb1
  have hs1' := Nat.le_of_eq hs1.symm
  clear hs1
  have h1 := h.below hbb
  change Code.wp _ _ _ _ ((w.alloc (.cells (lsaC L A1 n1 c1 A2 n2 c2) 77)).alloc (.cells (lsaC zeroL none 0 0 none 0 0) 63))
  generalize (w.alloc (.cells (lsaC L A1 n1 c1 A2 n2 c2) 77)).alloc (.cells (lsaC zeroL none 0 0 none 0 0) 63) = w1 at *
  obtain ⟨hc, hf⟩ := blk_cells hb0
  have hcx : ∀ (z : WK (fun _ => False) w1) i, (wat z).cell? ⟨w.heap.size, i, none⟩ = (lsaC L A1 n1 c1 A2 n2 c2)[i]? := fun z i => (wat_cell (p := ⟨w.heap.size, i, none⟩) (by simp; omega) (by simp) z).trans (hc i)
  have hx0 := fun z => hcx z 0
  have hx1 := fun z => hcx z 1
  have hx2 := fun z => hcx z 2
  have hx3 := fun z => hcx z 3
  have hx4 := fun z => hcx z 4
  have hx6 := fun z => hcx z 6
  have hx7 := fun z => hcx z 7
  have hx8 := fun z => hcx z 8
  simp at hx0 hx1 hx2 hx3 hx4 hx6 hx7 hx8
  clear hcx hc hf
  refine wp_region_loud (fun _ => False)
    [(16, rowL [] w1.heap.size 22 1 0 []), (19, rowL [16] w1.heap.size 22 1 n2 (U32 L.routers)), (23, newL 63 (lsaC zeroL none 0 0 none 0 0)),
     (24, argL [19, 23] (fun _ _ => True) (fun xs _ S w' => ∃ g A c, xs = [.pointer (some ⟨g, 0, none⟩), .agg (lsaC L none 0 0 A n2 c)] ∧ BlkF g 63 (lsaC L none 0 0 A n2 c) S w' ∧ OwnF w1.heap.size 22 1 n2 (U32 L.routers) (.slice A n2 c) S w'))]
    (fun _ => Fact.none) (by kernel_rfl) (by kernel_rfl)
    (.cons (rowL_ok _ _ _ _ _ _) (.cons (rowL_ok _ _ _ _ _ _) (.cons (newL_ok _ _) (.cons (argL_ok (fun _ => ⟨undef, trivial⟩) (fun xs _ S S' w w' h1 h2 ⟨g, A, c, h0, h3, h4⟩ => ⟨g, A, c, h0, good_blk _ _ _ S S' w w' h1 h2 h3, good_own _ _ _ _ _ _ S S' w w' h1 h2 h4⟩)) .nil))))
    good_nothing sat_none ?_
  repeat (refine wpX_quiet (by rfl) (by rfl) (by rfl) (fun K hK => ?_); go_big_quiet_op; refine hK _ ?_; clear hK K)
  refine wpX_loud (us := []) (by rfl) (by rfl) (fun S wS hC hS hU => ?_) (fun v hv K hK => ?_)
  · exact runs_value (by go_simp <;> rfl) (made_x rfl hC.size (by rfl) (by rfl) (by omega) (by omega))
  obtain ⟨A6, c6, rfl⟩ := hv; (go_simp; refine hK _ ?_; clear hK K)
  repeat (refine wpX_quiet (by rfl) (by rfl) (by rfl) (fun K hK => ?_); go_big_quiet_op; refine hK _ ?_; clear hK K)
  refine wpX_loud (us := [16]) (by rfl) (by rfl) (fun S wS hC hS hU => ?_) (fun v hv K hK => ?_)
  · refine runs_mono (appS_x (zs := U32 L.routers) (.tmp 21) (.tmp 23) st_u32 (by rfl) (by rfl) (by rfl) (hU 16 (by simp)) (sl_kept h1.routers hC (by simp)) (U32_one _) (by simp [maxLen]; omega) (by omega) hC.size (by simp)) ?_
    intro v w' hL
    simp only [Nat.zero_add] at hL
    exact hL
  obtain ⟨A7, c7, rfl⟩ := hv; (go_simp; refine hK _ ?_; clear hK K)
  repeat (refine wpX_quiet (by rfl) (by rfl) (by rfl) (fun K hK => ?_); go_big_quiet_op; refine hK _ ?_; clear hK K)
  refine wpX_loud (us := []) (by rfl) (by rfl) (fun S wS hC hS hU => ?_) (fun v hv K hK => ?_)
  · exact runs_value (by go_simp <;> rfl) (newB_x rfl)
  obtain ⟨g, rfl⟩ := hv; (go_simp; refine hK _ ?_; clear hK K)
  repeat (refine wpX_quiet (by rfl) (by rfl) (by rfl) (fun K hK => ?_); go_big_quiet_op; refine hK _ ?_; clear hK K)
  refine wpX_loud (us := [19, 23]) (by rfl) (by rfl) (fun S wS hC hS hU => ?_) (fun v hv K hK => ?_)
  · have k19 : OwnF w1.heap.size 22 1 n2 (U32 L.routers) (.slice A7 n2 c7) S wS := hU 19 (by simp)
    obtain ⟨g', e1, k23, k24⟩ := (hU 23 (by simp) : NewB 63 (lsaC zeroL none 0 0 none 0 0) (.pointer (some ⟨g, 0, none⟩)) S wS)
    injection e1 with e1
    injection e1 with e1
    injection e1 with e1
    subst e1
    have hne := own_ne_blk k19.2 k24 (by decide)
    obtain ⟨hc, hf⟩ := blk_cells k24
    have hc0 := hc 0; have hc1 := hc 1; have hc2 := hc 2; have hc3 := hc 3; have hc4 := hc 4; have hc5 := hc 5; have hc6 := hc 6; have hc7 := hc 7; have hc8 := hc 8
    simp [zeroL] at hc0 hc1 hc2 hc3 hc4 hc5 hc6 hc7 hc8
    clear hc
    have h9 := blk_set (blk_set (blk_set (blk_set (blk_set (blk_set (blk_set (blk_set (blk_set k24 0 (.int .i64 L.age)) 1 (.int .i64 L.kty)) 2 (.int .u32 (L.kid : Int))) 3 (.int .u32 (L.kadv : Int))) 4 (.int .i64 L.seq)) 5 (.slice none 0 0)) 6 (.int .u32 (L.mask : Int))) 7 (.slice A7 n2 c7)) 8 (.int .i64 L.cost)
    simp at h9
    have hkk : ∀ W : World, Kept (fun b => b = g) wS W → OwnF w1.heap.size 22 1 n2 (U32 L.routers) (.slice A7 n2 c7) (fun b => S b ∨ (wS.heap.size ≤ b ∧ b < W.heap.size)) W := fun W hW => ⟨fun x hx => .inl (k19.1 x hx), ownsRow_kept k19.2 hW hne⟩
    refine runs_skip (by go_simp <;> rfl) ⟨trivial, ?_, g, A7, c7, rfl, ⟨.inl k23, h9⟩, hkk _ ?_⟩
    · repeat (first | with_reducible exact Kept.refl _ _ | (with_reducible refine Kept.setCell ?_ ?_ _; rotate_left; · exact Or.inl k23))
    · repeat (first | with_reducible exact Kept.refl _ _ | (with_reducible refine Kept.setCell ?_ ?_ _; rotate_left; · exact Or.inl rfl))
  (go_simp; refine hK _ ?_; clear hK K)
  refine wpX_nil fun w4 hsat => ?_
  obtain ⟨S, hS, hfin⟩ := sat_get hsat 24
  obtain ⟨g', A8, c8, hxs, hb4, ho4⟩ := (hfin : ∃ g' A c, [Value.pointer (some ⟨g, 0, none⟩), .agg (lsaC L none 0 0 A7 n2 c7)] = [.pointer (some ⟨g', 0, none⟩), .agg (lsaC L none 0 0 A n2 c)] ∧ BlkF g' 63 (lsaC L none 0 0 A n2 c) S w4 ∧ OwnF w1.heap.size 22 1 n2 (U32 L.routers) (.slice A n2 c) S w4)
  obtain rfl : g' = g := by
    injection hxs with e1 _
    injection e1 with e1
    injection e1 with e1
    injection e1 with e1
    exact e1.symm
  clear hxs
  have hgl := hb4.2
  have hg1 : w1.heap.size ≤ g' ∧ g' < w4.heap.size := by
    have := hS g' hb4.1
    rcases this with ⟨h1 | h1, h2⟩
    · exact h1.elim
    · exact ⟨h1, h2⟩
  have hrow := ho4.2
  have hb14 := sat_below hsat
  have hbb4 := hbb.trans (hb14.mono hbb.size)
  have h4 := h1.below hb14
  have hbx := blk_below hb0 hb14 (by omega)
  have hbr := blk_below hb1 hb14 (by omega)
  have hs4 := hb14.size
  clear hsat hS hb4 ho4 hb14 h1 h4 hb0 hb1 hbb hx0 hx1 hx2 hx3 hx4 hx6 hx7 hx8
  obtain ⟨hcx, hfx⟩ := blk_cells hbx
  go_wp2_with fail
  clear hcx hfx
  go_loopw [4] (fun i wr => ∃ (k : Nat) (A : Option Addr) (c : Nat), k ≤ n1 ∧ i = .int .i64 k ∧ wr.heap[g']? = some (.cells (lsaC L A k c A8 n2 c8) 63 (0, 0)) ∧ wr.ownsRow w4.heap.size 93 4 (.slice A k c) k (LK (L.links.take k)) ∧ Kept (fun b => b = g') w4 wr) (fun i _ => n1 - (intOf i).toNat)
  case atStart => exact ⟨0, none, 0, Nat.zero_le _, rfl, hgl, by simpa [LK] using World.ownsRow_nil _ _ _ _, Kept.refl _ _⟩
  case round =>
    obtain ⟨k, A, c, hk, rfl, hglr, hownr, hkp⟩ := hrel
    have hszr := hkp.size
    have hbxr := blk_kept hbx hkp (by omega)
    have hbw : Below w.heap.size w wr := hbb4.trans (hkp.below_of (B := w.heap.size) (by omega) (fun b hb => by omega))
    have hr := h.links.below hbw
    by_cases hlt : k < n1
    · obtain ⟨hcx, hfx⟩ := blk_cells hbxr
      obtain ⟨b, off, rfl, hbl', _, _, _, _⟩ := h.links.link hlt
      obtain ⟨_, _, e1, _, q0, q1, q2, q3⟩ := hr.link hlt
      injection e1 with e1
      injection e1 with e1 e2
      subst e1; subst e2
      have HTK := hid (LK_take_succ L.links k (by rw [HLN.out]; exact hlt))
      generalize linkAt L.links k = X at *
      go_wp2_with fail
      have hown := hownr
      have hgr : g' < wr.heap.size := by omega
      have hne1 : ∀ y : Nat, y < w.heap.size + 2 → ¬ ((False ∨ y = g') ∨ Value.ownBlock (.slice A k c) = some y) := fun y hy hh => by
        rcases hh with (hh | hh) | hh
        · exact hh
        · omega
        · have := (hown.lt _ hh).1; omega
      have hz : ∀ (z : WK (fun y => (False ∨ y = g') ∨ Value.ownBlock (.slice A k c) = some y) wr) y i, y < w.heap.size + 2 → (wat z).cell? ⟨y, i, none⟩ = wr.cell? ⟨y, i, none⟩ := fun z y i hy => wat_cell (p := ⟨y, i, none⟩) (by simp; omega) (hne1 y hy) z
      have z5 : ∀ z : WK (fun y => (False ∨ y = g') ∨ Value.ownBlock (.slice A k c) = some y) wr, (wat z).cell? ⟨w.heap.size, 5, none⟩ = some (.slice (some ⟨b, off, none⟩) n1 c1) := fun z => (hz z _ 5 (by omega)).trans (hcx 5)
      have z0 := fun z => (hz z b (off + k * 4) (by omega)).trans q0
      have z1 := fun z => (hz z b (off + k * 4 + 1) (by omega)).trans q1
      have z2 := fun z => (hz z b (off + k * 4 + 2) (by omega)).trans q2
      have z3 := fun z => (hz z b (off + k * 4 + 3) (by omega)).trans q3
      clear hz hne1 hcx hfx q0 q1 q2 q3
      have hX4 : Hid (LK [X] = [.int .u32 X.id, .int .u32 X.data, .int .i64 X.ty, .int .i64 X.cost]) := rfl
      have hd1 : ∀ y, Value.ownBlock (.slice A k c) = some y → (False ∨ y = g') → False := by
        rintro y h1 (h2 | h2)
        · exact h2
        · have := (hown.lt y h1).1; omega
      refine wp_region_loud (fun y => (False ∨ y = g') ∨ Value.ownBlock (.slice A k c) = some y)
        [(1, loadL [100] (.slice A k c) (BlkF g' 63 (lsaC L A k c A8 n2 c8))), (27, rowL [] w4.heap.size 93 4 1 (LK [X])), (28, rowL [101, 27] w4.heap.size 93 4 (k + 1) (LK (L.links.take (k + 1)))),
         (30, factL [1, 28] (fun _ => True) (fun _ S w' => ∃ A1 c1, BlkF g' 63 (lsaC L A1 (k + 1) c1 A8 n2 c8) S w' ∧ OwnF w4.heap.size 93 4 (k + 1) (LK (L.links.take (k + 1))) (.slice A1 (k + 1) c1) S w'))]
        (addL 101 (OwnF w4.heap.size 93 4 k (LK (L.links.take k)) (.slice A k c)) (addL 100 (BlkF g' 63 (lsaC L A k c A8 n2 c8)) (fun _ => Fact.none))) (by kernel_rfl) (by kernel_rfl)
        (.cons (loadL_ok _ _ (good_blk _ _ _)) (.cons (rowL_ok _ _ _ _ _ _) (.cons (rowL_ok _ _ _ _ _ _) (.cons (factL_ok ⟨undef, trivial⟩ (fun _ S S' w w' h1 h2 ⟨A', c', h3, h4⟩ => ⟨A', c', good_blk _ _ _ S S' w w' h1 h2 h3, good_own _ _ _ _ _ _ S S' w w' h1 h2 h4⟩)) .nil))))
        (good_add _ (good_own _ _ _ _ _ _) (good_add _ (good_blk _ _ _) good_nothing))
        (sat_add 101 (sat_add 100 sat_none (fun b _ h => h) (fun b (hb : b = g') => by omega) ⟨rfl, hglr⟩) hd1 (ownF_lt hown) (ownF_in hown)) ?_
      repeat (refine wpX_quiet (by rfl) (by rfl) (by rfl) (fun K hK => ?_); go_big_quiet_op; refine hK _ ?_; clear hK K)
      refine wpX_loud (us := [100]) (by rfl) (by rfl) (fun S wS hC hS hU => ?_) (fun v hv K hK => ?_)
      · obtain ⟨hc, hf⟩ := blkF_cells (hU 100 (by simp) : BlkF g' 63 (lsaC L A k c A8 n2 c8) S wS)
        exact load_x (by go_simp) (good_blk _ _ _) (hU 100 (by simp))
      obtain rfl := hv; (go_simp; refine hK _ ?_; clear hK K)
      repeat (refine wpX_quiet (by rfl) (by rfl) (by rfl) (fun K hK => ?_); go_big_quiet_op; refine hK _ ?_; clear hK K)
      refine wpX_loud (us := []) (by rfl) (by rfl) (fun S wS hC hS hU => ?_) (fun v hv K hK => ?_)
      · exact runs_value (by go_simp <;> rfl) (made_x rfl (Nat.le_trans hszr hC.size) (by rw [hX4.out]) (by rfl) (by omega) (by omega))
      obtain ⟨A6, c6, rfl⟩ := hv; (go_simp; refine hK _ ?_; clear hK K)
      repeat (refine wpX_quiet (by rfl) (by rfl) (by rfl) (fun K hK => ?_); go_big_quiet_op; refine hK _ ?_; clear hK K)
      refine wpX_loud (us := [101, 27]) (by rfl) (by rfl) (fun S wS hC hS hU => ?_) (fun v hv K hK => ?_)
      · exact appS_x (.tmp 36) (.tmp 62) st_links (by rfl) (by rfl) (by rfl) (hU 101 (by simp)) (own_sl (hU 27 (by simp)).2) (LK_one _) (by simp [maxLen]; omega) (by omega) (Nat.le_trans hszr hC.size) HTK.out
      obtain ⟨A7, c7, rfl⟩ := hv; (go_simp; refine hK _ ?_; clear hK K)
      repeat (refine wpX_quiet (by rfl) (by rfl) (by rfl) (fun K hK => ?_); go_big_quiet_op; refine hK _ ?_; clear hK K)
      refine wpX_loud (us := [1, 28]) (by rfl) (by rfl) (fun S wS hC hS hU => ?_) (fun v hv K hK => ?_)
      · have hB : BlkF g' 63 (lsaC L A k c A8 n2 c8) S wS := hU 1 (by simp)
        have hO : OwnF w4.heap.size 93 4 (k + 1) (LK (L.links.take (k + 1))) (.slice A7 (k + 1) c7) S wS := hU 28 (by simp)
        obtain ⟨hc, hf⟩ := blkF_cells hB
        have hO9 := ownsRow_kept hO.2 (Kept.setCell (S := fun b => b = g') (Kept.refl _ wS) (p := ⟨g', 5, none⟩) (.inl rfl) (.slice A7 (k + 1) c7)) (fun y hy => by have := (hO.2.lt y hy).1; omega)
        have hB9 := blk_set hB.2 5 (.slice A7 (k + 1) c7)
        simp at hB9
        exact runs_skip (by go_simp <;> rfl) ⟨trivial, (Kept.refl _ _).setCell (.inl hB.1) _, A7, c7, ⟨.inl hB.1, hB9⟩, ⟨fun y hy => .inl (hO.1 y hy), hO9⟩⟩
      (go_simp; refine hK _ ?_; clear hK K)
      refine wpX_nil fun w9 hsat => ?_
      obtain ⟨S, hS, hfin⟩ := sat_get hsat 30
      obtain ⟨A9, c9, hb9, ho9⟩ := (hfin : ∃ A1 c1, BlkF g' 63 (lsaC L A1 (k + 1) c1 A8 n2 c8) S w9 ∧ OwnF w4.heap.size 93 4 (k + 1) (LK (L.links.take (k + 1))) (.slice A1 (k + 1) c1) S w9)
      have hkp9 := hkp.then hsat.1 (fun b hb h => by
        rcases h with (h | h) | h
        · exact h.elim
        · exact h
        · have := (hown.lt _ h).1; omega)
      clear hsat hS z0 z1 z2 z3 z5
      go_wp2_with fail
      go_light
      exact ⟨⟨k + 1, A9, c9, by omega, by go_num, hb9.2, ho9.2, hkp9⟩, by simp [intOf]; omega⟩
    · obtain rfl : k = n1 := by omega
      have hrow' := ownsRow_kept hrow hkp (fun y hy => by have := own_ne_blk hrow hgl (by decide) y hy; omega)
      have hbrr := blk_kept hbr hkp (by omega)
      have hll := own_sl hownr
      rw [List.take_of_length_le (by rw [HLN.out]; omega)] at hll
      have hfr1 : FreshA (w.heap.size + 2) A := fun ad had => by have := freshA_own hownr ad had; omega
      have hfr2 : FreshA (w.heap.size + 2) A8 := fun ad had => by have := freshA_own hrow' ad had; omega
      obtain ⟨hcx, hfx⟩ := blk_cells hbxr
      obtain ⟨hc2, hf2⟩ := blk_cells hbrr
      obtain ⟨hc3, hf3⟩ := blk_cells hglr
      go_wp2_with fail
      refine ret_blk (v := .agg (lsaC L A k c A8 n2 c8)) (g := w.heap.size + 1) (T := 63) (cs := lsaC L A k c A8 n2 c8) (fun W hW => by obtain ⟨hc, hf⟩ := blk_cells hW; simp [results, Try.results27, go_sem, hc]) ?_ rfl ?_
      · simp [World.setCell, World.alloc, Array.getElem?_modify, Array.getElem?_push, hbrr, zeroL]
      · have hkz : ∀ W : World, Kept (fun b => b = w.heap.size + 1) wr W → ∃ B1 m1 d1 B2 m2 d2, Ending.returned (.agg (lsaC L A k c A8 n2 c8)) = .returned (.agg (lsaC L B1 m1 d1 B2 m2 d2)) ∧ IsLsa W L B1 m1 d1 B2 m2 d2 ∧ Below w.heap.size w W ∧ FreshA w.heap.size B1 ∧ FreshA w.heap.size B2 := fun W hW =>
          ⟨_, _, _, _, _, _, rfl, ⟨sl_kept hll hW (fun ad had => by have := hfr1 ad had; omega), sl_kept (own_sl hrow') hW (fun ad had => by have := hfr2 ad had; omega)⟩, hbw.trans (hW.below_of (by omega) (fun b hb => by omega)), fun ad had => by have := hfr1 ad had; omega, fun ad had => by have := hfr2 ad had; omega⟩
        refine hkz _ ?_
        repeat (first | with_reducible exact Kept.refl _ _ | (with_reducible refine Kept.setCell ?_ ?_ _; rotate_left; · exact Or.inl rfl))
set_option maxRecDepth 100000 in
set_option maxHeartbeats 3200000 in
theorem from1 (L : Lsa) (A1 : Option Addr) (n1 c1 : Nat) (A2 : Option Addr) (n2 c2 : Nat) (w : World) (h : IsLsa w L A1 n1 c1 A2 n2 c2) (hn1 : n1 * 24 ≤ 140737488355328) (hn2 : n2 * 4 ≤ 140737488355328) :
    Calls Try.prog 54 #[.agg (lsaC L A1 n1 c1 A2 n2 c2)] w fun e w' => ∃ B1 m1 d1 B2 m2 d2, e = .returned (.agg (lsaC L B1 m1 d1 B2 m2 d2)) ∧ IsLsa w' L B1 m1 d1 B2 m2 d2 ∧ Below w.heap.size w w' ∧ FreshA w.heap.size B1 ∧ FreshA w.heap.size B2 := by
  have hln := h.links.lenN.1
  rw [LK_length] at hln
  have hln' : L.links.length = n1 := by omega
  have HLN := hid hln'
  clear hln hln'
  go_enter Try.func54, Try.ntmps54
  go_wp2_with fail
  have hb0 := heap_alloc_new w (.cells (lsaC L A1 n1 c1 A2 n2 c2) 63)
  have hbb := (Below.refl w.heap.size w).alloc (Nat.le_refl _) (.cells (lsaC L A1 n1 c1 A2 n2 c2) 63)
  have hb1 := heap_alloc_new (w.alloc (.cells (lsaC L A1 n1 c1 A2 n2 c2) 63)) (.cells (lsaC zeroL none 0 0 none 0 0) 77)
  replace hb0 := blk_alloc hb0 (.cells (lsaC zeroL none 0 0 none 0 0) 77)
  replace hbb := hbb.alloc hbb.size (.cells (lsaC zeroL none 0 0 none 0 0) 77)
  have hs1 : ((w.alloc (.cells (lsaC L A1 n1 c1 A2 n2 c2) 63)).alloc (.cells (lsaC zeroL none 0 0 none 0 0) 77)).heap.size = w.heap.size + 2 := by simp
  rw [show (w.alloc (.cells (lsaC L A1 n1 c1 A2 n2 c2) 63)).heap.size = w.heap.size + 1 by simp] at hb1
  have hs1' := Nat.le_of_eq hs1.symm
  clear hs1
  have h1 := h.below hbb
  change Code.wp _ _ _ _ ((w.alloc (.cells (lsaC L A1 n1 c1 A2 n2 c2) 63)).alloc (.cells (lsaC zeroL none 0 0 none 0 0) 77))
  generalize (w.alloc (.cells (lsaC L A1 n1 c1 A2 n2 c2) 63)).alloc (.cells (lsaC zeroL none 0 0 none 0 0) 77) = w1 at *
  obtain ⟨hc, hf⟩ := blk_cells hb0
  have hcx : ∀ (z : WK (fun _ => False) w1) i, (wat z).cell? ⟨w.heap.size, i, none⟩ = (lsaC L A1 n1 c1 A2 n2 c2)[i]? := fun z i => (wat_cell (p := ⟨w.heap.size, i, none⟩) (by simp; omega) (by simp) z).trans (hc i)
  have hx0 := fun z => hcx z 0
  have hx1 := fun z => hcx z 1
  have hx2 := fun z => hcx z 2
  have hx3 := fun z => hcx z 3
  have hx4 := fun z => hcx z 4
  have hx6 := fun z => hcx z 6
  have hx7 := fun z => hcx z 7
  have hx8 := fun z => hcx z 8
  simp at hx0 hx1 hx2 hx3 hx4 hx6 hx7 hx8
  clear hcx hc hf
  refine wp_region_loud (fun _ => False)
    [(16, rowL [] w1.heap.size 22 1 0 []), (19, rowL [16] w1.heap.size 22 1 n2 (U32 L.routers)), (23, newL 77 (lsaC zeroL none 0 0 none 0 0)),
     (24, argL [19, 23] (fun _ _ => True) (fun xs _ S w' => ∃ g A c, xs = [.pointer (some ⟨g, 0, none⟩), .agg (lsaC L none 0 0 A n2 c)] ∧ BlkF g 77 (lsaC L none 0 0 A n2 c) S w' ∧ OwnF w1.heap.size 22 1 n2 (U32 L.routers) (.slice A n2 c) S w'))]
    (fun _ => Fact.none) (by kernel_rfl) (by kernel_rfl)
    (.cons (rowL_ok _ _ _ _ _ _) (.cons (rowL_ok _ _ _ _ _ _) (.cons (newL_ok _ _) (.cons (argL_ok (fun _ => ⟨undef, trivial⟩) (fun xs _ S S' w w' h1 h2 ⟨g, A, c, h0, h3, h4⟩ => ⟨g, A, c, h0, good_blk _ _ _ S S' w w' h1 h2 h3, good_own _ _ _ _ _ _ S S' w w' h1 h2 h4⟩)) .nil))))
    good_nothing sat_none ?_
  repeat (refine wpX_quiet (by rfl) (by rfl) (by rfl) (fun K hK => ?_); go_big_quiet_op; refine hK _ ?_; clear hK K)
  refine wpX_loud (us := []) (by rfl) (by rfl) (fun S wS hC hS hU => ?_) (fun v hv K hK => ?_)
  · exact runs_value (by go_simp <;> rfl) (made_x rfl hC.size (by rfl) (by rfl) (by omega) (by omega))
  obtain ⟨A6, c6, rfl⟩ := hv; (go_simp; refine hK _ ?_; clear hK K)
  repeat (refine wpX_quiet (by rfl) (by rfl) (by rfl) (fun K hK => ?_); go_big_quiet_op; refine hK _ ?_; clear hK K)
  refine wpX_loud (us := [16]) (by rfl) (by rfl) (fun S wS hC hS hU => ?_) (fun v hv K hK => ?_)
  · refine runs_mono (appS_x (zs := U32 L.routers) (.tmp 21) (.tmp 23) st_u32 (by rfl) (by rfl) (by rfl) (hU 16 (by simp)) (sl_kept h1.routers hC (by simp)) (U32_one _) (by simp [maxLen]; omega) (by omega) hC.size (by simp)) ?_
    intro v w' hL
    simp only [Nat.zero_add] at hL
    exact hL
  obtain ⟨A7, c7, rfl⟩ := hv; (go_simp; refine hK _ ?_; clear hK K)
  repeat (refine wpX_quiet (by rfl) (by rfl) (by rfl) (fun K hK => ?_); go_big_quiet_op; refine hK _ ?_; clear hK K)
  refine wpX_loud (us := []) (by rfl) (by rfl) (fun S wS hC hS hU => ?_) (fun v hv K hK => ?_)
  · exact runs_value (by go_simp <;> rfl) (newB_x rfl)
  obtain ⟨g, rfl⟩ := hv; (go_simp; refine hK _ ?_; clear hK K)
  repeat (refine wpX_quiet (by rfl) (by rfl) (by rfl) (fun K hK => ?_); go_big_quiet_op; refine hK _ ?_; clear hK K)
  refine wpX_loud (us := [19, 23]) (by rfl) (by rfl) (fun S wS hC hS hU => ?_) (fun v hv K hK => ?_)
  · have k19 : OwnF w1.heap.size 22 1 n2 (U32 L.routers) (.slice A7 n2 c7) S wS := hU 19 (by simp)
    obtain ⟨g', e1, k23, k24⟩ := (hU 23 (by simp) : NewB 77 (lsaC zeroL none 0 0 none 0 0) (.pointer (some ⟨g, 0, none⟩)) S wS)
    injection e1 with e1
    injection e1 with e1
    injection e1 with e1
    subst e1
    have hne := own_ne_blk k19.2 k24 (by decide)
    obtain ⟨hc, hf⟩ := blk_cells k24
    have hc0 := hc 0; have hc1 := hc 1; have hc2 := hc 2; have hc3 := hc 3; have hc4 := hc 4; have hc5 := hc 5; have hc6 := hc 6; have hc7 := hc 7; have hc8 := hc 8
    simp [zeroL] at hc0 hc1 hc2 hc3 hc4 hc5 hc6 hc7 hc8
    clear hc
    have h9 := blk_set (blk_set (blk_set (blk_set (blk_set (blk_set (blk_set (blk_set (blk_set k24 0 (.int .i64 L.age)) 1 (.int .i64 L.kty)) 2 (.int .u32 (L.kid : Int))) 3 (.int .u32 (L.kadv : Int))) 4 (.int .i64 L.seq)) 5 (.slice none 0 0)) 6 (.int .u32 (L.mask : Int))) 7 (.slice A7 n2 c7)) 8 (.int .i64 L.cost)
    simp at h9
    have hkk : ∀ W : World, Kept (fun b => b = g) wS W → OwnF w1.heap.size 22 1 n2 (U32 L.routers) (.slice A7 n2 c7) (fun b => S b ∨ (wS.heap.size ≤ b ∧ b < W.heap.size)) W := fun W hW => ⟨fun x hx => .inl (k19.1 x hx), ownsRow_kept k19.2 hW hne⟩
    refine runs_skip (by go_simp <;> rfl) ⟨trivial, ?_, g, A7, c7, rfl, ⟨.inl k23, h9⟩, hkk _ ?_⟩
    · repeat (first | with_reducible exact Kept.refl _ _ | (with_reducible refine Kept.setCell ?_ ?_ _; rotate_left; · exact Or.inl k23))
    · repeat (first | with_reducible exact Kept.refl _ _ | (with_reducible refine Kept.setCell ?_ ?_ _; rotate_left; · exact Or.inl rfl))
  (go_simp; refine hK _ ?_; clear hK K)
  refine wpX_nil fun w4 hsat => ?_
  obtain ⟨S, hS, hfin⟩ := sat_get hsat 24
  obtain ⟨g', A8, c8, hxs, hb4, ho4⟩ := (hfin : ∃ g' A c, [Value.pointer (some ⟨g, 0, none⟩), .agg (lsaC L none 0 0 A7 n2 c7)] = [.pointer (some ⟨g', 0, none⟩), .agg (lsaC L none 0 0 A n2 c)] ∧ BlkF g' 77 (lsaC L none 0 0 A n2 c) S w4 ∧ OwnF w1.heap.size 22 1 n2 (U32 L.routers) (.slice A n2 c) S w4)
  obtain rfl : g' = g := by
    injection hxs with e1 _
    injection e1 with e1
    injection e1 with e1
    injection e1 with e1
    exact e1.symm
  clear hxs
  have hgl := hb4.2
  have hg1 : w1.heap.size ≤ g' ∧ g' < w4.heap.size := by
    have := hS g' hb4.1
    rcases this with ⟨h1 | h1, h2⟩
    · exact h1.elim
    · exact ⟨h1, h2⟩
  have hrow := ho4.2
  have hb14 := sat_below hsat
  have hbb4 := hbb.trans (hb14.mono hbb.size)
  have h4 := h1.below hb14
  have hbx := blk_below hb0 hb14 (by omega)
  have hbr := blk_below hb1 hb14 (by omega)
  have hs4 := hb14.size
  clear hsat hS hb4 ho4 hb14 h1 h4 hb0 hb1 hbb hx0 hx1 hx2 hx3 hx4 hx6 hx7 hx8
  obtain ⟨hcx, hfx⟩ := blk_cells hbx
  go_wp2_with fail
  clear hcx hfx
  go_loopw [4] (fun i wr => ∃ (k : Nat) (A : Option Addr) (c : Nat), k ≤ n1 ∧ i = .int .i64 k ∧ wr.heap[g']? = some (.cells (lsaC L A k c A8 n2 c8) 77 (0, 0)) ∧ wr.ownsRow w4.heap.size 134 4 (.slice A k c) k (LK (L.links.take k)) ∧ Kept (fun b => b = g') w4 wr) (fun i _ => n1 - (intOf i).toNat)
  case atStart => exact ⟨0, none, 0, Nat.zero_le _, rfl, hgl, by simpa [LK] using World.ownsRow_nil _ _ _ _, Kept.refl _ _⟩
  case round =>
    obtain ⟨k, A, c, hk, rfl, hglr, hownr, hkp⟩ := hrel
    have hszr := hkp.size
    have hbxr := blk_kept hbx hkp (by omega)
    have hbw : Below w.heap.size w wr := hbb4.trans (hkp.below_of (B := w.heap.size) (by omega) (fun b hb => by omega))
    have hr := h.links.below hbw
    by_cases hlt : k < n1
    · obtain ⟨hcx, hfx⟩ := blk_cells hbxr
      obtain ⟨b, off, rfl, hbl', _, _, _, _⟩ := h.links.link hlt
      obtain ⟨_, _, e1, _, q0, q1, q2, q3⟩ := hr.link hlt
      injection e1 with e1
      injection e1 with e1 e2
      subst e1; subst e2
      have HTK := hid (LK_take_succ L.links k (by rw [HLN.out]; exact hlt))
      generalize linkAt L.links k = X at *
      go_wp2_with fail
      have hown := hownr
      have hgr : g' < wr.heap.size := by omega
      have hne1 : ∀ y : Nat, y < w.heap.size + 2 → ¬ ((False ∨ y = g') ∨ Value.ownBlock (.slice A k c) = some y) := fun y hy hh => by
        rcases hh with (hh | hh) | hh
        · exact hh
        · omega
        · have := (hown.lt _ hh).1; omega
      have hz : ∀ (z : WK (fun y => (False ∨ y = g') ∨ Value.ownBlock (.slice A k c) = some y) wr) y i, y < w.heap.size + 2 → (wat z).cell? ⟨y, i, none⟩ = wr.cell? ⟨y, i, none⟩ := fun z y i hy => wat_cell (p := ⟨y, i, none⟩) (by simp; omega) (hne1 y hy) z
      have z5 : ∀ z : WK (fun y => (False ∨ y = g') ∨ Value.ownBlock (.slice A k c) = some y) wr, (wat z).cell? ⟨w.heap.size, 5, none⟩ = some (.slice (some ⟨b, off, none⟩) n1 c1) := fun z => (hz z _ 5 (by omega)).trans (hcx 5)
      have z0 := fun z => (hz z b (off + k * 4) (by omega)).trans q0
      have z1 := fun z => (hz z b (off + k * 4 + 1) (by omega)).trans q1
      have z2 := fun z => (hz z b (off + k * 4 + 2) (by omega)).trans q2
      have z3 := fun z => (hz z b (off + k * 4 + 3) (by omega)).trans q3
      clear hz hne1 hcx hfx q0 q1 q2 q3
      have hX4 : Hid (LK [X] = [.int .u32 X.id, .int .u32 X.data, .int .i64 X.ty, .int .i64 X.cost]) := rfl
      have hd1 : ∀ y, Value.ownBlock (.slice A k c) = some y → (False ∨ y = g') → False := by
        rintro y h1 (h2 | h2)
        · exact h2
        · have := (hown.lt y h1).1; omega
      refine wp_region_loud (fun y => (False ∨ y = g') ∨ Value.ownBlock (.slice A k c) = some y)
        [(1, loadL [100] (.slice A k c) (BlkF g' 77 (lsaC L A k c A8 n2 c8))), (27, rowL [] w4.heap.size 134 4 1 (LK [X])), (28, rowL [101, 27] w4.heap.size 134 4 (k + 1) (LK (L.links.take (k + 1)))),
         (30, factL [1, 28] (fun _ => True) (fun _ S w' => ∃ A1 c1, BlkF g' 77 (lsaC L A1 (k + 1) c1 A8 n2 c8) S w' ∧ OwnF w4.heap.size 134 4 (k + 1) (LK (L.links.take (k + 1))) (.slice A1 (k + 1) c1) S w'))]
        (addL 101 (OwnF w4.heap.size 134 4 k (LK (L.links.take k)) (.slice A k c)) (addL 100 (BlkF g' 77 (lsaC L A k c A8 n2 c8)) (fun _ => Fact.none))) (by kernel_rfl) (by kernel_rfl)
        (.cons (loadL_ok _ _ (good_blk _ _ _)) (.cons (rowL_ok _ _ _ _ _ _) (.cons (rowL_ok _ _ _ _ _ _) (.cons (factL_ok ⟨undef, trivial⟩ (fun _ S S' w w' h1 h2 ⟨A', c', h3, h4⟩ => ⟨A', c', good_blk _ _ _ S S' w w' h1 h2 h3, good_own _ _ _ _ _ _ S S' w w' h1 h2 h4⟩)) .nil))))
        (good_add _ (good_own _ _ _ _ _ _) (good_add _ (good_blk _ _ _) good_nothing))
        (sat_add 101 (sat_add 100 sat_none (fun b _ h => h) (fun b (hb : b = g') => by omega) ⟨rfl, hglr⟩) hd1 (ownF_lt hown) (ownF_in hown)) ?_
      repeat (refine wpX_quiet (by rfl) (by rfl) (by rfl) (fun K hK => ?_); go_big_quiet_op; refine hK _ ?_; clear hK K)
      refine wpX_loud (us := [100]) (by rfl) (by rfl) (fun S wS hC hS hU => ?_) (fun v hv K hK => ?_)
      · obtain ⟨hc, hf⟩ := blkF_cells (hU 100 (by simp) : BlkF g' 77 (lsaC L A k c A8 n2 c8) S wS)
        exact load_x (by go_simp) (good_blk _ _ _) (hU 100 (by simp))
      obtain rfl := hv; (go_simp; refine hK _ ?_; clear hK K)
      repeat (refine wpX_quiet (by rfl) (by rfl) (by rfl) (fun K hK => ?_); go_big_quiet_op; refine hK _ ?_; clear hK K)
      refine wpX_loud (us := []) (by rfl) (by rfl) (fun S wS hC hS hU => ?_) (fun v hv K hK => ?_)
      · exact runs_value (by go_simp <;> rfl) (made_x rfl (Nat.le_trans hszr hC.size) (by rw [hX4.out]) (by rfl) (by omega) (by omega))
      obtain ⟨A6, c6, rfl⟩ := hv; (go_simp; refine hK _ ?_; clear hK K)
      repeat (refine wpX_quiet (by rfl) (by rfl) (by rfl) (fun K hK => ?_); go_big_quiet_op; refine hK _ ?_; clear hK K)
      refine wpX_loud (us := [101, 27]) (by rfl) (by rfl) (fun S wS hC hS hU => ?_) (fun v hv K hK => ?_)
      · exact appS_x (.tmp 36) (.tmp 62) st_rlinks (by rfl) (by rfl) (by rfl) (hU 101 (by simp)) (own_sl (hU 27 (by simp)).2) (LK_one _) (by simp [maxLen]; omega) (by omega) (Nat.le_trans hszr hC.size) HTK.out
      obtain ⟨A7, c7, rfl⟩ := hv; (go_simp; refine hK _ ?_; clear hK K)
      repeat (refine wpX_quiet (by rfl) (by rfl) (by rfl) (fun K hK => ?_); go_big_quiet_op; refine hK _ ?_; clear hK K)
      refine wpX_loud (us := [1, 28]) (by rfl) (by rfl) (fun S wS hC hS hU => ?_) (fun v hv K hK => ?_)
      · have hB : BlkF g' 77 (lsaC L A k c A8 n2 c8) S wS := hU 1 (by simp)
        have hO : OwnF w4.heap.size 134 4 (k + 1) (LK (L.links.take (k + 1))) (.slice A7 (k + 1) c7) S wS := hU 28 (by simp)
        obtain ⟨hc, hf⟩ := blkF_cells hB
        have hO9 := ownsRow_kept hO.2 (Kept.setCell (S := fun b => b = g') (Kept.refl _ wS) (p := ⟨g', 5, none⟩) (.inl rfl) (.slice A7 (k + 1) c7)) (fun y hy => by have := (hO.2.lt y hy).1; omega)
        have hB9 := blk_set hB.2 5 (.slice A7 (k + 1) c7)
        simp at hB9
        exact runs_skip (by go_simp <;> rfl) ⟨trivial, (Kept.refl _ _).setCell (.inl hB.1) _, A7, c7, ⟨.inl hB.1, hB9⟩, ⟨fun y hy => .inl (hO.1 y hy), hO9⟩⟩
      (go_simp; refine hK _ ?_; clear hK K)
      refine wpX_nil fun w9 hsat => ?_
      obtain ⟨S, hS, hfin⟩ := sat_get hsat 30
      obtain ⟨A9, c9, hb9, ho9⟩ := (hfin : ∃ A1 c1, BlkF g' 77 (lsaC L A1 (k + 1) c1 A8 n2 c8) S w9 ∧ OwnF w4.heap.size 134 4 (k + 1) (LK (L.links.take (k + 1))) (.slice A1 (k + 1) c1) S w9)
      have hkp9 := hkp.then hsat.1 (fun b hb h => by
        rcases h with (h | h) | h
        · exact h.elim
        · exact h
        · have := (hown.lt _ h).1; omega)
      clear hsat hS z0 z1 z2 z3 z5
      go_wp2_with fail
      go_light
      exact ⟨⟨k + 1, A9, c9, by omega, by go_num, hb9.2, ho9.2, hkp9⟩, by simp [intOf]; omega⟩
    · obtain rfl : k = n1 := by omega
      have hrow' := ownsRow_kept hrow hkp (fun y hy => by have := own_ne_blk hrow hgl (by decide) y hy; omega)
      have hbrr := blk_kept hbr hkp (by omega)
      have hll := own_sl hownr
      rw [List.take_of_length_le (by rw [HLN.out]; omega)] at hll
      have hfr1 : FreshA (w.heap.size + 2) A := fun ad had => by have := freshA_own hownr ad had; omega
      have hfr2 : FreshA (w.heap.size + 2) A8 := fun ad had => by have := freshA_own hrow' ad had; omega
      obtain ⟨hcx, hfx⟩ := blk_cells hbxr
      obtain ⟨hc2, hf2⟩ := blk_cells hbrr
      obtain ⟨hc3, hf3⟩ := blk_cells hglr
      go_wp2_with fail
      refine ret_blk (v := .agg (lsaC L A k c A8 n2 c8)) (g := w.heap.size + 1) (T := 77) (cs := lsaC L A k c A8 n2 c8) (fun W hW => by obtain ⟨hc, hf⟩ := blk_cells hW; simp [results, Try.results54, go_sem, hc]) ?_ rfl ?_
      · simp [World.setCell, World.alloc, Array.getElem?_modify, Array.getElem?_push, hbrr, zeroL]
      · have hkz : ∀ W : World, Kept (fun b => b = w.heap.size + 1) wr W → ∃ B1 m1 d1 B2 m2 d2, Ending.returned (.agg (lsaC L A k c A8 n2 c8)) = .returned (.agg (lsaC L B1 m1 d1 B2 m2 d2)) ∧ IsLsa W L B1 m1 d1 B2 m2 d2 ∧ Below w.heap.size w W ∧ FreshA w.heap.size B1 ∧ FreshA w.heap.size B2 := fun W hW =>
          ⟨_, _, _, _, _, _, rfl, ⟨sl_kept hll hW (fun ad had => by have := hfr1 ad had; omega), sl_kept (own_sl hrow') hW (fun ad had => by have := hfr2 ad had; omega)⟩, hbw.trans (hW.below_of (by omega) (fun b hb => by omega)), fun ad had => by have := hfr1 ad had; omega, fun ad had => by have := hfr2 ad had; omega⟩
        refine hkz _ ?_
        repeat (first | with_reducible exact Kept.refl _ _ | (with_reducible refine Kept.setCell ?_ ?_ _; rotate_left; · exact Or.inl rfl))
end Go.Proofs.Ytgopkpogakjckaa
