/-
  Contracts: elect's pass and Stable.
-/
import Derived.Test.YtaajhkdifliblaaEl5
namespace Go.Proofs.Ytaajhkdifliblaa
set_option linter.unusedVariables false
set_option linter.unusedSimpArgs false
open Go Go.RowKit EL

theorem sl_subV {w : World} {b off n c : Nat} {l : List Vot} (h : Sl w 5 (.slice (some ⟨b, off, none⟩) n c) (VS l)) (i m : Nat) (hm : i + m ≤ n) :
    Sl w 5 (.slice (some ⟨b, off + i * 5, none⟩) m (c - i)) (VS ((l.drop i).take m)) := by
  have hll := h.lenV
  obtain ⟨A', n', c', he, hl, hnc, hcm, hr⟩ := h
  injection he with e1 e2 e3
  subst e1; subst e2; subst e3
  refine ⟨_, _, _, rfl, by rw [VS_length, List.length_take, List.length_drop]; omega, by omega, by simp only [maxLen] at *; omega, fun h0 => ?_⟩
  obtain ⟨b', off', hbo, hlt, hc⟩ := hr (by omega)
  injection hbo with hbo
  injection hbo with e1 e2
  subst e1; subst e2
  refine ⟨b, off + i * 5, rfl, hlt, fun j hj => ?_⟩
  rw [Nat.add_assoc, hc (i * 5 + j) (by omega), ← VS_take, ← VS_drop, List.getElem?_take, if_pos hj, List.getElem?_drop]
theorem sl_zero (w : World) (size : Nat) (A : Option Addr) (c : Nat) (hc : c ≤ 9223372036854775807) : Sl w size (.slice A 0 c) [] := ⟨A, 0, c, rfl, by simp, Nat.zero_le _, by simpa [maxLen] using hc, fun h => absurd h (by omega)⟩

theorem sl_zeroV (w : World) (A : Option Addr) (n c : Nat) (l : List Vot) (hn : n = 0) (hc : c ≤ 9223372036854775807) : Sl w 5 (.slice A n c) (VS (l.take n)) := by
  subst hn
  exact sl_zero w 5 A c hc

set_option maxRecDepth 100000 in
set_option maxHeartbeats 3200000 in
theorem pass_any (base g n c : Nat) (l : List Vot) (w : World) (h : w.ownsRow base 50 5 (.slice (some ⟨g, 0, none⟩) n c) n (VS l)) (hn : 0 < n) (hm : n ≤ 300) :
    Calls Try.prog 70 #[.slice (some ⟨g, 0, none⟩) n c] w fun e w' => e = .returned (.bool (passTo l n).2) ∧
      w'.ownsRow base 50 5 (.slice (some ⟨g, 0, none⟩) n c) n (VS (passTo l n).1) ∧ Kept (fun b => b = g) w w' := by
  have LL := hid (own_sl h).lenV.1
  have hcap := (own_sl h).lenV.2
  have hgb := h.lt g rfl
  go_enter Try.func70, Try.ntmps70
  go_wp2_with fail
  go_loopw [3, 11] (fun ch i wr => ∃ k : Nat, k ≤ n ∧ i = .int .i64 k ∧ ch = .bool (passTo l k).2 ∧ wr.ownsRow base 50 5 (.slice (some ⟨g, 0, none⟩) n c) n (VS (passTo l k).1) ∧ Kept (fun b => b = g) w wr) (fun _ i _ => n - (intOf i).toNat)
  case atStart => exact ⟨0, Nat.zero_le _, rfl, rfl, h, Kept.refl _ _⟩
  case round =>
    obtain ⟨k, hk, rfl, rfl, hown, hkr⟩ := hrel
    by_cases hlt : k < n
    · have HL : Hid ((passTo l k).1.length = n) := by show _ = _; rw [passTo_length, LL.out]
      have HP : Hid (passTo l (k + 1) = ((passTo l k).1.set k (named (votAt (passTo l k).1 k) (electV (others (passTo l k).1 k)).1 (electV (others (passTo l k).1 k)).2),
          (passTo l k).2 || (decide ((votAt (passTo l k).1 k).dr ≠ (electV (others (passTo l k).1 k)).1) || decide ((votAt (passTo l k).1 k).bdr ≠ (electV (others (passTo l k).1 k)).2)))) := rfl
      generalize passTo l k = s at *
      obtain ⟨l', ch⟩ := s
      simp only at hown HL HP
      have hsl := own_sl hown
      obtain ⟨b', off', hbo, hbl', q0, q1, q2, q3, q4⟩ := hsl.vot hlt
      injection hbo with hbo
      injection hbo with e1 e2
      subst e1; subst e2
      simp only [Nat.zero_add] at q0 q1 q2 q3 q4
      generalize hv0 : votAt l' k = v at *
      have HVV := hid hv0
      clear hv0
      have hcap1 := hcap.1
      have hcap2 := hcap.2
      by_cases hck : c = k + 1
      · obtain ⟨c, rfl⟩ : ∃ c', c' = c := ⟨c, rfl⟩
        subst hck
        go_wp2_with fail
        refine wp_region_loud (fun _ => False)
          [(12, rowL [] wr.heap.size 47 1 3 [.slice (some ⟨g, k * 5, none⟩) 1 (k + 1 - k), .slice (some ⟨g, 0, none⟩) k (k + 1), .slice (some ⟨g, 0, none⟩) (n - (k + 1)) (k + 1 - (k + 1))]),
           (13, rowL [12] wr.heap.size 50 5 n (VS (others l' k)))]
          (fun _ => Fact.none) (by kernel_rfl) (by kernel_rfl) (.cons (rowL_ok _ _ _ _ _ _) (.cons (rowL_ok _ _ _ _ _ _) .nil)) good_nothing sat_none (WX.out ?_)
        repeat (first | (refine wx_quietU (by rfl) (by rfl) (by rfl) (fun K hK => ?_); go_big_quiet_op; refine hK _ ?_; clear hK K) | (refine wx_quietG (by rfl) (by rfl) (by rfl) (by rfl) (by rfl) (fun K hK => ?_); go_big_quiet_op; refine hK _ ?_; clear hK K) | (refine wx_skipG (by rfl) (by rfl) (by rfl) (fun K hK => ?_); go_simp; refine hK _ ?_; clear hK K) | (refine wx_skipN (by rfl) (by rfl) (by rfl) (fun K hK => ?_); go_simp; refine hK _ ?_; clear hK K))
        refine wx_loudU (us := []) (by rfl) (by rfl) (fun S wS hC hS hU => ?_) (fun v hv K hK => ?_)
        · refine runs_value (by go_simp <;> rfl) (made_x rfl (by have := hC.size; simp at this; omega) ?_ (by simp) (by omega) (by omega))
          first | (simp; done) | (simp; omega)
        obtain ⟨A8, c8, rfl⟩ := hv; (go_simp; refine hK _ ?_; clear hK K)
        repeat (first | (refine wx_quietU (by rfl) (by rfl) (by rfl) (fun K hK => ?_); go_big_quiet_op; refine hK _ ?_; clear hK K) | (refine wx_quietG (by rfl) (by rfl) (by rfl) (by rfl) (by rfl) (fun K hK => ?_); go_big_quiet_op; refine hK _ ?_; clear hK K) | (refine wx_skipG (by rfl) (by rfl) (by rfl) (fun K hK => ?_); go_simp; refine hK _ ?_; clear hK K) | (refine wx_skipN (by rfl) (by rfl) (by rfl) (fun K hK => ?_); go_simp; refine hK _ ?_; clear hK K))
        refine wx_loudU (us := [12]) (by rfl) (by rfl) (fun S wS hC hS hU => runs_enter (f := 91) (by go_simp <;> rfl) ?_) (fun v hv K hK => ?_)
        · have k12 : OwnF wr.heap.size 47 1 3 [.slice (some ⟨g, k * 5, none⟩) 1 (k + 1 - k), .slice (some ⟨g, 0, none⟩) k (k + 1), .slice (some ⟨g, 0, none⟩) (n - (k + 1)) (k + 1 - (k + 1))] (.slice A8 3 c8) S wS := hU 12 (by simp)
          have hS : Sl wS 5 (.slice (some ⟨g, 0, none⟩) n (k + 1)) (VS l') := (hsl.alloc _).below hC.below
          have s1 := sl_subV hS k 1 (by omega)
          have s2 := sl_subV hS 0 k (by omega)
          have s3 : Sl wS 5 (.slice (some ⟨g, 0, none⟩) (n - (k + 1)) (k + 1 - (k + 1))) (VS ((l'.drop (k + 1)).take (n - (k + 1)))) := sl_zeroV wS _ (n - (k + 1)) _ _ (by omega) (by omega)
          simp only [Nat.zero_add, Nat.zero_mul, Nat.sub_zero, List.drop_zero] at s1 s2
          refine (concat3_any A8 _ _ _ c8 1 (k + 1 - k) k (k + 1) (n - (k + 1)) (k + 1 - (k + 1)) _ _ _ wS (own_sl k12.2) s1 s2 s3 (by omega) (by omega)).mono ?_
          rintro e w' ⟨g', c', rfl, o1, o2⟩
          have e9 : 1 + k + (n - (k + 1)) = n := by omega
          rw [e9] at o1
          rw [e9]
          rw [List.take_of_length_le (by rw [List.length_drop, HL.out]; omega) (l := l'.drop (k + 1))] at o1
          exact ⟨_, rfl, ⟨_, _, rfl⟩, Kept.of_below o2, own_fresh o1 (by have := hC.size; simp at this; omega)⟩
        obtain ⟨A9, c9, rfl⟩ := hv; (go_simp; refine hK _ ?_; clear hK K)
        repeat (first | (refine wx_quietU (by rfl) (by rfl) (by rfl) (fun K hK => ?_); go_big_quiet_op; refine hK _ ?_; clear hK K) | (refine wx_quietG (by rfl) (by rfl) (by rfl) (by rfl) (by rfl) (fun K hK => ?_); go_big_quiet_op; refine hK _ ?_; clear hK K) | (refine wx_skipG (by rfl) (by rfl) (by rfl) (fun K hK => ?_); go_simp; refine hK _ ?_; clear hK K) | (refine wx_skipN (by rfl) (by rfl) (by rfl) (fun K hK => ?_); go_simp; refine hK _ ?_; clear hK K))
        refine wx_nil fun w5 hsat => ?_
        have hb5 := sat_below hsat
        have hrow := sat_row hsat 13 rfl
        have hb5r : Below wr.heap.size wr w5 := ((Below.refl wr.heap.size wr).alloc (Nat.le_refl _) _).trans (hb5.mono (by simp))
        have hB5 := blk_below (heap_alloc_new wr (.cells (vC v) 50)) hb5 (by simp)
        clear hsat hb5
        go_wp2_with fail
        refine (elect_any A9 n c9 (others l' k) w5 (own_sl hrow) (by omega)).mono ?_
        rintro e w6 ⟨rfl, hb6⟩
        have hown6 := own_below hown (hb5r.trans (hb6.mono hb5r.size))
        have hk5 : Kept (fun b => b = g) w w5 := hkr.then (S' := fun _ => False) (Kept.of_below hb5r) (fun b _ hs => hs.elim)
        have hk6 : Kept (fun b => b = g) w w6 := hk5.then (S' := fun _ => False) (Kept.of_below hb6) (fun b _ hs => hs.elim)
        clear hk5
        have hB6 := blk_below hB5 hb6 (Array.getElem?_eq_some_iff.1 hB5).1
        generalize electV (others l' k) = r at *
        obtain ⟨x, y⟩ := r
        obtain ⟨hc6, _⟩ := blk_cells hB6
        have f3 := hown6.frozenAt (k * 5 + 3)
        have f4 := hown6.frozenAt (k * 5 + 4)
        obtain ⟨v3, k3⟩ : ∃ u, w6.cell? ⟨g, k * 5 + 3, none⟩ = some u := ⟨_, (own_cell hown6 (k * 5 + 3) (by omega)).1.trans (List.getElem?_eq_getElem (by rw [hown6.1]; omega))⟩
        obtain ⟨v4, k4⟩ : ∃ u, w6.cell? ⟨g, k * 5 + 4, none⟩ = some u := ⟨_, (own_cell hown6 (k * 5 + 4) (by omega)).1.trans (List.getElem?_eq_getElem (by rw [hown6.1]; omega))⟩
        have hown7 := ((hown6.stored (k * 5 + 3) (.int .u32 x)).1.stored (k * 5 + 4) (.int .u32 y)).1
        rw [VS_named l' k x y (by rw [HL.out]; exact hlt), HVV.out] at hown7
        have hk7 := (hk6.setCell (p := ⟨g, k * 5 + 3, none⟩) (.inl rfl) (.int .u32 x)).setCell (p := ⟨g, k * 5 + 4, none⟩) (.inl rfl) (.int .u32 y)
        clear hown6 hk6 hb5r hb6 hrow hB5 hB6 q0 q1 q2 q3 q4 hown hkr hsl
        obtain ⟨id, ad, pr, dr, bd⟩ := v
        generalize wr.heap.size = g5 at *
        cases ch with
        | true =>
          go_wp2_with fail
          go_light
          exact ⟨⟨k + 1, by omega, by go_num, by rw [HP.out]; simp_all, by rw [HP.out]; exact hown7, hk7⟩, by simp [intOf]; omega⟩
        | false =>
          by_cases h3 : dr = x
          · have t3 : (dr != x) = false := by simp [h3]
            by_cases h4 : bd = y
            · have t4 : (bd != y) = false := by simp [h4]
              go_wp2_with fail
              go_light
              exact ⟨⟨k + 1, by omega, by go_num, by rw [HP.out]; simp_all, by rw [HP.out]; exact hown7, hk7⟩, by simp [intOf]; omega⟩
            · have t4 : (bd != y) = true := by simp [h4]
              go_wp2_with fail
              go_light
              exact ⟨⟨k + 1, by omega, by go_num, by rw [HP.out]; simp_all, by rw [HP.out]; exact hown7, hk7⟩, by simp [intOf]; omega⟩
          · have t3 : (dr != x) = true := by simp [h3]
            go_wp2_with fail
            go_light
            exact ⟨⟨k + 1, by omega, by go_num, by rw [HP.out]; simp_all, by rw [HP.out]; exact hown7, hk7⟩, by simp [intOf]; omega⟩
      · go_wp2_with fail
        refine wp_region_loud (fun _ => False)
          [(12, rowL [] wr.heap.size 47 1 3 [.slice (some ⟨g, k * 5, none⟩) 1 (c - k), .slice (some ⟨g, 0, none⟩) k (c), .slice (some ⟨g, (k + 1) * 5, none⟩) (n - (k + 1)) (c - (k + 1))]),
           (13, rowL [12] wr.heap.size 50 5 n (VS (others l' k)))]
          (fun _ => Fact.none) (by kernel_rfl) (by kernel_rfl) (.cons (rowL_ok _ _ _ _ _ _) (.cons (rowL_ok _ _ _ _ _ _) .nil)) good_nothing sat_none (WX.out ?_)
        repeat (first | (refine wx_quietU (by rfl) (by rfl) (by rfl) (fun K hK => ?_); go_big_quiet_op; refine hK _ ?_; clear hK K) | (refine wx_quietG (by rfl) (by rfl) (by rfl) (by rfl) (by rfl) (fun K hK => ?_); go_big_quiet_op; refine hK _ ?_; clear hK K) | (refine wx_skipG (by rfl) (by rfl) (by rfl) (fun K hK => ?_); go_simp; refine hK _ ?_; clear hK K) | (refine wx_skipN (by rfl) (by rfl) (by rfl) (fun K hK => ?_); go_simp; refine hK _ ?_; clear hK K))
        refine wx_loudU (us := []) (by rfl) (by rfl) (fun S wS hC hS hU => ?_) (fun v hv K hK => ?_)
        · refine runs_value (by go_simp <;> rfl) (made_x rfl (by have := hC.size; simp at this; omega) ?_ (by simp) (by omega) (by omega))
          first | (simp; done) | (simp; omega)
        obtain ⟨A8, c8, rfl⟩ := hv; (go_simp; refine hK _ ?_; clear hK K)
        repeat (first | (refine wx_quietU (by rfl) (by rfl) (by rfl) (fun K hK => ?_); go_big_quiet_op; refine hK _ ?_; clear hK K) | (refine wx_quietG (by rfl) (by rfl) (by rfl) (by rfl) (by rfl) (fun K hK => ?_); go_big_quiet_op; refine hK _ ?_; clear hK K) | (refine wx_skipG (by rfl) (by rfl) (by rfl) (fun K hK => ?_); go_simp; refine hK _ ?_; clear hK K) | (refine wx_skipN (by rfl) (by rfl) (by rfl) (fun K hK => ?_); go_simp; refine hK _ ?_; clear hK K))
        refine wx_loudU (us := [12]) (by rfl) (by rfl) (fun S wS hC hS hU => runs_enter (f := 91) (by go_simp <;> rfl) ?_) (fun v hv K hK => ?_)
        · have k12 : OwnF wr.heap.size 47 1 3 [.slice (some ⟨g, k * 5, none⟩) 1 (c - k), .slice (some ⟨g, 0, none⟩) k (c), .slice (some ⟨g, (k + 1) * 5, none⟩) (n - (k + 1)) (c - (k + 1))] (.slice A8 3 c8) S wS := hU 12 (by simp)
          have hS : Sl wS 5 (.slice (some ⟨g, 0, none⟩) n (c)) (VS l') := (hsl.alloc _).below hC.below
          have s1 := sl_subV hS k 1 (by omega)
          have s2 := sl_subV hS 0 k (by omega)
          have s3 : Sl wS 5 (.slice (some ⟨g, (k + 1) * 5, none⟩) (n - (k + 1)) (c - (k + 1))) (VS ((l'.drop (k + 1)).take (n - (k + 1)))) := (by simpa only [Nat.zero_add] using sl_subV hS (k + 1) (n - (k + 1)) (by omega))
          simp only [Nat.zero_add, Nat.zero_mul, Nat.sub_zero, List.drop_zero] at s1 s2
          refine (concat3_any A8 _ _ _ c8 1 (c - k) k (c) (n - (k + 1)) (c - (k + 1)) _ _ _ wS (own_sl k12.2) s1 s2 s3 (by omega) (by omega)).mono ?_
          rintro e w' ⟨g', c', rfl, o1, o2⟩
          have e9 : 1 + k + (n - (k + 1)) = n := by omega
          rw [e9] at o1
          rw [e9]
          rw [List.take_of_length_le (by rw [List.length_drop, HL.out]; omega) (l := l'.drop (k + 1))] at o1
          exact ⟨_, rfl, ⟨_, _, rfl⟩, Kept.of_below o2, own_fresh o1 (by have := hC.size; simp at this; omega)⟩
        obtain ⟨A9, c9, rfl⟩ := hv; (go_simp; refine hK _ ?_; clear hK K)
        repeat (first | (refine wx_quietU (by rfl) (by rfl) (by rfl) (fun K hK => ?_); go_big_quiet_op; refine hK _ ?_; clear hK K) | (refine wx_quietG (by rfl) (by rfl) (by rfl) (by rfl) (by rfl) (fun K hK => ?_); go_big_quiet_op; refine hK _ ?_; clear hK K) | (refine wx_skipG (by rfl) (by rfl) (by rfl) (fun K hK => ?_); go_simp; refine hK _ ?_; clear hK K) | (refine wx_skipN (by rfl) (by rfl) (by rfl) (fun K hK => ?_); go_simp; refine hK _ ?_; clear hK K))
        refine wx_nil fun w5 hsat => ?_
        have hb5 := sat_below hsat
        have hrow := sat_row hsat 13 rfl
        have hb5r : Below wr.heap.size wr w5 := ((Below.refl wr.heap.size wr).alloc (Nat.le_refl _) _).trans (hb5.mono (by simp))
        have hB5 := blk_below (heap_alloc_new wr (.cells (vC v) 50)) hb5 (by simp)
        clear hsat hb5
        go_wp2_with fail
        refine (elect_any A9 n c9 (others l' k) w5 (own_sl hrow) (by omega)).mono ?_
        rintro e w6 ⟨rfl, hb6⟩
        have hown6 := own_below hown (hb5r.trans (hb6.mono hb5r.size))
        have hk5 : Kept (fun b => b = g) w w5 := hkr.then (S' := fun _ => False) (Kept.of_below hb5r) (fun b _ hs => hs.elim)
        have hk6 : Kept (fun b => b = g) w w6 := hk5.then (S' := fun _ => False) (Kept.of_below hb6) (fun b _ hs => hs.elim)
        clear hk5
        have hB6 := blk_below hB5 hb6 (Array.getElem?_eq_some_iff.1 hB5).1
        generalize electV (others l' k) = r at *
        obtain ⟨x, y⟩ := r
        obtain ⟨hc6, _⟩ := blk_cells hB6
        have f3 := hown6.frozenAt (k * 5 + 3)
        have f4 := hown6.frozenAt (k * 5 + 4)
        obtain ⟨v3, k3⟩ : ∃ u, w6.cell? ⟨g, k * 5 + 3, none⟩ = some u := ⟨_, (own_cell hown6 (k * 5 + 3) (by omega)).1.trans (List.getElem?_eq_getElem (by rw [hown6.1]; omega))⟩
        obtain ⟨v4, k4⟩ : ∃ u, w6.cell? ⟨g, k * 5 + 4, none⟩ = some u := ⟨_, (own_cell hown6 (k * 5 + 4) (by omega)).1.trans (List.getElem?_eq_getElem (by rw [hown6.1]; omega))⟩
        have hown7 := ((hown6.stored (k * 5 + 3) (.int .u32 x)).1.stored (k * 5 + 4) (.int .u32 y)).1
        rw [VS_named l' k x y (by rw [HL.out]; exact hlt), HVV.out] at hown7
        have hk7 := (hk6.setCell (p := ⟨g, k * 5 + 3, none⟩) (.inl rfl) (.int .u32 x)).setCell (p := ⟨g, k * 5 + 4, none⟩) (.inl rfl) (.int .u32 y)
        clear hown6 hk6 hb5r hb6 hrow hB5 hB6 q0 q1 q2 q3 q4 hown hkr hsl
        obtain ⟨id, ad, pr, dr, bd⟩ := v
        generalize wr.heap.size = g5 at *
        cases ch with
        | true =>
          go_wp2_with fail
          go_light
          exact ⟨⟨k + 1, by omega, by go_num, by rw [HP.out]; simp_all, by rw [HP.out]; exact hown7, hk7⟩, by simp [intOf]; omega⟩
        | false =>
          by_cases h3 : dr = x
          · have t3 : (dr != x) = false := by simp [h3]
            by_cases h4 : bd = y
            · have t4 : (bd != y) = false := by simp [h4]
              go_wp2_with fail
              go_light
              exact ⟨⟨k + 1, by omega, by go_num, by rw [HP.out]; simp_all, by rw [HP.out]; exact hown7, hk7⟩, by simp [intOf]; omega⟩
            · have t4 : (bd != y) = true := by simp [h4]
              go_wp2_with fail
              go_light
              exact ⟨⟨k + 1, by omega, by go_num, by rw [HP.out]; simp_all, by rw [HP.out]; exact hown7, hk7⟩, by simp [intOf]; omega⟩
          · have t3 : (dr != x) = true := by simp [h3]
            go_wp2_with fail
            go_light
            exact ⟨⟨k + 1, by omega, by go_num, by rw [HP.out]; simp_all, by rw [HP.out]; exact hown7, hk7⟩, by simp [intOf]; omega⟩
    · obtain rfl : k = n := by omega
      go_wp2_with fail
      go_ret
      exact ⟨rfl, hown, hkr⟩
end Go.Proofs.Ytaajhkdifliblaa
