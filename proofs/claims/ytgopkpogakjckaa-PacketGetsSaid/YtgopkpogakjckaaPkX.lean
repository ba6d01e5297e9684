/-
  The contract of the reference's Fix (layer 11).
-/
import Derived.Test.YtgopkpogakjckaaPk8
namespace Go.Proofs.Ytgopkpogakjckaa
set_option linter.unusedVariables false
set_option linter.unusedSimpArgs false
open Go Go.RowKit SM LM PK

set_option maxRecDepth 100000 in
set_option maxHeartbeats 3200000 in
theorem refFix_any (A : Option Addr) (n c : Nat) (l : List UInt8) (w : World) (h : Sl w 1 (.slice A n c) (B8 l)) (hn : 24 ≤ n) (hm : n ≤ 1000000) :
    Calls Try.prog 16 #[.slice A n c] w fun e w' => ∃ A' c', e = .returned (.slice A' n c') ∧ w'.ownsRow w.heap.size 5 1 (.slice A' n c') n (B8 (fixP l)) ∧ Below w.heap.size w w' := by
  obtain ⟨hl1, hl2, hl3⟩ := h.len
  have HL := hid hl1
  clear hl1
  obtain ⟨sm, hsm⟩ : ∃ sm, sm = sumP l := ⟨_, rfl⟩
  have hsb : sm < 65536 := by rw [hsm]; have := inet_le (sumL l); unfold sumP; omega
  have HSP : Hid (sumP l = sm) := hsm.symm
  clear hsm
  obtain ⟨b, off, rfl, hbl, _⟩ := h.byte (k := 0) (by omega)
  have h1 := h.take 16 (by omega)
  by_cases hc : c = 24
  · subst hc
    obtain rfl : n = 24 := by omega
    have h2 : Sl w 1 (.slice (some ⟨b, off, none⟩) 0 0) (B8 (l.drop 24)) := by
      have hz : l.drop 24 = [] := List.eq_nil_of_length_eq_zero (by rw [List.length_drop, HL.out])
      rw [hz]
      exact ⟨_, _, _, rfl, rfl, Nat.le_refl _, by simp [maxLen], fun h => absurd h (by omega)⟩
    go_enter Try.func16, Try.ntmps16
    go_upto_region 1 with fail
    refine wp_region_loud (fun _ => False)
      [(0, rowL [] w.heap.size 5 1 0 []), (3, rowL [0] w.heap.size 5 1 16 (B8 (l.take 16))), (6, rowL [3] w.heap.size 5 1 (16 + 0) (B8 (l.take 16 ++ l.drop 24)))]
      (fun _ => Fact.none) (by kernel_rfl) (by kernel_rfl) (.cons (rowL_ok _ _ _ _ _ _) (.cons (rowL_ok _ _ _ _ _ _) (.cons (rowL_ok _ _ _ _ _ _) .nil))) good_nothing sat_none (WX.out ?_)
    repeat (first | (refine wx_quietU (by rfl) (by rfl) (by rfl) (fun K hK => ?_); go_big_quiet_op; refine hK _ ?_; clear hK K) | (refine wx_quietG (by rfl) (by rfl) (by rfl) (by rfl) (by rfl) (fun K hK => ?_); go_big_quiet_op; refine hK _ ?_; clear hK K) | (refine wx_skipG (by rfl) (by rfl) (by rfl) (fun K hK => ?_); go_simp; refine hK _ ?_; clear hK K) | (refine wx_skipN (by rfl) (by rfl) (by rfl) (fun K hK => ?_); go_simp; refine hK _ ?_; clear hK K))
    refine wx_loudU (us := []) (by rfl) (by rfl) (fun S wS hC hS hU => ?_) (fun v hv K hK => ?_)
    · exact runs_value (by go_simp <;> rfl) (made_x rfl hC.size (by rfl) (by rfl) (by omega) (by omega))
    obtain ⟨A4, c4, rfl⟩ := hv; (go_simp; refine hK _ ?_; clear hK K)
    repeat (first | (refine wx_quietU (by rfl) (by rfl) (by rfl) (fun K hK => ?_); go_big_quiet_op; refine hK _ ?_; clear hK K) | (refine wx_quietG (by rfl) (by rfl) (by rfl) (by rfl) (by rfl) (fun K hK => ?_); go_big_quiet_op; refine hK _ ?_; clear hK K) | (refine wx_skipG (by rfl) (by rfl) (by rfl) (fun K hK => ?_); go_simp; refine hK _ ?_; clear hK K) | (refine wx_skipN (by rfl) (by rfl) (by rfl) (fun K hK => ?_); go_simp; refine hK _ ?_; clear hK K))
    refine wx_loudU (us := [0]) (by rfl) (by rfl) (fun S wS hC hS hU => ?_) (fun v hv K hK => ?_)
    · refine runs_mono (appS_x (zs := B8 (l.take 16)) (.tmp 6) (.tmp 8) st_bytes (by rfl) (by rfl) (by rfl) (hU 0 (by simp)) (by exact sl_kept0 h1 hC) (B8_one _) (by simp [maxLen]) (by omega) hC.size (by simp)) ?_
      intro v w' hL
      simp only [Nat.zero_add] at hL
      exact hL
    obtain ⟨A5, c5, rfl⟩ := hv; (go_simp; refine hK _ ?_; clear hK K)
    repeat (first | (refine wx_quietU (by rfl) (by rfl) (by rfl) (fun K hK => ?_); go_big_quiet_op; refine hK _ ?_; clear hK K) | (refine wx_quietG (by rfl) (by rfl) (by rfl) (by rfl) (by rfl) (fun K hK => ?_); go_big_quiet_op; refine hK _ ?_; clear hK K) | (refine wx_skipG (by rfl) (by rfl) (by rfl) (fun K hK => ?_); go_simp; refine hK _ ?_; clear hK K) | (refine wx_skipN (by rfl) (by rfl) (by rfl) (fun K hK => ?_); go_simp; refine hK _ ?_; clear hK K))
    refine wx_loudU (us := [3]) (by rfl) (by rfl) (fun S wS hC hS hU => ?_) (fun v hv K hK => ?_)
    · exact appS_x (.tmp 9) (.tmp 11) st_bytes (by rfl) (by rfl) (by rfl) (hU 3 (by simp)) (by exact sl_kept0 h2 hC) (B8_one _) (by simp [maxLen] <;> omega) (by omega) hC.size (B8_append _ _)
    obtain ⟨A6, c6, rfl⟩ := hv; (go_simp; refine hK _ ?_; clear hK K)
    repeat (first | (refine wx_quietU (by rfl) (by rfl) (by rfl) (fun K hK => ?_); go_big_quiet_op; refine hK _ ?_; clear hK K) | (refine wx_quietG (by rfl) (by rfl) (by rfl) (by rfl) (by rfl) (fun K hK => ?_); go_big_quiet_op; refine hK _ ?_; clear hK K) | (refine wx_skipG (by rfl) (by rfl) (by rfl) (fun K hK => ?_); go_simp; refine hK _ ?_; clear hK K) | (refine wx_skipN (by rfl) (by rfl) (by rfl) (fun K hK => ?_); go_simp; refine hK _ ?_; clear hK K))
    refine wx_nil fun w2 hsat => ?_
    have hown := sat_row hsat 6 (by rfl)
    have hb2 := sat_below hsat
    clear hsat
    obtain ⟨g, rfl, hg1, hg2⟩ := own_some hown (by omega)
    obtain ⟨p0, p1⟩ := own_byte hown 12 (by omega)
    obtain ⟨p2, p3⟩ := own_byte hown 13 (by omega)
    have hown3 := ((hown.stored 12 (.int .u8 0)).1.stored 13 (.int .u8 0)).1
    have hs12 : Hid (((B8 (l.take 16 ++ l.drop 24)).set 12 (.int .u8 0)).set 13 (.int .u8 0) = B8 (sumL l)) := by
      show _ = _
      have e0 : (Value.int .u8 0) = .int .u8 ((0 : UInt8).toNat : Int) := rfl
      rw [e0, B8_set, B8_set]
      rfl
    rw [hs12.out] at hown3
    have hb3 := (hb2.setCell (p := ⟨g, 12, none⟩) hg1 (.int .u8 0)).setCell (p := ⟨g, 13, none⟩) hg1 (.int .u8 0)
    go_wp2_with fail
    refine (refInternet_any _ _ _ (sumL l) _ (own_sl hown3)).mono ?_
    rintro e w4 ⟨rfl, rfl⟩
    clear p0 p1 p2 p3 hown
    rw [show inet (sumL l) = sm from HSP.out]
    have hsl4 := h.below hb3
    have hz3 := hb3.size
    clear hown3 hb2 hs12
    generalize (w2.setCell ⟨g, 12, none⟩ (.int .u8 0)).setCell ⟨g, 13, none⟩ (.int .u8 0) = w4 at *
    go_upto_region 4 with fail
    have hownE : (w4.alloc (.cells #[] 5)).ownsRow w4.heap.size 5 1 (.slice (some ⟨w4.heap.size, 0, none⟩) 0 0) 0 [] := own_empty w4 _ _ _ _ rfl (Nat.le_refl _)
    have hsl5 := hsl4.alloc (.cells #[] 5)
    have hbE := (Below.refl w4.heap.size w4).alloc (Nat.le_refl _) (.cells #[] 5)
    go_wp2_with (at_builtin; refine wpList_app rfl (.tmp 19) (.tmp 20) st_bytes rfl w4.heap.size rfl hownE rfl hsl5 (B8_one _) (by simp [maxLen] <;> omega) (by omega) (by simp) ?_)
    intro A7 c7 w5 hown5 hg5 _
    have hb5 := hbE.trans (grown_below hownE hg5 (by simp))
    try simp only [Nat.zero_add, List.nil_append] at hown5
    try simp only [Nat.zero_add]
    have hbb5 := hb3.trans (hb5.mono hz3)
    clear hownE hsl5 hbE hg5 hsl4 hb3
    obtain ⟨g7, rfl, hg71, hg72⟩ := own_some hown5 (by omega)
    obtain ⟨p0, p1⟩ := own_byte hown5 12 (by omega)
    obtain ⟨p2, p3⟩ := own_byte hown5 13 (by omega)
    go_upto_region 6 with fail
    have hown7 := own_base (base := w4.heap.size) (base' := w.heap.size) ((hown5.stored 12 (.int .u8 ((sm : Int) / 256))).1.stored 13 (.int .u8 ((sm : Int) % 256))).1 hz3
    have hset : Hid (((B8 l).set 12 (.int .u8 ((sm : Int) / 256))).set 13 (.int .u8 ((sm : Int) % 256)) = B8 (fixP l)) := by
      show _ = _
      have a1 : (UInt8.ofNat (sm / 256)).toNat = sm / 256 := by simp; omega
      have a2 : (UInt8.ofNat (sm % 256)).toNat = sm % 256 := by simp
      have e : fixP l = (l.set 12 (UInt8.ofNat (sm / 256))).set 13 (UInt8.ofNat (sm % 256)) := by unfold fixP; rw [show sumP l = sm from HSP.out]
      rw [e, ← B8_set, ← B8_set, a1, a2]
      simp
    rw [hset.out] at hown7
    have hbb7 := (hbb5.setCell (p := ⟨g7, 12, none⟩) (by simp; omega) (.int .u8 ((sm : Int) / 256))).setCell (p := ⟨g7, 13, none⟩) (by simp; omega) (.int .u8 ((sm : Int) % 256))
    go_wp2_with fail
    go_ret
    exact ⟨some ⟨g7, 0, none⟩, c7, rfl, hown7, hbb7⟩
  · have h2 : Sl w 1 (.slice (some ⟨b, off + 24, none⟩) (n - 24) (c - 24)) (B8 (l.drop 24)) := by
      have := sl_drop h 24 hn
      rw [if_neg hc] at this
      simpa only [Option.map_some, addr_add] using this
    go_enter Try.func16, Try.ntmps16
    go_upto_region 1 with fail
    refine wp_region_loud (fun _ => False)
      [(0, rowL [] w.heap.size 5 1 0 []), (3, rowL [0] w.heap.size 5 1 16 (B8 (l.take 16))), (6, rowL [3] w.heap.size 5 1 (16 + (n - 24)) (B8 (l.take 16 ++ l.drop 24)))]
      (fun _ => Fact.none) (by kernel_rfl) (by kernel_rfl) (.cons (rowL_ok _ _ _ _ _ _) (.cons (rowL_ok _ _ _ _ _ _) (.cons (rowL_ok _ _ _ _ _ _) .nil))) good_nothing sat_none (WX.out ?_)
    repeat (first | (refine wx_quietU (by rfl) (by rfl) (by rfl) (fun K hK => ?_); go_big_quiet_op; refine hK _ ?_; clear hK K) | (refine wx_quietG (by rfl) (by rfl) (by rfl) (by rfl) (by rfl) (fun K hK => ?_); go_big_quiet_op; refine hK _ ?_; clear hK K) | (refine wx_skipG (by rfl) (by rfl) (by rfl) (fun K hK => ?_); go_simp; refine hK _ ?_; clear hK K) | (refine wx_skipN (by rfl) (by rfl) (by rfl) (fun K hK => ?_); go_simp; refine hK _ ?_; clear hK K))
    refine wx_loudU (us := []) (by rfl) (by rfl) (fun S wS hC hS hU => ?_) (fun v hv K hK => ?_)
    · exact runs_value (by go_simp <;> rfl) (made_x rfl hC.size (by rfl) (by rfl) (by omega) (by omega))
    obtain ⟨A4, c4, rfl⟩ := hv; (go_simp; refine hK _ ?_; clear hK K)
    repeat (first | (refine wx_quietU (by rfl) (by rfl) (by rfl) (fun K hK => ?_); go_big_quiet_op; refine hK _ ?_; clear hK K) | (refine wx_quietG (by rfl) (by rfl) (by rfl) (by rfl) (by rfl) (fun K hK => ?_); go_big_quiet_op; refine hK _ ?_; clear hK K) | (refine wx_skipG (by rfl) (by rfl) (by rfl) (fun K hK => ?_); go_simp; refine hK _ ?_; clear hK K) | (refine wx_skipN (by rfl) (by rfl) (by rfl) (fun K hK => ?_); go_simp; refine hK _ ?_; clear hK K))
    refine wx_loudU (us := [0]) (by rfl) (by rfl) (fun S wS hC hS hU => ?_) (fun v hv K hK => ?_)
    · refine runs_mono (appS_x (zs := B8 (l.take 16)) (.tmp 6) (.tmp 8) st_bytes (by rfl) (by rfl) (by rfl) (hU 0 (by simp)) (by exact sl_kept0 h1 hC) (B8_one _) (by simp [maxLen]) (by omega) hC.size (by simp)) ?_
      intro v w' hL
      simp only [Nat.zero_add] at hL
      exact hL
    obtain ⟨A5, c5, rfl⟩ := hv; (go_simp; refine hK _ ?_; clear hK K)
    repeat (first | (refine wx_quietU (by rfl) (by rfl) (by rfl) (fun K hK => ?_); go_big_quiet_op; refine hK _ ?_; clear hK K) | (refine wx_quietG (by rfl) (by rfl) (by rfl) (by rfl) (by rfl) (fun K hK => ?_); go_big_quiet_op; refine hK _ ?_; clear hK K) | (refine wx_skipG (by rfl) (by rfl) (by rfl) (fun K hK => ?_); go_simp; refine hK _ ?_; clear hK K) | (refine wx_skipN (by rfl) (by rfl) (by rfl) (fun K hK => ?_); go_simp; refine hK _ ?_; clear hK K))
    refine wx_loudU (us := [3]) (by rfl) (by rfl) (fun S wS hC hS hU => ?_) (fun v hv K hK => ?_)
    · exact appS_x (.tmp 9) (.tmp 11) st_bytes (by rfl) (by rfl) (by rfl) (hU 3 (by simp)) (by exact sl_kept0 h2 hC) (B8_one _) (by simp [maxLen] <;> omega) (by omega) hC.size (B8_append _ _)
    obtain ⟨A6, c6, rfl⟩ := hv; (go_simp; refine hK _ ?_; clear hK K)
    repeat (first | (refine wx_quietU (by rfl) (by rfl) (by rfl) (fun K hK => ?_); go_big_quiet_op; refine hK _ ?_; clear hK K) | (refine wx_quietG (by rfl) (by rfl) (by rfl) (by rfl) (by rfl) (fun K hK => ?_); go_big_quiet_op; refine hK _ ?_; clear hK K) | (refine wx_skipG (by rfl) (by rfl) (by rfl) (fun K hK => ?_); go_simp; refine hK _ ?_; clear hK K) | (refine wx_skipN (by rfl) (by rfl) (by rfl) (fun K hK => ?_); go_simp; refine hK _ ?_; clear hK K))
    refine wx_nil fun w2 hsat => ?_
    have hown := sat_row hsat 6 (by rfl)
    have hb2 := sat_below hsat
    clear hsat
    obtain ⟨g, rfl, hg1, hg2⟩ := own_some hown (by omega)
    obtain ⟨p0, p1⟩ := own_byte hown 12 (by omega)
    obtain ⟨p2, p3⟩ := own_byte hown 13 (by omega)
    have hown3 := ((hown.stored 12 (.int .u8 0)).1.stored 13 (.int .u8 0)).1
    have hs12 : Hid (((B8 (l.take 16 ++ l.drop 24)).set 12 (.int .u8 0)).set 13 (.int .u8 0) = B8 (sumL l)) := by
      show _ = _
      have e0 : (Value.int .u8 0) = .int .u8 ((0 : UInt8).toNat : Int) := rfl
      rw [e0, B8_set, B8_set]
      rfl
    rw [hs12.out] at hown3
    have hb3 := (hb2.setCell (p := ⟨g, 12, none⟩) hg1 (.int .u8 0)).setCell (p := ⟨g, 13, none⟩) hg1 (.int .u8 0)
    go_wp2_with fail
    refine (refInternet_any _ _ _ (sumL l) _ (own_sl hown3)).mono ?_
    rintro e w4 ⟨rfl, rfl⟩
    clear p0 p1 p2 p3 hown
    rw [show inet (sumL l) = sm from HSP.out]
    have hsl4 := h.below hb3
    have hz3 := hb3.size
    clear hown3 hb2 hs12
    generalize (w2.setCell ⟨g, 12, none⟩ (.int .u8 0)).setCell ⟨g, 13, none⟩ (.int .u8 0) = w4 at *
    go_upto_region 4 with fail
    have hownE : (w4.alloc (.cells #[] 5)).ownsRow w4.heap.size 5 1 (.slice (some ⟨w4.heap.size, 0, none⟩) 0 0) 0 [] := own_empty w4 _ _ _ _ rfl (Nat.le_refl _)
    have hsl5 := hsl4.alloc (.cells #[] 5)
    have hbE := (Below.refl w4.heap.size w4).alloc (Nat.le_refl _) (.cells #[] 5)
    go_wp2_with (at_builtin; refine wpList_app rfl (.tmp 19) (.tmp 20) st_bytes rfl w4.heap.size rfl hownE rfl hsl5 (B8_one _) (by simp [maxLen] <;> omega) (by omega) (by simp) ?_)
    intro A7 c7 w5 hown5 hg5 _
    have hb5 := hbE.trans (grown_below hownE hg5 (by simp))
    try simp only [Nat.zero_add, List.nil_append] at hown5
    try simp only [Nat.zero_add]
    have hbb5 := hb3.trans (hb5.mono hz3)
    clear hownE hsl5 hbE hg5 hsl4 hb3
    obtain ⟨g7, rfl, hg71, hg72⟩ := own_some hown5 (by omega)
    obtain ⟨p0, p1⟩ := own_byte hown5 12 (by omega)
    obtain ⟨p2, p3⟩ := own_byte hown5 13 (by omega)
    go_upto_region 6 with fail
    have hown7 := own_base (base := w4.heap.size) (base' := w.heap.size) ((hown5.stored 12 (.int .u8 ((sm : Int) / 256))).1.stored 13 (.int .u8 ((sm : Int) % 256))).1 hz3
    have hset : Hid (((B8 l).set 12 (.int .u8 ((sm : Int) / 256))).set 13 (.int .u8 ((sm : Int) % 256)) = B8 (fixP l)) := by
      show _ = _
      have a1 : (UInt8.ofNat (sm / 256)).toNat = sm / 256 := by simp; omega
      have a2 : (UInt8.ofNat (sm % 256)).toNat = sm % 256 := by simp
      have e : fixP l = (l.set 12 (UInt8.ofNat (sm / 256))).set 13 (UInt8.ofNat (sm % 256)) := by unfold fixP; rw [show sumP l = sm from HSP.out]
      rw [e, ← B8_set, ← B8_set, a1, a2]
      simp
    rw [hset.out] at hown7
    have hbb7 := (hbb5.setCell (p := ⟨g7, 12, none⟩) (by simp; omega) (.int .u8 ((sm : Int) / 256))).setCell (p := ⟨g7, 13, none⟩) (by simp; omega) (.int .u8 ((sm : Int) % 256))
    go_wp2_with fail
    go_ret
    exact ⟨some ⟨g7, 0, none⟩, c7, rfl, hown7, hbb7⟩
end Go.Proofs.Ytgopkpogakjckaa
