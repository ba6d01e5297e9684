/-
  Contract of packet's sum.
-/
import Derived.Test.YtgopkpogakjckaaPk7
namespace Go.Proofs.Ytgopkpogakjckaa
set_option linter.unusedVariables false
set_option linter.unusedSimpArgs false
open Go Go.RowKit SM LM PK

theorem st_rowsB : ST Try.prog 173 31 1 24 := .mk Try.underlying173 (z := .slice none 0 0) (by kernel_rfl) rfl (by omega)
theorem sl_pair {w : World} {g : Nat} {x y : Value} {e : TypeId} (h : w.heap[g]? = some (.cells #[x, y] e (0, 0))) : Sl w 1 (.slice (some ⟨g, 0, none⟩) 2 2) [x, y] := by
  refine ⟨_, _, _, rfl, rfl, Nat.le_refl _, by simp [maxLen], fun _ => ⟨g, 0, rfl, blk_lt h, fun i hi => ?_⟩⟩
  rw [Nat.zero_add, (blk_cells h).1 i]
  simp
theorem sl_kept0 {w w' : World} {size n c : Nat} {A : Option Addr} {xs : List Value} (h : Sl w size (.slice A n c) xs) (hk : Kept (fun _ => False) w w') : Sl w' size (.slice A n c) xs := sl_kept h hk (by simp)
set_option maxRecDepth 100000 in
set_option maxHeartbeats 1600000 in
theorem sum_any (A : Option Addr) (n c : Nat) (l : List UInt8) (w : World) (h : Sl w 1 (.slice A n c) (B8 l)) (hn : 24 ≤ n) (hm : n ≤ 1000000) :
    Calls Try.prog 39 #[.slice A n c] w fun e w' => e = .returned (.int .u16 (sumP l : Nat)) ∧ Below w.heap.size w w' := by
  obtain ⟨hl1, hl2, hl3⟩ := h.len
  have HL := hid hl1
  clear hl1
  obtain ⟨b, off, rfl, hbl, _⟩ := h.byte (k := 0) (by omega)
  have h1 := h.take 16 (by omega)
  by_cases hc : c = 24
  · subst hc
    obtain rfl : n = 24 := by omega
    have h2 : Sl w 1 (.slice (some ⟨b, off, none⟩) 0 0) (B8 (l.drop 24)) := by
      have hz : l.drop 24 = [] := List.eq_nil_of_length_eq_zero (by rw [List.length_drop, HL.out])
      rw [hz]
      exact ⟨_, _, _, rfl, rfl, Nat.le_refl _, by simp [maxLen], fun h => absurd h (by omega)⟩
    go_enter Try.func39, Try.ntmps39
    go_upto_region 1 with fail
    refine wp_region_loud (fun _ => False)
      [(4, rowL [] w.heap.size 31 1 2 [.slice (some ⟨b, off, none⟩) 16 24, .slice (some ⟨b, off, none⟩) 0 0]), (5, rowL [4] w.heap.size 5 1 (16 + 0) (B8 (l.take 16 ++ l.drop 24)))]
      (fun _ => Fact.none) (by kernel_rfl) (by kernel_rfl) (.cons (rowL_ok _ _ _ _ _ _) (.cons (rowL_ok _ _ _ _ _ _) .nil)) good_nothing sat_none (WX.out ?_)
    repeat (first | (refine wx_quietU (by rfl) (by rfl) (by rfl) (fun K hK => ?_); go_big_quiet_op; refine hK _ ?_; clear hK K) | (refine wx_quietG (by rfl) (by rfl) (by rfl) (by rfl) (by rfl) (fun K hK => ?_); go_big_quiet_op; refine hK _ ?_; clear hK K) | (refine wx_skipG (by rfl) (by rfl) (by rfl) (fun K hK => ?_); go_simp; refine hK _ ?_; clear hK K) | (refine wx_skipN (by rfl) (by rfl) (by rfl) (fun K hK => ?_); go_simp; refine hK _ ?_; clear hK K))
    refine wx_loudU (us := []) (by rfl) (by rfl) (fun S wS hC hS hU => ?_) (fun v hv K hK => ?_)
    · exact runs_value (by go_simp <;> rfl) (made_x rfl hC.size (by rfl) (by rfl) (by omega) (by omega))
    obtain ⟨A4, c4, rfl⟩ := hv; (go_simp; refine hK _ ?_; clear hK K)
    repeat (first | (refine wx_quietU (by rfl) (by rfl) (by rfl) (fun K hK => ?_); go_big_quiet_op; refine hK _ ?_; clear hK K) | (refine wx_quietG (by rfl) (by rfl) (by rfl) (by rfl) (by rfl) (fun K hK => ?_); go_big_quiet_op; refine hK _ ?_; clear hK K) | (refine wx_skipG (by rfl) (by rfl) (by rfl) (fun K hK => ?_); go_simp; refine hK _ ?_; clear hK K) | (refine wx_skipN (by rfl) (by rfl) (by rfl) (fun K hK => ?_); go_simp; refine hK _ ?_; clear hK K))
    refine wx_loudU (us := [4]) (by rfl) (by rfl) (fun S wS hC hS hU => runs_enter (f := 77) (by go_simp <;> rfl) ?_) (fun v hv K hK => ?_)
    · refine (concat2_any _ _ _ _ _ _ _ _ (l.take 16) (l.drop 24) wS (own_sl (hU 4 (by simp)).2) (by exact sl_kept0 h1 hC) (by exact sl_kept0 h2 hC) (by omega) (by omega)).mono ?_
      rintro e w' ⟨g, c', rfl, q1, q2⟩
      exact ⟨_, rfl, ⟨_, _, rfl⟩, Kept.of_below q2, own_fresh q1 hC.size⟩
    obtain ⟨A5, c5, rfl⟩ := hv; (go_simp; refine hK _ ?_; clear hK K)
    repeat (first | (refine wx_quietU (by rfl) (by rfl) (by rfl) (fun K hK => ?_); go_big_quiet_op; refine hK _ ?_; clear hK K) | (refine wx_quietG (by rfl) (by rfl) (by rfl) (by rfl) (by rfl) (fun K hK => ?_); go_big_quiet_op; refine hK _ ?_; clear hK K) | (refine wx_skipG (by rfl) (by rfl) (by rfl) (fun K hK => ?_); go_simp; refine hK _ ?_; clear hK K) | (refine wx_skipN (by rfl) (by rfl) (by rfl) (fun K hK => ?_); go_simp; refine hK _ ?_; clear hK K))
    refine wx_nil fun w2 hsat => ?_
    have hown := sat_row hsat 5 (by rfl)
    have hb2 := sat_below hsat
    clear hsat
    obtain ⟨g, rfl, hg1, hg2⟩ := own_some hown (by omega)
    obtain ⟨p0, p1⟩ := own_byte hown 12 (by omega)
    obtain ⟨p2, p3⟩ := own_byte hown 13 (by omega)
    have hown3 := ((hown.stored 12 (.int .u8 0)).1.stored 13 (.int .u8 0)).1
    have hs12 : Hid (((B8 (l.take 16 ++ l.drop 24)).set 12 (.int .u8 0)).set 13 (.int .u8 0) = B8 (sumL l)) := by
      show _ = _
      have e0 : (Value.int .u8 0) = .int .u8 ((0 : UInt8).toNat : Int) := rfl
      rw [e0, B8_set, B8_set]
      rfl
    rw [hs12.out] at hown3
    have hb3 := (hb2.setCell (p := ⟨g, 12, none⟩) hg1 (.int .u8 0)).setCell (p := ⟨g, 13, none⟩) hg1 (.int .u8 0)
    go_wp2_with fail
    refine (internet_any _ _ _ (sumL l) _ (own_sl hown3) (by omega)).mono ?_
    rintro e w4 ⟨rfl, rfl⟩
    clear p0 p1 p2 p3 hown
    go_wp2_with fail
    go_ret
    exact ⟨rfl, hb3⟩
  · have h2 : Sl w 1 (.slice (some ⟨b, off + 24, none⟩) (n - 24) (c - 24)) (B8 (l.drop 24)) := by
      have := sl_drop h 24 hn
      rw [if_neg hc] at this
      simpa only [Option.map_some, addr_add] using this
    go_enter Try.func39, Try.ntmps39
    go_upto_region 1 with fail
    refine wp_region_loud (fun _ => False)
      [(4, rowL [] w.heap.size 31 1 2 [.slice (some ⟨b, off, none⟩) 16 c, .slice (some ⟨b, off + 24, none⟩) (n - 24) (c - 24)]), (5, rowL [4] w.heap.size 5 1 (16 + (n - 24)) (B8 (l.take 16 ++ l.drop 24)))]
      (fun _ => Fact.none) (by kernel_rfl) (by kernel_rfl) (.cons (rowL_ok _ _ _ _ _ _) (.cons (rowL_ok _ _ _ _ _ _) .nil)) good_nothing sat_none (WX.out ?_)
    repeat (first | (refine wx_quietU (by rfl) (by rfl) (by rfl) (fun K hK => ?_); go_big_quiet_op; refine hK _ ?_; clear hK K) | (refine wx_quietG (by rfl) (by rfl) (by rfl) (by rfl) (by rfl) (fun K hK => ?_); go_big_quiet_op; refine hK _ ?_; clear hK K) | (refine wx_skipG (by rfl) (by rfl) (by rfl) (fun K hK => ?_); go_simp; refine hK _ ?_; clear hK K) | (refine wx_skipN (by rfl) (by rfl) (by rfl) (fun K hK => ?_); go_simp; refine hK _ ?_; clear hK K))
    refine wx_loudU (us := []) (by rfl) (by rfl) (fun S wS hC hS hU => ?_) (fun v hv K hK => ?_)
    · exact runs_value (by go_simp <;> rfl) (made_x rfl hC.size (by rfl) (by rfl) (by omega) (by omega))
    obtain ⟨A4, c4, rfl⟩ := hv; (go_simp; refine hK _ ?_; clear hK K)
    repeat (first | (refine wx_quietU (by rfl) (by rfl) (by rfl) (fun K hK => ?_); go_big_quiet_op; refine hK _ ?_; clear hK K) | (refine wx_quietG (by rfl) (by rfl) (by rfl) (by rfl) (by rfl) (fun K hK => ?_); go_big_quiet_op; refine hK _ ?_; clear hK K) | (refine wx_skipG (by rfl) (by rfl) (by rfl) (fun K hK => ?_); go_simp; refine hK _ ?_; clear hK K) | (refine wx_skipN (by rfl) (by rfl) (by rfl) (fun K hK => ?_); go_simp; refine hK _ ?_; clear hK K))
    refine wx_loudU (us := [4]) (by rfl) (by rfl) (fun S wS hC hS hU => runs_enter (f := 77) (by go_simp <;> rfl) ?_) (fun v hv K hK => ?_)
    · refine (concat2_any _ _ _ _ _ _ _ _ (l.take 16) (l.drop 24) wS (own_sl (hU 4 (by simp)).2) (by exact sl_kept0 h1 hC) (by exact sl_kept0 h2 hC) (by omega) (by omega)).mono ?_
      rintro e w' ⟨g, c', rfl, q1, q2⟩
      exact ⟨_, rfl, ⟨_, _, rfl⟩, Kept.of_below q2, own_fresh q1 hC.size⟩
    obtain ⟨A5, c5, rfl⟩ := hv; (go_simp; refine hK _ ?_; clear hK K)
    repeat (first | (refine wx_quietU (by rfl) (by rfl) (by rfl) (fun K hK => ?_); go_big_quiet_op; refine hK _ ?_; clear hK K) | (refine wx_quietG (by rfl) (by rfl) (by rfl) (by rfl) (by rfl) (fun K hK => ?_); go_big_quiet_op; refine hK _ ?_; clear hK K) | (refine wx_skipG (by rfl) (by rfl) (by rfl) (fun K hK => ?_); go_simp; refine hK _ ?_; clear hK K) | (refine wx_skipN (by rfl) (by rfl) (by rfl) (fun K hK => ?_); go_simp; refine hK _ ?_; clear hK K))
    refine wx_nil fun w2 hsat => ?_
    have hown := sat_row hsat 5 (by rfl)
    have hb2 := sat_below hsat
    clear hsat
    obtain ⟨g, rfl, hg1, hg2⟩ := own_some hown (by omega)
    obtain ⟨p0, p1⟩ := own_byte hown 12 (by omega)
    obtain ⟨p2, p3⟩ := own_byte hown 13 (by omega)
    have hown3 := ((hown.stored 12 (.int .u8 0)).1.stored 13 (.int .u8 0)).1
    have hs12 : Hid (((B8 (l.take 16 ++ l.drop 24)).set 12 (.int .u8 0)).set 13 (.int .u8 0) = B8 (sumL l)) := by
      show _ = _
      have e0 : (Value.int .u8 0) = .int .u8 ((0 : UInt8).toNat : Int) := rfl
      rw [e0, B8_set, B8_set]
      rfl
    rw [hs12.out] at hown3
    have hb3 := (hb2.setCell (p := ⟨g, 12, none⟩) hg1 (.int .u8 0)).setCell (p := ⟨g, 13, none⟩) hg1 (.int .u8 0)
    go_wp2_with fail
    refine (internet_any _ _ _ (sumL l) _ (own_sl hown3) (by omega)).mono ?_
    rintro e w4 ⟨rfl, rfl⟩
    clear p0 p1 p2 p3 hown
    go_wp2_with fail
    go_ret
    exact ⟨rfl, hb3⟩
end Go.Proofs.Ytgopkpogakjckaa
