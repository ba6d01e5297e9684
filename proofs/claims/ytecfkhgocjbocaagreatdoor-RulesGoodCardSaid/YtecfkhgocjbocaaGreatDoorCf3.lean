/-
  Contract of package conf: Right.
-/
import Derived.Test.YtecfkhgocjbocaaGreatDoorCf2
namespace Go.Proofs.YtecfkhgocjbocaaGreatDoor
set_option linter.unusedVariables false
set_option linter.unusedSimpArgs false
open Go Go.RowKit

namespace CF
set_option maxRecDepth 100000 in
set_option maxHeartbeats 3200000 in
theorem Right_any (C : List Ln) (A : Option Addr) (n c : Nat) (w : World) (h : Sl w 4 (.slice A n c) (LNS C)) (hC : ∀ l ∈ C, LnOk l) (hen : Env w) :
    Calls Tryz.prog 33 #[.slice A n c] w fun e w' => e = .returned (.bool (RightC C)) ∧ Below w.heap.size w w' := by
  obtain ⟨hl1, hl2, hl3⟩ := sl_lns h
  have HLN := hid hl1
  have HNO : Hid (∀ k < n, okAt C k = false → RightC C = false) := fun k hk h => RightC_no C k (by omega) h
  have HOK : Hid (okTo C n = true → RightC C = decide (n ≤ 64)) := by
    show _ → _
    intro h
    unfold RightC
    rw [hl1, h]
    rfl
  have HL : Hid (∀ k < n, LnOk (lnAt C k)) := fun k hk => by rw [lnAt_get C k (by omega)]; exact hC _ (List.getElem_mem _)
  have HEN := hid hen
  have HSL := hid h
  have HST : Hid (∀ k, okTo C (k + 1) = (okTo C k && okAt C k)) := okTo_succ C
  have HAT : Hid (∀ k, okAt C k = (rightL (lnAt C k) && (decide (k = 0) || lessL (lnAt C (k - 1)) (lnAt C k)))) := fun k => rfl
  clear hl1 hC hen h
  generalize RightC C = RC at *
  go_enter Tryz.func33, Tryz.ntmps33
  go_wp2_with fail
  go_loopw [7] (fun i wr => ∃ k : Nat, k ≤ n ∧ i = .int .i64 k ∧ Hid (okTo C k = true) ∧ Below w.heap.size w wr) (fun i _ => n - (intOf i).toNat)
  case atStart => exact ⟨0, Nat.zero_le _, rfl, hid rfl, Below.refl _ _⟩
  case round =>
    obtain ⟨k, hk, rfl, hok, hbr⟩ := hrel
    by_cases hlt : k < n
    · have hr := HSL.out.below hbr
      obtain ⟨b, off, rfl, hbl, hcl⟩ := sl_ln hr hlt
      have HCell := hid hcl
      have HRL : Hid (∀ w', Below w.heap.size w w' → Calls Tryz.prog 50 #[.agg (lnV (lnAt C k))] w' fun e w'' => e = .returned (.bool (rightL (lnAt C k))) ∧ Below w'.heap.size w' w'') := fun w' hb => right_any (lnAt C k) w' (HL.out k hlt) (HEN.out.below hb)
      have HA := hid (HAT.out k)
      have HS := hid (HST.out k)
      have HN := hid (HNO.out k hlt)
      clear hcl
      cases b1 : rightL (lnAt C k) with
      | false =>
        have HRC : Hid (RC = false) := HN.out (by rw [HA.out, b1]; rfl)
        rw [b1] at HRL
        clear HA HS HN HOK HST HAT HNO HL b1 hr
        generalize lnAt C k = l at *
        obtain ⟨hb2, hg2, hl2⟩ := box1 wr (.cells (lnV l) 29)
        have hcell := HCell.out
        go_upto_region 4 with (first | refine wpList_load_mid rfl 29 (.tmp 10) rfl b (off + k * 4) rfl (lnC l) _ hcell Tryz.underlying29 rfl i4 ?_ | refine wpList_store_last rfl 29 (.tmp 4) (.tmp 11) rfl (lnV l) rfl rfl i4 rfl (lnV_one _) ?_)
        generalize wr.alloc (.cells (lnV l) 29) = w2 at *
        have hbw2 := hbr.trans (hb2.mono hbr.size)
        clear hcell
        refine wp_region_loud (fun _ => False) [(0, plainL [] (.agg (lnV l))), (1, plainL [] (.bool false)), (11, plainL [] undef), (12, plainL [] undef), (13, plainL [] undef)] (fun _ => Fact.none) (by kernel_rfl) (by kernel_rfl)
          (.cons (plainL_ok _ _) (.cons (plainL_ok _ _) (.cons (plainL_ok _ _) (.cons (plainL_ok _ _) (.cons (plainL_ok _ _) .nil))))) good_nothing sat_none (WX.out ?_)
        repeat (first | (refine wx_quietU (by rfl) (by rfl) (by rfl) (fun K hK => ?_); go_big_quiet_op; refine hK _ ?_; clear hK K) | (refine wx_quietG (by rfl) (by rfl) (by rfl) (by rfl) (by rfl) (fun K hK => ?_); go_big_quiet_op; refine hK _ ?_; clear hK K) | (refine wx_skipG (by rfl) (by rfl) (by rfl) (fun K hK => ?_); go_simp; refine hK _ ?_; clear hK K) | (refine wx_skipN (by rfl) (by rfl) (by rfl) (fun K hK => ?_); go_simp; refine hK _ ?_; clear hK K))
        refine wx_loudU (us := []) (by rfl) (by rfl) (fun S wS hC hS hU => ?_) (fun v hv K hK => ?_)
        · exact runs_load_whole 29 (.tmp 4) rfl wr.heap.size rfl 29 (lnV l) (0, 0) _ (blk_below hg2 hC.below hl2) Tryz.underlying29 rfl i4 ⟨rfl, Kept.refl _ _, trivial⟩
        obtain rfl := hv; (go_simp; refine hK _ ?_; clear hK K)
        repeat (first | (refine wx_quietU (by rfl) (by rfl) (by rfl) (fun K hK => ?_); go_big_quiet_op; refine hK _ ?_; clear hK K) | (refine wx_quietG (by rfl) (by rfl) (by rfl) (by rfl) (by rfl) (fun K hK => ?_); go_big_quiet_op; refine hK _ ?_; clear hK K) | (refine wx_skipG (by rfl) (by rfl) (by rfl) (fun K hK => ?_); go_simp; refine hK _ ?_; clear hK K) | (refine wx_skipN (by rfl) (by rfl) (by rfl) (fun K hK => ?_); go_simp; refine hK _ ?_; clear hK K))
        refine wx_loudU (us := []) (by rfl) (by rfl) (fun S wS hC hS hU => runs_enter (f := 50) (by go_simp <;> rfl) ?_) (fun v hv K hK => ?_)
        · refine (HRL.out wS (hbw2.trans (hC.below.mono hbw2.size))).mono ?_
          rintro e w' ⟨rfl, hb⟩
          exact ⟨_, rfl, rfl, Kept.of_below hb, trivial⟩
        obtain rfl := hv; (go_simp; refine hK _ ?_; clear hK K)
        repeat (first | (refine wx_quietU (by rfl) (by rfl) (by rfl) (fun K hK => ?_); go_big_quiet_op; refine hK _ ?_; clear hK K) | (refine wx_quietG (by rfl) (by rfl) (by rfl) (by rfl) (by rfl) (fun K hK => ?_); go_big_quiet_op; refine hK _ ?_; clear hK K) | (refine wx_skipG (by rfl) (by rfl) (by rfl) (fun K hK => ?_); go_simp; refine hK _ ?_; clear hK K) | (refine wx_skipN (by rfl) (by rfl) (by rfl) (fun K hK => ?_); go_simp; refine hK _ ?_; clear hK K))
        refine wx_nil fun w3 hsat => ?_
        have hb3 := sat_below hsat
        have hbw3 := hbw2.trans (hb3.mono hbw2.size)
        clear hsat hb3 hb2 hbw2 hg2 hl2
        go_wp2_with fail
        go_ret
        exact ⟨ret_bool HRC.out.symm, hbw3⟩
      | true =>
        by_cases hk0 : k = 0
        · subst hk0
          have HO : Hid (okTo C 1 = true) := by show _ = _; rw [HS.out, hok.out, HA.out, b1]; rfl
          rw [b1] at HRL
          clear HA HS HN HOK HST HAT HNO HL b1 hr
          generalize lnAt C 0 = l at *
          obtain ⟨hb2, hg2, hl2⟩ := box1 wr (.cells (lnV l) 29)
          have hcell := HCell.out
          go_upto_region 4 with (first | refine wpList_load_mid rfl 29 (.tmp 10) rfl b (off) rfl (lnC l) _ hcell Tryz.underlying29 rfl i4 ?_ | refine wpList_store_last rfl 29 (.tmp 4) (.tmp 11) rfl (lnV l) rfl rfl i4 rfl (lnV_one _) ?_)
          generalize wr.alloc (.cells (lnV l) 29) = w2 at *
          have hbw2 := hbr.trans (hb2.mono hbr.size)
          clear hcell
          refine wp_region_loud (fun _ => False) [(0, plainL [] (.agg (lnV l))), (1, plainL [] (.bool true)), (11, plainL [] undef), (12, plainL [] undef), (13, plainL [] undef)] (fun _ => Fact.none) (by kernel_rfl) (by kernel_rfl)
            (.cons (plainL_ok _ _) (.cons (plainL_ok _ _) (.cons (plainL_ok _ _) (.cons (plainL_ok _ _) (.cons (plainL_ok _ _) .nil))))) good_nothing sat_none (WX.out ?_)
          repeat (first | (refine wx_quietU (by rfl) (by rfl) (by rfl) (fun K hK => ?_); go_big_quiet_op; refine hK _ ?_; clear hK K) | (refine wx_quietG (by rfl) (by rfl) (by rfl) (by rfl) (by rfl) (fun K hK => ?_); go_big_quiet_op; refine hK _ ?_; clear hK K) | (refine wx_skipG (by rfl) (by rfl) (by rfl) (fun K hK => ?_); go_simp; refine hK _ ?_; clear hK K) | (refine wx_skipN (by rfl) (by rfl) (by rfl) (fun K hK => ?_); go_simp; refine hK _ ?_; clear hK K))
          refine wx_loudU (us := []) (by rfl) (by rfl) (fun S wS hC hS hU => ?_) (fun v hv K hK => ?_)
          · exact runs_load_whole 29 (.tmp 4) rfl wr.heap.size rfl 29 (lnV l) (0, 0) _ (blk_below hg2 hC.below hl2) Tryz.underlying29 rfl i4 ⟨rfl, Kept.refl _ _, trivial⟩
          obtain rfl := hv; (go_simp; refine hK _ ?_; clear hK K)
          repeat (first | (refine wx_quietU (by rfl) (by rfl) (by rfl) (fun K hK => ?_); go_big_quiet_op; refine hK _ ?_; clear hK K) | (refine wx_quietG (by rfl) (by rfl) (by rfl) (by rfl) (by rfl) (fun K hK => ?_); go_big_quiet_op; refine hK _ ?_; clear hK K) | (refine wx_skipG (by rfl) (by rfl) (by rfl) (fun K hK => ?_); go_simp; refine hK _ ?_; clear hK K) | (refine wx_skipN (by rfl) (by rfl) (by rfl) (fun K hK => ?_); go_simp; refine hK _ ?_; clear hK K))
          refine wx_loudU (us := []) (by rfl) (by rfl) (fun S wS hC hS hU => runs_enter (f := 50) (by go_simp <;> rfl) ?_) (fun v hv K hK => ?_)
          · refine (HRL.out wS (hbw2.trans (hC.below.mono hbw2.size))).mono ?_
            rintro e w' ⟨rfl, hb⟩
            exact ⟨_, rfl, rfl, Kept.of_below hb, trivial⟩
          obtain rfl := hv; (go_simp; refine hK _ ?_; clear hK K)
          repeat (first | (refine wx_quietU (by rfl) (by rfl) (by rfl) (fun K hK => ?_); go_big_quiet_op; refine hK _ ?_; clear hK K) | (refine wx_quietG (by rfl) (by rfl) (by rfl) (by rfl) (by rfl) (fun K hK => ?_); go_big_quiet_op; refine hK _ ?_; clear hK K) | (refine wx_skipG (by rfl) (by rfl) (by rfl) (fun K hK => ?_); go_simp; refine hK _ ?_; clear hK K) | (refine wx_skipN (by rfl) (by rfl) (by rfl) (fun K hK => ?_); go_simp; refine hK _ ?_; clear hK K))
          refine wx_nil fun w3 hsat => ?_
          have hb3 := sat_below hsat
          have hbw3 := hbw2.trans (hb3.mono hbw2.size)
          clear hsat hb3 hb2 hbw2 hg2 hl2
          go_wp2_with fail
          go_light
          exact ⟨⟨1, by omega, by go_num, HO, hbw3⟩, by simp [intOf]; omega⟩
        · obtain ⟨j, rfl⟩ : ∃ j, k = j + 1 := ⟨k - 1, by omega⟩
          obtain ⟨_, _, hoo, _, hpl⟩ := sl_ln hr (show j < n by omega)
          injection hoo with hoo
          injection hoo with hoo1 hoo2
          subst hoo1
          subst hoo2
          have HPl := hid hpl
          have hd0 : decide (j + 1 = 0) = false := by rw [decide_eq_false_iff_not]; omega
          have HAA : Hid (okAt C (j + 1) = lessL (lnAt C j) (lnAt C (j + 1))) := by show _ = _; rw [HA.out, b1, hd0]; rfl
          have HLS : Hid (∀ w', Calls Tryz.prog 45 #[.agg (lnV (lnAt C j)), .agg (lnV (lnAt C (j + 1)))] w' fun e w'' => e = .returned (.bool (lessL (lnAt C j) (lnAt C (j + 1)))) ∧ Below w'.heap.size w' w'') := fun w' => less_any _ _ w'
          rw [b1] at HRL
          have HRC : Hid (lessL (lnAt C j) (lnAt C (j + 1)) = false → RC = false) := fun h => HN.out (by rw [HAA.out]; exact h)
          have HO : Hid (lessL (lnAt C j) (lnAt C (j + 1)) = true → okTo C (j + 1 + 1) = true) := by
            show _ → _
            intro h
            rw [HS.out, hok.out, HAA.out, h]
            rfl
          clear HA HS HN HOK HST HAT HNO HL b1 hr hpl hd0 HAA hk0
          generalize lessL (lnAt C j) (lnAt C (j + 1)) = b2 at *
          generalize lnAt C (j + 1) = l at *
          generalize lnAt C j = l0 at *
          have hj0 : 0 < j + 1 := by omega
          cases b2 with
          | false =>
            have HR2 := hid (HRC.out rfl)
            clear HRC HO
            obtain ⟨hb2, hg2, hl2⟩ := box1 wr (.cells (lnV l) 29)
            have hcell := HCell.out
            go_upto_region 4 with (first | refine wpList_load_mid rfl 29 (.tmp 10) rfl b (off + (j + 1) * 4) rfl (lnC l) _ hcell Tryz.underlying29 rfl i4 ?_ | refine wpList_store_last rfl 29 (.tmp 4) (.tmp 11) rfl (lnV l) rfl rfl i4 rfl (lnV_one _) ?_)
            generalize wr.alloc (.cells (lnV l) 29) = w2 at *
            have hbw2 := hbr.trans (hb2.mono hbr.size)
            clear hcell
            have HP2 : Hid (∀ wS, Below w2.heap.size w2 wS → wS.rangeAt b (off + j * 4) (lnC l0)) := fun wS hb => range_below (range_below HPl.out hbl hb2) (Nat.lt_of_lt_of_le hbl hb2.size) hb
            clear HPl
            refine wp_region_loud (fun _ => False) [(0, plainL [] (.agg (lnV l))), (1, plainL [] (.bool true)), (11, plainL [] (.agg (lnV l0))), (12, plainL [] (.agg (lnV l))), (13, plainL [] (.bool false))] (fun _ => Fact.none) (by kernel_rfl) (by kernel_rfl)
              (.cons (plainL_ok _ _) (.cons (plainL_ok _ _) (.cons (plainL_ok _ _) (.cons (plainL_ok _ _) (.cons (plainL_ok _ _) .nil))))) good_nothing sat_none (WX.out ?_)
            repeat (first | (refine wx_quietU (by rfl) (by rfl) (by rfl) (fun K hK => ?_); go_big_quiet_op; refine hK _ ?_; clear hK K) | (refine wx_quietG (by rfl) (by rfl) (by rfl) (by rfl) (by rfl) (fun K hK => ?_); go_big_quiet_op; refine hK _ ?_; clear hK K) | (refine wx_skipG (by rfl) (by rfl) (by rfl) (fun K hK => ?_); go_simp; refine hK _ ?_; clear hK K) | (refine wx_skipN (by rfl) (by rfl) (by rfl) (fun K hK => ?_); go_simp; refine hK _ ?_; clear hK K))
            refine wx_loudU (us := []) (by rfl) (by rfl) (fun S wS hC hS hU => ?_) (fun v hv K hK => ?_)
            · exact runs_load_whole 29 (.tmp 4) rfl wr.heap.size rfl 29 (lnV l) (0, 0) _ (blk_below hg2 hC.below hl2) Tryz.underlying29 rfl i4 ⟨rfl, Kept.refl _ _, trivial⟩
            obtain rfl := hv; (go_simp; refine hK _ ?_; clear hK K)
            repeat (first | (refine wx_quietU (by rfl) (by rfl) (by rfl) (fun K hK => ?_); go_big_quiet_op; refine hK _ ?_; clear hK K) | (refine wx_quietG (by rfl) (by rfl) (by rfl) (by rfl) (by rfl) (fun K hK => ?_); go_big_quiet_op; refine hK _ ?_; clear hK K) | (refine wx_skipG (by rfl) (by rfl) (by rfl) (fun K hK => ?_); go_simp; refine hK _ ?_; clear hK K) | (refine wx_skipN (by rfl) (by rfl) (by rfl) (fun K hK => ?_); go_simp; refine hK _ ?_; clear hK K))
            refine wx_loudU (us := []) (by rfl) (by rfl) (fun S wS hC hS hU => runs_enter (f := 50) (by go_simp <;> rfl) ?_) (fun v hv K hK => ?_)
            · refine (HRL.out wS (hbw2.trans (hC.below.mono hbw2.size))).mono ?_
              rintro e w' ⟨rfl, hb⟩
              exact ⟨_, rfl, rfl, Kept.of_below hb, trivial⟩
            obtain rfl := hv; (go_simp; refine hK _ ?_; clear hK K)
            repeat (first | (refine wx_quietU (by rfl) (by rfl) (by rfl) (fun K hK => ?_); go_big_quiet_op; refine hK _ ?_; clear hK K) | (refine wx_quietG (by rfl) (by rfl) (by rfl) (by rfl) (by rfl) (fun K hK => ?_); go_big_quiet_op; refine hK _ ?_; clear hK K) | (refine wx_skipG (by rfl) (by rfl) (by rfl) (fun K hK => ?_); go_simp; refine hK _ ?_; clear hK K) | (refine wx_skipN (by rfl) (by rfl) (by rfl) (fun K hK => ?_); go_simp; refine hK _ ?_; clear hK K))
            refine wx_loudG (us := []) (by rfl) (by rfl) (by rfl) (by rfl) (fun S wS hC hS hU => ?_) (fun v hv K hK => ?_)
            · exact runs_load_mid 29 (.tmp 22) rfl b (off + j * 4) rfl (lnC l0) _ (HP2.out wS hC.below) Tryz.underlying29 rfl i4 ⟨rfl, Kept.refl _ _, trivial⟩
            obtain rfl := hv; (go_simp; refine hK _ ?_; clear hK K)
            repeat (first | (refine wx_quietU (by rfl) (by rfl) (by rfl) (fun K hK => ?_); go_big_quiet_op; refine hK _ ?_; clear hK K) | (refine wx_quietG (by rfl) (by rfl) (by rfl) (by rfl) (by rfl) (fun K hK => ?_); go_big_quiet_op; refine hK _ ?_; clear hK K) | (refine wx_skipG (by rfl) (by rfl) (by rfl) (fun K hK => ?_); go_simp; refine hK _ ?_; clear hK K) | (refine wx_skipN (by rfl) (by rfl) (by rfl) (fun K hK => ?_); go_simp; refine hK _ ?_; clear hK K))
            refine wx_loudG (us := []) (by rfl) (by rfl) (by rfl) (by rfl) (fun S wS hC hS hU => ?_) (fun v hv K hK => ?_)
            · exact runs_load_whole 29 (.tmp 4) rfl wr.heap.size rfl 29 (lnV l) (0, 0) _ (blk_below hg2 hC.below hl2) Tryz.underlying29 rfl i4 ⟨rfl, Kept.refl _ _, trivial⟩
            obtain rfl := hv; (go_simp; refine hK _ ?_; clear hK K)
            repeat (first | (refine wx_quietU (by rfl) (by rfl) (by rfl) (fun K hK => ?_); go_big_quiet_op; refine hK _ ?_; clear hK K) | (refine wx_quietG (by rfl) (by rfl) (by rfl) (by rfl) (by rfl) (fun K hK => ?_); go_big_quiet_op; refine hK _ ?_; clear hK K) | (refine wx_skipG (by rfl) (by rfl) (by rfl) (fun K hK => ?_); go_simp; refine hK _ ?_; clear hK K) | (refine wx_skipN (by rfl) (by rfl) (by rfl) (fun K hK => ?_); go_simp; refine hK _ ?_; clear hK K))
            refine wx_loudG (us := []) (by rfl) (by rfl) (by rfl) (by rfl) (fun S wS hC hS hU => runs_enter (f := 45) (by go_simp <;> rfl) ?_) (fun v hv K hK => ?_)
            · refine (HLS.out wS).mono ?_
              rintro e w' ⟨rfl, hb⟩
              exact ⟨_, rfl, rfl, Kept.of_below hb, trivial⟩
            obtain rfl := hv; (go_simp; refine hK _ ?_; clear hK K)
            repeat (first | (refine wx_quietU (by rfl) (by rfl) (by rfl) (fun K hK => ?_); go_big_quiet_op; refine hK _ ?_; clear hK K) | (refine wx_quietG (by rfl) (by rfl) (by rfl) (by rfl) (by rfl) (fun K hK => ?_); go_big_quiet_op; refine hK _ ?_; clear hK K) | (refine wx_skipG (by rfl) (by rfl) (by rfl) (fun K hK => ?_); go_simp; refine hK _ ?_; clear hK K) | (refine wx_skipN (by rfl) (by rfl) (by rfl) (fun K hK => ?_); go_simp; refine hK _ ?_; clear hK K))
            refine wx_nil fun w3 hsat => ?_
            have hb3 := sat_below hsat
            have hbw3 := hbw2.trans (hb3.mono hbw2.size)
            clear hsat hb3 hb2 hbw2 hg2 hl2
            go_wp2_with fail
            go_ret
            exact ⟨ret_bool HR2.out.symm, hbw3⟩
          | true =>
            have HO2 := hid (HO.out rfl)
            clear HRC HO
            obtain ⟨hb2, hg2, hl2⟩ := box1 wr (.cells (lnV l) 29)
            have hcell := HCell.out
            go_upto_region 4 with (first | refine wpList_load_mid rfl 29 (.tmp 10) rfl b (off + (j + 1) * 4) rfl (lnC l) _ hcell Tryz.underlying29 rfl i4 ?_ | refine wpList_store_last rfl 29 (.tmp 4) (.tmp 11) rfl (lnV l) rfl rfl i4 rfl (lnV_one _) ?_)
            generalize wr.alloc (.cells (lnV l) 29) = w2 at *
            have hbw2 := hbr.trans (hb2.mono hbr.size)
            clear hcell
            have HP2 : Hid (∀ wS, Below w2.heap.size w2 wS → wS.rangeAt b (off + j * 4) (lnC l0)) := fun wS hb => range_below (range_below HPl.out hbl hb2) (Nat.lt_of_lt_of_le hbl hb2.size) hb
            clear HPl
            refine wp_region_loud (fun _ => False) [(0, plainL [] (.agg (lnV l))), (1, plainL [] (.bool true)), (11, plainL [] (.agg (lnV l0))), (12, plainL [] (.agg (lnV l))), (13, plainL [] (.bool true))] (fun _ => Fact.none) (by kernel_rfl) (by kernel_rfl)
              (.cons (plainL_ok _ _) (.cons (plainL_ok _ _) (.cons (plainL_ok _ _) (.cons (plainL_ok _ _) (.cons (plainL_ok _ _) .nil))))) good_nothing sat_none (WX.out ?_)
            repeat (first | (refine wx_quietU (by rfl) (by rfl) (by rfl) (fun K hK => ?_); go_big_quiet_op; refine hK _ ?_; clear hK K) | (refine wx_quietG (by rfl) (by rfl) (by rfl) (by rfl) (by rfl) (fun K hK => ?_); go_big_quiet_op; refine hK _ ?_; clear hK K) | (refine wx_skipG (by rfl) (by rfl) (by rfl) (fun K hK => ?_); go_simp; refine hK _ ?_; clear hK K) | (refine wx_skipN (by rfl) (by rfl) (by rfl) (fun K hK => ?_); go_simp; refine hK _ ?_; clear hK K))
            refine wx_loudU (us := []) (by rfl) (by rfl) (fun S wS hC hS hU => ?_) (fun v hv K hK => ?_)
            · exact runs_load_whole 29 (.tmp 4) rfl wr.heap.size rfl 29 (lnV l) (0, 0) _ (blk_below hg2 hC.below hl2) Tryz.underlying29 rfl i4 ⟨rfl, Kept.refl _ _, trivial⟩
            obtain rfl := hv; (go_simp; refine hK _ ?_; clear hK K)
            repeat (first | (refine wx_quietU (by rfl) (by rfl) (by rfl) (fun K hK => ?_); go_big_quiet_op; refine hK _ ?_; clear hK K) | (refine wx_quietG (by rfl) (by rfl) (by rfl) (by rfl) (by rfl) (fun K hK => ?_); go_big_quiet_op; refine hK _ ?_; clear hK K) | (refine wx_skipG (by rfl) (by rfl) (by rfl) (fun K hK => ?_); go_simp; refine hK _ ?_; clear hK K) | (refine wx_skipN (by rfl) (by rfl) (by rfl) (fun K hK => ?_); go_simp; refine hK _ ?_; clear hK K))
            refine wx_loudU (us := []) (by rfl) (by rfl) (fun S wS hC hS hU => runs_enter (f := 50) (by go_simp <;> rfl) ?_) (fun v hv K hK => ?_)
            · refine (HRL.out wS (hbw2.trans (hC.below.mono hbw2.size))).mono ?_
              rintro e w' ⟨rfl, hb⟩
              exact ⟨_, rfl, rfl, Kept.of_below hb, trivial⟩
            obtain rfl := hv; (go_simp; refine hK _ ?_; clear hK K)
            repeat (first | (refine wx_quietU (by rfl) (by rfl) (by rfl) (fun K hK => ?_); go_big_quiet_op; refine hK _ ?_; clear hK K) | (refine wx_quietG (by rfl) (by rfl) (by rfl) (by rfl) (by rfl) (fun K hK => ?_); go_big_quiet_op; refine hK _ ?_; clear hK K) | (refine wx_skipG (by rfl) (by rfl) (by rfl) (fun K hK => ?_); go_simp; refine hK _ ?_; clear hK K) | (refine wx_skipN (by rfl) (by rfl) (by rfl) (fun K hK => ?_); go_simp; refine hK _ ?_; clear hK K))
            refine wx_loudG (us := []) (by rfl) (by rfl) (by rfl) (by rfl) (fun S wS hC hS hU => ?_) (fun v hv K hK => ?_)
            · exact runs_load_mid 29 (.tmp 22) rfl b (off + j * 4) rfl (lnC l0) _ (HP2.out wS hC.below) Tryz.underlying29 rfl i4 ⟨rfl, Kept.refl _ _, trivial⟩
            obtain rfl := hv; (go_simp; refine hK _ ?_; clear hK K)
            repeat (first | (refine wx_quietU (by rfl) (by rfl) (by rfl) (fun K hK => ?_); go_big_quiet_op; refine hK _ ?_; clear hK K) | (refine wx_quietG (by rfl) (by rfl) (by rfl) (by rfl) (by rfl) (fun K hK => ?_); go_big_quiet_op; refine hK _ ?_; clear hK K) | (refine wx_skipG (by rfl) (by rfl) (by rfl) (fun K hK => ?_); go_simp; refine hK _ ?_; clear hK K) | (refine wx_skipN (by rfl) (by rfl) (by rfl) (fun K hK => ?_); go_simp; refine hK _ ?_; clear hK K))
            refine wx_loudG (us := []) (by rfl) (by rfl) (by rfl) (by rfl) (fun S wS hC hS hU => ?_) (fun v hv K hK => ?_)
            · exact runs_load_whole 29 (.tmp 4) rfl wr.heap.size rfl 29 (lnV l) (0, 0) _ (blk_below hg2 hC.below hl2) Tryz.underlying29 rfl i4 ⟨rfl, Kept.refl _ _, trivial⟩
            obtain rfl := hv; (go_simp; refine hK _ ?_; clear hK K)
            repeat (first | (refine wx_quietU (by rfl) (by rfl) (by rfl) (fun K hK => ?_); go_big_quiet_op; refine hK _ ?_; clear hK K) | (refine wx_quietG (by rfl) (by rfl) (by rfl) (by rfl) (by rfl) (fun K hK => ?_); go_big_quiet_op; refine hK _ ?_; clear hK K) | (refine wx_skipG (by rfl) (by rfl) (by rfl) (fun K hK => ?_); go_simp; refine hK _ ?_; clear hK K) | (refine wx_skipN (by rfl) (by rfl) (by rfl) (fun K hK => ?_); go_simp; refine hK _ ?_; clear hK K))
            refine wx_loudG (us := []) (by rfl) (by rfl) (by rfl) (by rfl) (fun S wS hC hS hU => runs_enter (f := 45) (by go_simp <;> rfl) ?_) (fun v hv K hK => ?_)
            · refine (HLS.out wS).mono ?_
              rintro e w' ⟨rfl, hb⟩
              exact ⟨_, rfl, rfl, Kept.of_below hb, trivial⟩
            obtain rfl := hv; (go_simp; refine hK _ ?_; clear hK K)
            repeat (first | (refine wx_quietU (by rfl) (by rfl) (by rfl) (fun K hK => ?_); go_big_quiet_op; refine hK _ ?_; clear hK K) | (refine wx_quietG (by rfl) (by rfl) (by rfl) (by rfl) (by rfl) (fun K hK => ?_); go_big_quiet_op; refine hK _ ?_; clear hK K) | (refine wx_skipG (by rfl) (by rfl) (by rfl) (fun K hK => ?_); go_simp; refine hK _ ?_; clear hK K) | (refine wx_skipN (by rfl) (by rfl) (by rfl) (fun K hK => ?_); go_simp; refine hK _ ?_; clear hK K))
            refine wx_nil fun w3 hsat => ?_
            have hb3 := sat_below hsat
            have hbw3 := hbw2.trans (hb3.mono hbw2.size)
            clear hsat hb3 hb2 hbw2 hg2 hl2
            go_wp2_with fail
            go_light
            exact ⟨⟨j + 1 + 1, by omega, by go_num, HO2, hbw3⟩, by simp [intOf]; omega⟩
    · obtain rfl : k = n := by omega
      have HR2 := hid (HOK.out hok.out)
      clear HOK HST HAT HNO HL hok HSL HLN
      go_wp2_with fail
      go_ret
      exact ⟨ret_bool (by rw [HR2.out, Bool.eq_iff_iff]; simp; try omega), hbr⟩
end CF
end Go.Proofs.YtecfkhgocjbocaaGreatDoor
