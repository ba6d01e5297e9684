/-
  Contract of slices.BinarySearchFunc at lines.
-/
import Derived.Test.YtecfkhgocjbocaaGreatDoorCf2
namespace Go.Proofs.YtecfkhgocjbocaaGreatDoor
set_option linter.unusedVariables false
set_option linter.unusedSimpArgs false
open Go Go.RowKit

namespace CF
/-- what a search tells -/
def SearchPost (C : List Ln) (l : Ln) (n : Nat) (e : Ending) : Prop := ∃ (i : Nat) (found : Bool), e = .returned (.tuple #[.int .i64 (i : Int), .bool found]) ∧ i ≤ n ∧ (∀ j < i, ordL (lnAt C j) l < 0) ∧ (found = true → i < n ∧ ordL (lnAt C i) l = 0) ∧ (found = false → i < n → 0 < ordL (lnAt C i) l)
set_option maxRecDepth 100000 in
set_option maxHeartbeats 3200000 in
theorem search_any (C : List Ln) (l : Ln) (A : Option Addr) (n c : Nat) (w : World) (h : Sl w 4 (.slice A n c) (LNS C)) (hs : Srt C) (hn : n ≤ 1000) :
    Calls Tryz.prog 51 #[.slice A n c, .agg (lnV l), .func (.func 52) #[] #[]] w fun e w' => SearchPost C l n e ∧ Below w.heap.size w w' := by
  obtain ⟨hl1, hl2, hl3⟩ := sl_lns h
  have HM : Hid (∀ a b, a ≤ b → b < n → ordL (lnAt C b) l < 0 → ordL (lnAt C a) l < 0) := fun a b h1 h2 h3 => srt_mono hs l a b h1 (by omega) h3
  have HSL := hid h
  clear h hl1 hs
  obtain ⟨hb0, hx0, hl0⟩ := box1 w (.cells (lnV l) 29)
  go_enter Tryz.func51, Tryz.ntmps51
  go_upto_region 1 with fail
  generalize w.alloc (.cells (lnV l) 29) = w1 at *
  go_wp2_with fail
  go_loopw [9, 10] (fun i j wr => ∃ a b : Nat, a ≤ b ∧ b ≤ n ∧ i = .int .i64 a ∧ j = .int .i64 b ∧ Hid (∀ x < a, ordL (lnAt C x) l < 0) ∧ Hid (b < n → 0 ≤ ordL (lnAt C b) l) ∧ Below w1.heap.size w1 wr) (fun i j _ => (intOf j).toNat - (intOf i).toNat)
  case atStart => exact ⟨0, n, Nat.zero_le _, Nat.le_refl _, rfl, rfl, hid (by simp), hid (fun h => absurd h (by omega)), Below.refl _ _⟩
  case round =>
    obtain ⟨a, b, hab, hbn, rfl, rfl, H1, H2, hbr⟩ := hrel
    by_cases hlt : a < b
    · obtain ⟨m, hm, hma, hmb⟩ : ∃ m : Nat, ((a : Int) + (b : Int)) / 2 = (m : Int) ∧ a ≤ m ∧ m < b := ⟨(a + b) / 2, by omega, by omega, by omega⟩
      have HMM := hid hm
      clear hm
      go_upto_region 5 with fail
      rw [HMM.out]
      obtain ⟨bb, off, rfl, hbl, hcl⟩ := sl_ln (HSL.out.below (hb0.trans (hbr.mono hb0.size))) (show m < n by omega)
      have HCL : Hid (∀ wS, Below wr.heap.size wr wS → wS.rangeAt bb (off + m * 4) (lnC (lnAt C m))) := fun wS hb => range_below hcl hbl hb
      have HBX : Hid (∀ wS, Below wr.heap.size wr wS → wS.heap[w.heap.size]? = some (.cells (lnV l) 29 (0, 0))) := fun wS hb => blk_below (blk_below hx0 hbr hl0) hb (Nat.lt_of_lt_of_le hl0 hbr.size)
      have HOR : Hid (∀ w', Calls Tryz.prog 52 #[.agg (lnV (lnAt C m)), .agg (lnV l)] w' fun e w'' => e = .returned (.int .i64 (ordL (lnAt C m) l)) ∧ Below w'.heap.size w' w'') := fun w' => order_any _ _ w'
      have HLO : Hid (ordL (lnAt C m) l < 0 → ∀ x < m + 1, ordL (lnAt C x) l < 0) := fun h x hx => HM.out x m (by omega) (by omega) h
      have HHI : Hid (¬ ordL (lnAt C m) l < 0 → m < n → 0 ≤ ordL (lnAt C m) l) := fun h _ => by omega
      obtain ⟨lm, hlm⟩ : ∃ lm, lm = lnAt C m := ⟨_, rfl⟩
      rw [← hlm] at HCL HOR HLO HHI
      have HLM := hid hlm
      obtain ⟨o, hoo⟩ : ∃ o, o = ordL lm l := ⟨_, rfl⟩
      rw [← hoo] at HOR HLO HHI
      have HOO := hid hoo
      clear hcl HMM hlm hoo
      refine wp_region_loud (fun _ => False) [(4, plainL [] (.agg (lnV lm))), (5, plainL [] (.agg (lnV l))), (6, plainL [] (.int .i64 o))] (fun _ => Fact.none) (by kernel_rfl) (by kernel_rfl)
        (.cons (plainL_ok _ _) (.cons (plainL_ok _ _) (.cons (plainL_ok _ _) .nil))) good_nothing sat_none (WX.out ?_)
      repeat (first | (refine wx_quietU (by rfl) (by rfl) (by rfl) (fun K hK => ?_); go_big_quiet_op; refine hK _ ?_; clear hK K) | (refine wx_quietG (by rfl) (by rfl) (by rfl) (by rfl) (by rfl) (fun K hK => ?_); go_big_quiet_op; refine hK _ ?_; clear hK K) | (refine wx_skipG (by rfl) (by rfl) (by rfl) (fun K hK => ?_); go_simp; refine hK _ ?_; clear hK K) | (refine wx_skipN (by rfl) (by rfl) (by rfl) (fun K hK => ?_); go_simp; refine hK _ ?_; clear hK K))
      refine wx_loudU (us := []) (by rfl) (by rfl) (fun S wS hC hS hU => ?_) (fun v hv K hK => ?_)
      · exact runs_load_mid 29 (.tmp 27) rfl bb (off + m * 4) rfl (lnC lm) _ (HCL.out wS hC.below) Tryz.underlying29 rfl i4 ⟨rfl, Kept.refl _ _, trivial⟩
      obtain rfl := hv; (go_simp; refine hK _ ?_; clear hK K)
      repeat (first | (refine wx_quietU (by rfl) (by rfl) (by rfl) (fun K hK => ?_); go_big_quiet_op; refine hK _ ?_; clear hK K) | (refine wx_quietG (by rfl) (by rfl) (by rfl) (by rfl) (by rfl) (fun K hK => ?_); go_big_quiet_op; refine hK _ ?_; clear hK K) | (refine wx_skipG (by rfl) (by rfl) (by rfl) (fun K hK => ?_); go_simp; refine hK _ ?_; clear hK K) | (refine wx_skipN (by rfl) (by rfl) (by rfl) (fun K hK => ?_); go_simp; refine hK _ ?_; clear hK K))
      refine wx_loudU (us := []) (by rfl) (by rfl) (fun S wS hC hS hU => ?_) (fun v hv K hK => ?_)
      · exact runs_load_whole 29 (.tmp 4) rfl w.heap.size rfl 29 (lnV l) (0, 0) _ (HBX.out wS hC.below) Tryz.underlying29 rfl i4 ⟨rfl, Kept.refl _ _, trivial⟩
      obtain rfl := hv; (go_simp; refine hK _ ?_; clear hK K)
      repeat (first | (refine wx_quietU (by rfl) (by rfl) (by rfl) (fun K hK => ?_); go_big_quiet_op; refine hK _ ?_; clear hK K) | (refine wx_quietG (by rfl) (by rfl) (by rfl) (by rfl) (by rfl) (fun K hK => ?_); go_big_quiet_op; refine hK _ ?_; clear hK K) | (refine wx_skipG (by rfl) (by rfl) (by rfl) (fun K hK => ?_); go_simp; refine hK _ ?_; clear hK K) | (refine wx_skipN (by rfl) (by rfl) (by rfl) (fun K hK => ?_); go_simp; refine hK _ ?_; clear hK K))
      refine wx_loudU (us := []) (by rfl) (by rfl) (fun S wS hC hS hU => runs_enter (f := 52) (by go_simp <;> rfl) ?_) (fun v hv K hK => ?_)
      · refine (HOR.out wS).mono ?_
        rintro e w' ⟨rfl, hb⟩
        exact ⟨_, rfl, rfl, Kept.of_below hb, trivial⟩
      obtain rfl := hv; (go_simp; refine hK _ ?_; clear hK K)
      repeat (first | (refine wx_quietU (by rfl) (by rfl) (by rfl) (fun K hK => ?_); go_big_quiet_op; refine hK _ ?_; clear hK K) | (refine wx_quietG (by rfl) (by rfl) (by rfl) (by rfl) (by rfl) (fun K hK => ?_); go_big_quiet_op; refine hK _ ?_; clear hK K) | (refine wx_skipG (by rfl) (by rfl) (by rfl) (fun K hK => ?_); go_simp; refine hK _ ?_; clear hK K) | (refine wx_skipN (by rfl) (by rfl) (by rfl) (fun K hK => ?_); go_simp; refine hK _ ?_; clear hK K))
      refine wx_nil fun w3 hsat => ?_
      have hb3 := sat_below hsat
      have hbr3 := hbr.trans (hb3.mono hbr.size)
      clear hsat hb3 HOR HCL HBX
      by_cases ho : o < 0
      · have HL1 := hid (HLO.out ho)
        clear HLO HHI H1
        go_wp2_with fail
        go_light
        exact ⟨⟨m + 1, b, by omega, hbn, by go_num, rfl, HL1, H2, hbr3⟩, by simp [intOf]; omega⟩
      · have HL2 := hid (HHI.out ho)
        clear HLO HHI H2
        go_wp2_with fail
        go_light
        exact ⟨⟨a, m, by omega, by omega, rfl, rfl, H1, hid (fun hn => by rw [← HLM.out, ← HOO.out]; exact HL2.out hn), hbr3⟩, by simp [intOf]; omega⟩
    · obtain rfl : a = b := by omega
      by_cases han : a < n
      · obtain ⟨bb, off, rfl, hbl, hcl⟩ := sl_ln (HSL.out.below (hb0.trans (hbr.mono hb0.size))) han
        have HCL : Hid (∀ wS, Below wr.heap.size wr wS → wS.rangeAt bb (off + a * 4) (lnC (lnAt C a))) := fun wS hb => range_below hcl hbl hb
        have HBX : Hid (∀ wS, Below wr.heap.size wr wS → wS.heap[w.heap.size]? = some (.cells (lnV l) 29 (0, 0))) := fun wS hb => blk_below (blk_below hx0 hbr hl0) hb (Nat.lt_of_lt_of_le hl0 hbr.size)
        have HOR : Hid (∀ w', Calls Tryz.prog 52 #[.agg (lnV (lnAt C a)), .agg (lnV l)] w' fun e w'' => e = .returned (.int .i64 (ordL (lnAt C a) l)) ∧ Below w'.heap.size w' w'') := fun w' => order_any _ _ w'
        have HPO : Hid (SearchPost C l n (.returned (.tuple #[.int .i64 (a : Int), .bool (decide (ordL (lnAt C a) l = 0))]))) := by
          refine ⟨a, _, rfl, hbn, H1.out, fun h => ⟨han, of_decide_eq_true h⟩, fun h hn => ?_⟩
          have h1 := of_decide_eq_false h
          have h2 := H2.out hn
          omega
        clear hcl H1 H2
        generalize lnAt C a = lm at *
        generalize ordL lm l = o at *
        go_upto_region 8 with fail
        refine wp_region_loud (fun _ => False) [(9, plainL [] (.agg (lnV lm))), (10, plainL [] (.agg (lnV l))), (11, plainL [] (.int .i64 o))] (fun _ => Fact.none) (by kernel_rfl) (by kernel_rfl)
          (.cons (plainL_ok _ _) (.cons (plainL_ok _ _) (.cons (plainL_ok _ _) .nil))) good_nothing sat_none (WX.out ?_)
        repeat (first | (refine wx_quietU (by rfl) (by rfl) (by rfl) (fun K hK => ?_); go_big_quiet_op; refine hK _ ?_; clear hK K) | (refine wx_quietG (by rfl) (by rfl) (by rfl) (by rfl) (by rfl) (fun K hK => ?_); go_big_quiet_op; refine hK _ ?_; clear hK K) | (refine wx_skipG (by rfl) (by rfl) (by rfl) (fun K hK => ?_); go_simp; refine hK _ ?_; clear hK K) | (refine wx_skipN (by rfl) (by rfl) (by rfl) (fun K hK => ?_); go_simp; refine hK _ ?_; clear hK K))
        refine wx_loudG (us := []) (by rfl) (by rfl) (by rfl) (by rfl) (fun S wS hC hS hU => ?_) (fun v hv K hK => ?_)
        · exact runs_load_mid 29 (.tmp 43) rfl bb (off + a * 4) rfl (lnC lm) _ (HCL.out wS hC.below) Tryz.underlying29 rfl i4 ⟨rfl, Kept.refl _ _, trivial⟩
        obtain rfl := hv; (go_simp; refine hK _ ?_; clear hK K)
        repeat (first | (refine wx_quietU (by rfl) (by rfl) (by rfl) (fun K hK => ?_); go_big_quiet_op; refine hK _ ?_; clear hK K) | (refine wx_quietG (by rfl) (by rfl) (by rfl) (by rfl) (by rfl) (fun K hK => ?_); go_big_quiet_op; refine hK _ ?_; clear hK K) | (refine wx_skipG (by rfl) (by rfl) (by rfl) (fun K hK => ?_); go_simp; refine hK _ ?_; clear hK K) | (refine wx_skipN (by rfl) (by rfl) (by rfl) (fun K hK => ?_); go_simp; refine hK _ ?_; clear hK K))
        refine wx_loudG (us := []) (by rfl) (by rfl) (by rfl) (by rfl) (fun S wS hC hS hU => ?_) (fun v hv K hK => ?_)
        · exact runs_load_whole 29 (.tmp 4) rfl w.heap.size rfl 29 (lnV l) (0, 0) _ (HBX.out wS hC.below) Tryz.underlying29 rfl i4 ⟨rfl, Kept.refl _ _, trivial⟩
        obtain rfl := hv; (go_simp; refine hK _ ?_; clear hK K)
        repeat (first | (refine wx_quietU (by rfl) (by rfl) (by rfl) (fun K hK => ?_); go_big_quiet_op; refine hK _ ?_; clear hK K) | (refine wx_quietG (by rfl) (by rfl) (by rfl) (by rfl) (by rfl) (fun K hK => ?_); go_big_quiet_op; refine hK _ ?_; clear hK K) | (refine wx_skipG (by rfl) (by rfl) (by rfl) (fun K hK => ?_); go_simp; refine hK _ ?_; clear hK K) | (refine wx_skipN (by rfl) (by rfl) (by rfl) (fun K hK => ?_); go_simp; refine hK _ ?_; clear hK K))
        refine wx_loudG (us := []) (by rfl) (by rfl) (by rfl) (by rfl) (fun S wS hC hS hU => runs_enter (f := 52) (by go_simp <;> rfl) ?_) (fun v hv K hK => ?_)
        · refine (HOR.out wS).mono ?_
          rintro e w' ⟨rfl, hb⟩
          exact ⟨_, rfl, rfl, Kept.of_below hb, trivial⟩
        obtain rfl := hv; (go_simp; refine hK _ ?_; clear hK K)
        repeat (first | (refine wx_quietU (by rfl) (by rfl) (by rfl) (fun K hK => ?_); go_big_quiet_op; refine hK _ ?_; clear hK K) | (refine wx_quietG (by rfl) (by rfl) (by rfl) (by rfl) (by rfl) (fun K hK => ?_); go_big_quiet_op; refine hK _ ?_; clear hK K) | (refine wx_skipG (by rfl) (by rfl) (by rfl) (fun K hK => ?_); go_simp; refine hK _ ?_; clear hK K) | (refine wx_skipN (by rfl) (by rfl) (by rfl) (fun K hK => ?_); go_simp; refine hK _ ?_; clear hK K))
        refine wx_nil fun w3 hsat => ?_
        have hb3 := sat_below hsat
        have hbw3 := hb0.trans ((hbr.trans (hb3.mono hbr.size)).mono hb0.size)
        clear hsat hb3 HOR HCL HBX
        go_wp2_with fail
        refine bodyPost_ret (v := .tuple #[.int .i64 (a : Int), .bool (decide (o = 0))]) (by simp [results, Tryz.results51, go_sem]; try rfl) rfl ⟨HPO.out, hbw3⟩
      · obtain rfl : a = n := by omega
        have HPO : Hid (SearchPost C l a (.returned (.tuple #[.int .i64 (a : Int), .bool false]))) := ⟨a, false, rfl, Nat.le_refl _, H1.out, (fun h => by cases h), fun _ h => absurd h (by omega)⟩
        have hbw3 := hb0.trans (hbr.mono hb0.size)
        clear H1 H2
        go_upto_region 8 with fail
        refine wp_region_loud (fun _ => False) [(9, plainL [] undef), (10, plainL [] undef), (11, plainL [] undef)] (fun _ => Fact.none) (by kernel_rfl) (by kernel_rfl)
          (.cons (plainL_ok _ _) (.cons (plainL_ok _ _) (.cons (plainL_ok _ _) .nil))) good_nothing sat_none (WX.out ?_)
        repeat (first | (refine wx_quietU (by rfl) (by rfl) (by rfl) (fun K hK => ?_); go_big_quiet_op; refine hK _ ?_; clear hK K) | (refine wx_quietG (by rfl) (by rfl) (by rfl) (by rfl) (by rfl) (fun K hK => ?_); go_big_quiet_op; refine hK _ ?_; clear hK K) | (refine wx_skipG (by rfl) (by rfl) (by rfl) (fun K hK => ?_); go_simp; refine hK _ ?_; clear hK K) | (refine wx_skipN (by rfl) (by rfl) (by rfl) (fun K hK => ?_); go_simp; refine hK _ ?_; clear hK K))
        refine wx_nil fun w3 hsat => ?_
        have hb3 := sat_below hsat
        replace hbw3 := hbw3.trans (hb3.mono hbw3.size)
        clear hsat hb3
        go_wp2_with fail
        refine bodyPost_ret (v := .tuple #[.int .i64 (a : Int), .bool false]) (by simp [results, Tryz.results51, go_sem]) rfl ⟨HPO.out, hbw3⟩
end CF
end Go.Proofs.YtecfkhgocjbocaaGreatDoor
