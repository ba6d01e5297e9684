/-
  Contract of package conf: Set.
-/
import Derived.Test.YtecfkhgocjbocaaGreatDoorCf3
import Derived.Test.YtecfkhgocjbocaaGreatDoorCf4
import Derived.Test.YtecfkhgocjbocaaGreatDoorCf6
import Derived.Test.YtecfkhgocjbocaaGreatDoorRb1
namespace Go.Proofs.YtecfkhgocjbocaaGreatDoor
set_option linter.unusedVariables false
set_option linter.unusedSimpArgs false
open Go Go.RowKit

namespace CF
/-- lines and an error handed back -/
def ConfPost (D : List Ln) (er : Int) (e : Ending) (w' : World) : Prop := ∃ A' c', e = .returned (.tuple #[.slice A' D.length c', .int .i64 er]) ∧ Sl w' 4 (.slice A' D.length c') (LNS D)
theorem sl_setrow {w w' : World} {B g n c i : Nat} {C : List Ln} (l : Ln) (hown : w.ownsRow B 29 4 (.slice (some ⟨g, 0, none⟩) n c) n (LNS C)) (hi : i < n) (hw : w' = w.setCells g (i * 4) (lnC l)) :
    Sl w' 4 (.slice (some ⟨g, 0, none⟩) n c) (LNS (C.set i l)) := by
  obtain ⟨hBg, hgl, hnc, hcm, hxl, hsome, hfz, hcell, hshape⟩ := own_row hown
  rw [LNS_length] at hxl
  have hv : (lnC l).length = 4 := rfl
  subst hw
  refine ⟨_, _, _, rfl, by rw [LNS_length, List.length_set]; omega, hnc, hcm, fun _ => ⟨g, 0, rfl, by rw [setCells_size]; exact hgl, fun j hj => ?_⟩⟩
  rw [Nat.zero_add]
  have e1 : (LNS (C.set i l))[j]? = (lnC (lnAt (C.set i l) (j / 4)))[j % 4]? := by
    have := LNS_get (C.set i l) (j / 4) (by rw [List.length_set]; omega) (j % 4) (by omega)
    rwa [show j / 4 * 4 + j % 4 = j by omega] at this
  have e2 : (LNS C)[j]? = (lnC (lnAt C (j / 4)))[j % 4]? := by
    have := LNS_get C (j / 4) (by omega) (j % 4) (by omega)
    rwa [show j / 4 * 4 + j % 4 = j by omega] at this
  by_cases hin : i * 4 ≤ j ∧ j < i * 4 + 4
  · have := World.cell?_setCells_in g (lnC l) (i * 4) w (fun k hk => hsome _ (by omega)) (j - i * 4) (by omega)
    rw [show i * 4 + (j - i * 4) = j by omega] at this
    rw [this, e1]
    have e3 : j / 4 = i := by omega
    have e4 : lnAt (C.set i l) i = l := by rw [lnAt_get _ _ (by rw [List.length_set]; omega)]; simp
    rw [e3, e4, show j % 4 = j - i * 4 by omega, List.getElem?_eq_getElem (by omega)]
  · rw [World.cell?_setCells_out g (lnC l) (i * 4) w ⟨g, j, none⟩ (fun _ _ => by show j < _ ∨ _ ≤ j; omega), hcell j (by omega), e1, e2]
    have e3 : lnAt (C.set i l) (j / 4) = lnAt C (j / 4) := by
      have hlt : j / 4 < C.length := by omega
      have hne : i ≠ j / 4 := by omega
      rw [lnAt_get _ _ (by rw [List.length_set]; omega), lnAt_get _ _ hlt, List.getElem_set_ne hne]
    rw [e3]
theorem LNS_ins (C : List Ln) (l : Ln) (i : Nat) (hi : i ≤ C.length) : (LNS C).take (i * 4) ++ lnC l ++ (LNS C).drop (i * 4) = LNS (C.take i ++ l :: C.drop i) := by
  have h1 : LNS C = LNS (C.take i) ++ LNS (C.drop i) := by rw [← LNS_append, List.take_append_drop]
  have h2 : (LNS (C.take i)).length = i * 4 := by rw [LNS_length, List.length_take]; omega
  rw [LNS_append, h1, List.take_append_of_le_length (by omega), List.take_of_length_le (by omega), List.drop_append_of_le_length (by omega), List.drop_of_length_le (by omega), List.append_assoc, List.nil_append]
  rfl
set_option maxRecDepth 100000 in
set_option maxHeartbeats 3200000 in
theorem Set_any (C : List Ln) (l : Ln) (A : Option Addr) (n c : Nat) (w : World) (h : Sl w 4 (.slice A n c) (LNS C)) (hC : ∀ l ∈ C, LnOk l) (hl : LnOk l) (hen : Env w) :
    Calls Tryz.prog 13 #[.slice A n c, .agg (lnV l)] w fun e w' => ConfPost (setC C l) (setE C l) e w' ∧ Below w.heap.size w w' := by
  have hn := (sl_lns h).1
  have HE1 : Hid (RightC C = false → setE C l = 1) := fun h => by unfold setE; rw [h]; rfl
  have HE2 : Hid (rightL l = false → setE C l = 1) := fun h => by unfold setE; rw [h, Bool.and_false]; rfl
  have HE3 : Hid (RightC C = true → rightL l = true → setE C l = if (insC C l).length ≤ 64 then 0 else 5) := fun h h2 => by unfold setE; rw [h, h2]; rfl
  have HSC : Hid (setC C l = if setE C l = 0 then insC C l else []) := rfl
  have HR : Hid (RightC C = true → Srt C ∧ n ≤ 64) := fun h => ⟨((RightC_iff C).1 h).2.1, by have := ((RightC_iff C).1 h).2.2; omega⟩
  have HRC : Hid (∀ w', Below w.heap.size w w' → Calls Tryz.prog 33 #[.slice A n c] w' fun e w'' => e = .returned (.bool (RightC C)) ∧ Below w'.heap.size w' w'') := fun w' hb => Right_any C A n c w' (h.below hb) hC (hen.below hb)
  have HRL : Hid (∀ w', Below w.heap.size w w' → Calls Tryz.prog 50 #[.agg (lnV l)] w' fun e w'' => e = .returned (.bool (rightL l)) ∧ Below w'.heap.size w' w'') := fun w' hb => right_any l w' hl (hen.below hb)
  have HSL := hid h
  have HN := hid hn
  clear h hC hl hen hn
  obtain ⟨hb0, hx0, hl0⟩ := box1 w (.cells (lnV l) 29)
  go_enter Tryz.func13, Tryz.ntmps13
  go_upto_region 1 with fail
  generalize w.alloc (.cells (lnV l) 29) = w1 at *
  go_wp2_with fail
  refine (HRC.out w1 hb0).mono ?_
  rintro e w2 ⟨rfl, hb2⟩
  have hbw2 := hb0.trans (hb2.mono hb0.size)
  have hx2 := blk_below hx0 hb2 hl0
  clear hb2 hx0 hl0 HRC hb0
  cases b1 : RightC C with
  | false =>
    have HE := hid (HE1.out b1)
    clear HE1 HE2 HE3 HR b1
    go_wp2_with fail
    go_ret2
    refine ⟨?_, hbw2⟩
    have hs := HSC.out
    rw [HE.out] at hs ⊢
    rw [hs]
    exact ⟨none, 0, rfl, sl_nil _ _ _ (by omega)⟩
  | true =>
    obtain ⟨hs, hn64⟩ := HR.out b1
    have HS := hid hs
    have HB1 := hid b1
    clear HE1 HR b1 hs
    go_wp2_with (refine CF.wpList_load_rowG (by rfl) 29 (.tmp 3) rfl w.heap.size rfl 29 (lnV l) (0, 0) _ hx2 Tryz.underlying29 rfl i4 ?_)
    refine (HRL.out w2 hbw2).mono ?_
    rintro e w3 ⟨rfl, hb3⟩
    have hbw3 := hbw2.trans (hb3.mono hbw2.size)
    have hx3 := blk_below hx2 hb3 (blk_lt hx2)
    clear hb3 hx2 hbw2 HRL
    cases b2 : rightL l with
    | false =>
      have HE := hid (HE2.out b2)
      clear HE2 HE3 b2
      go_wp2_with fail
      go_ret2
      refine ⟨?_, hbw3⟩
      have hs := HSC.out
      rw [HE.out] at hs ⊢
      rw [hs]
      exact ⟨none, 0, rfl, sl_nil _ _ _ (by omega)⟩
    | true =>
      have HE := hid (HE3.out HB1.out b2)
      clear HE2 HE3 b2
      go_wp2_with (refine wpList_load_row rfl 29 (.tmp 3) rfl w.heap.size rfl 29 (lnV l) (0, 0) _ hx3 Tryz.underlying29 rfl i4 ?_)
      refine (search_any C l A n c w3 (HSL.out.below hbw3) HS.out (by omega)).mono ?_
      rintro e w4 ⟨⟨i, found, rfl, hi, hj, hf1, hf2⟩, hb4⟩
      have hbw4 := hbw3.trans (hb4.mono hbw3.size)
      have hx4 := blk_below hx3 hb4 (blk_lt hx3)
      have HJ := hid hj
      have HF1 := hid hf1
      have HF2 := hid hf2
      clear hb4 hx3 hbw3 hj hf1 hf2
      go_wp2_with fail
      refine (clone_any C A n c w4 (HSL.out.below hbw4) (by omega)).mono ?_
      rintro e w5 ⟨A5, c5, rfl, hown, hb5⟩
      have hbw5 := hbw4.trans (hb5.mono hbw4.size)
      have hx5 := blk_below hx4 hb5 (blk_lt hx4)
      have hs45 := hb5.size
      have hlx := blk_lt hx4
      clear hb5 hx4
      cases found with
      | true =>
        obtain ⟨hin, hz⟩ := HF1.out rfl
        have HI : Hid (insC C l = C.set i l) := ins_eq C l i (by have := HN.out; omega) HJ.out hz
        clear HF1 HF2 HJ hz
        obtain ⟨g, rfl, hg1, hg2⟩ := own_some hown (by omega)
        have hcap := sl_lns (own_sl hown)
        obtain ⟨hc1, hc2, hc3⟩ := hcap
        have hth : w5.there g (i * 4) (lnV l).size := fun j hj => by
          obtain ⟨_, _, _, _, _, hsome, hfz, _⟩ := own_row hown
          have hj4 : j < 4 := hj
          exact ⟨hsome _ (by omega), hfz _⟩
        have HOW := hid hown
        clear hown hc1
        go_wp2_with (first | refine wpList_load_row rfl 29 (.tmp 3) rfl w.heap.size rfl 29 (lnV l) (0, 0) _ hx5 Tryz.underlying29 rfl i4 ?_ | refine wpList_store_mid rfl 29 (.tmp 29) (.tmp 28) rfl g (i * 4) (lnV l) rfl rfl hth i4 (lnV_one l) ?_)
        go_ret2
        have hbz : Below w.heap.size w (w5.setCells g (i * 4) (lnC l)) := below_setCells (by omega) _ _ _ hbw5
        refine ⟨?_, hbz⟩
        have hle : (insC C l).length = n := by rw [HI.out, List.length_set]; exact HN.out
        have he := HE.out
        rw [if_pos (by omega)] at he
        have hs := HSC.out
        rw [he] at hs ⊢
        rw [hs, if_pos rfl]
        exact ⟨some ⟨g, 0, none⟩, c5, by rw [hle]; rfl, by rw [hle, HI.out]; exact sl_setrow l HOW.out hin rfl⟩
      | false =>
        have HI : Hid (insC C l = C.take i ++ l :: C.drop i) := ins_new C l i (by have := HN.out; omega) HJ.out (fun h => HF2.out rfl (by have := HN.out; omega))
        have hle : (insC C l).length = n + 1 := by
          have := HN.out
          rw [HI.out, List.length_append, List.length_cons, List.length_take, List.length_drop]
          omega
        have HLE := hid hle
        clear HF1 HF2 HJ hle
        by_cases h64 : n = 64
        · have t64 : ((n : Int) == 64) = true := by rw [beq_iff_eq]; omega
          have he := HE.out
          rw [HLE.out, if_neg (by omega)] at he
          have HE5 := hid he
          clear he HE hx5 h64
          go_wp2_with fail
          go_ret2
          refine ⟨?_, hbw5⟩
          have hs := HSC.out
          rw [HE5.out] at hs ⊢
          rw [hs]
          exact ⟨none, 0, rfl, sl_nil _ _ _ (by omega)⟩
        · have t64 : ((n : Int) == 64) = false := by rw [beq_eq_false_iff_ne]; omega
          have he := HE.out
          rw [HLE.out, if_pos (by omega)] at he
          have HE0 := hid he
          clear he HE h64
          obtain ⟨hb6, hg6, hl6⟩ := box1 w5 (.cells (lnV l) 29)
          have hown6 := hown.kept (below_grown (hb6) none) (by cases A5 <;> simp [Value.ownBlock])
          go_upto_region 10 with fail
          go_wp2_with (first | refine wpList_load_row rfl 29 (.tmp 3) rfl w.heap.size rfl 29 (lnV l) (0, 0) _ hx5 Tryz.underlying29 rfl i4 ?_ | refine wpList_build1 rfl st_lns2 (.tmp 36) rfl (lnV l) rfl rfl (by omega) (by omega) ?_)
          generalize w5.alloc (.cells (lnV l) 29) = w6 at *
          have hbw6 := hbw5.trans (hb6.mono hbw5.size)
          have HPO : Hid (∀ A' c' w', Sl w' 4 (.slice A' (n + 1) c') ((LNS C).take (i * 4) ++ lnC l ++ (LNS C).drop (i * 4)) → ConfPost (setC C l) (setE C l) (.returned (.tuple #[.slice A' (n + 1) c', .int .i64 0])) w') := by
            intro A' c' w' hsl
            have hs := HSC.out
            rw [HE0.out] at hs ⊢
            rw [hs, if_pos rfl]
            rw [LNS_ins C l i (by have := HN.out; omega), ← HI.out] at hsl
            exact ⟨A', c', by rw [HLE.out], by rw [HLE.out]; exact hsl⟩
          have hs56 := hb6.size
          have hw56 : w4.heap.size ≤ w6.heap.size := by omega
          have hX1 : ∀ u ∈ LNS C, u.oneCell' = true := LNS_one C
          have hins : Calls Tryz.prog 54 #[.slice A5 n c5, .int .i64 (i : Int), .slice (some ⟨w5.heap.size, 0, none⟩) 1 1] w6 (InsPost w4.heap.size n ((LNS C).take (i * 4) ++ lnC l ++ (LNS C).drop (i * 4)) w6) := by
            by_cases hin : i = n
            · subst hin
              rw [List.take_of_length_le (by rw [LNS_length]; have := HN.out; omega), List.drop_of_length_le (by rw [LNS_length]; have := HN.out; omega), List.append_nil]
              exact insert_end w4.heap.size A5 i c5 w5.heap.size (LNS C) l w6 hown6 hg6 (by omega) hw56
            · obtain ⟨g, rfl, hg1, hg2⟩ := own_some hown (by omega)
              by_cases hr : n + 1 ≤ c5
              · exact insert_shift w4.heap.size g n c5 i w5.heap.size (LNS C) l w6 hown6 hX1 hg6 (by omega) (by omega) (by omega) hr hw56
              · exact insert_grow w4.heap.size g n c5 i w5.heap.size (LNS C) l w6 hown6 hX1 hg6 (by omega) (by omega) (by omega) hw56
          have HINS := hid hins
          clear hins hown hown6 hg6 hx5 hX1 HLE HSC HE0 HI HS HB1 HSL
          refine HINS.out.mono ?_
          rintro e w7 ⟨A7, c7, rfl, hsl7, hb7⟩
          have hbz : Below w.heap.size w w7 := hbw6.trans (hb7.mono (by omega))
          have HFIN := hid (HPO.out A7 c7 w7 hsl7)
          clear HPO hsl7 HINS
          go_wp2_with fail
          go_ret2
          exact ⟨HFIN.out, hbz⟩
end CF
end Go.Proofs.YtecfkhgocjbocaaGreatDoor
