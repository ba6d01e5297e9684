/-
  Contract of package conf: Value.
-/
import Derived.Test.YtecfkhgocjbocaaGreatDoorCf3
import Derived.Test.YtecfkhgocjbocaaGreatDoorCf4
import Derived.Test.YtecfkhgocjbocaaGreatDoorWb
namespace Go.Proofs.YtecfkhgocjbocaaGreatDoor
set_option linter.unusedVariables false
set_option linter.unusedSimpArgs false
open Go Go.RowKit

namespace CF
theorem find_yes (C : List Ln) (l : Ln) (i : Nat) (hi : i < C.length) (h : ∀ j < i, ordL (lnAt C j) l < 0) (h2 : ordL (lnAt C i) l = 0) : C.find? (fun x => decide (ordL x l = 0)) = some (lnAt C i) := by
  rw [List.find?_eq_some_iff_getElem, lnAt_get C i hi]
  rw [lnAt_get C i hi] at h2
  refine ⟨decide_eq_true h2, i, hi, rfl, fun j hj => ?_⟩
  have := h j hj
  rw [lnAt_get C j (by omega)] at this
  simp
  omega
theorem find_no (C : List Ln) (hs : Srt C) (l : Ln) (i : Nat) (h : ∀ j < i, ordL (lnAt C j) l < 0) (h2 : i < C.length → 0 < ordL (lnAt C i) l) : C.find? (fun x => decide (ordL x l = 0)) = none := by
  rw [List.find?_eq_none]
  intro x hx
  obtain ⟨j, hj, rfl⟩ := List.getElem_of_mem hx
  rw [← lnAt_get C j hj]
  have : ordL (lnAt C j) l ≠ 0 := by
    by_cases c1 : j < i
    · have := h j c1; omega
    · have h3 := h2 (by omega)
      by_cases c2 : j = i
      · rw [c2]; omega
      · have h4 : ordL l (lnAt C i) < 0 := by rw [ordL_neg]; omega
        have h5 := ordL_trans _ _ _ h4 (hs i j (by omega) hj)
        rw [ordL_neg] at h5
        omega
  simpa using this
theorem ln_built3 (h : Int) (nm lf : List UInt8) : (Tryz.prog).built 29 [(0, .int .i64 h), (1, .string (S8 nm)), (2, .string (S8 lf))] = some (lnV ⟨h, nm, lf, []⟩) := by kernel_rfl
set_option maxRecDepth 100000 in
set_option maxHeartbeats 3200000 in
theorem Value_any (C : List Ln) (h : Int) (nm lf : List UInt8) (A : Option Addr) (n c : Nat) (w : World) (hsl : Sl w 4 (.slice A n c) (LNS C)) (hC : ∀ l ∈ C, LnOk l) (hen : Env w) :
    Calls Tryz.prog 16 #[.slice A n c, .int .i64 h, .string (S8 nm), .string (S8 lf)] w fun e w' => e = .returned (.string (S8 (valC C h nm lf))) ∧ Below w.heap.size w w' := by
  have hn := (sl_lns hsl).1
  have HV0 : Hid (RightC C = false → valC C h nm lf = []) := fun h => by unfold valC; rw [h]; rfl
  have HV1 : Hid (RightC C = true → ∀ i, i < n → (∀ j < i, ordL (lnAt C j) ⟨h, nm, lf, []⟩ < 0) → ordL (lnAt C i) ⟨h, nm, lf, []⟩ = 0 → valC C h nm lf = (lnAt C i).value) := fun h i hi h1 h2 => by
    unfold valC
    rw [if_pos h, find_yes C _ i (by omega) h1 h2]
  have HV2 : Hid (RightC C = true → ∀ i, (∀ j < i, ordL (lnAt C j) ⟨h, nm, lf, []⟩ < 0) → (i < n → 0 < ordL (lnAt C i) ⟨h, nm, lf, []⟩) → valC C h nm lf = (findR h lf).1.dft) := fun hr i h1 h2 => by
    unfold valC
    rw [if_pos hr, find_no C ((RightC_iff C).1 hr).2.1 _ i h1 (fun h => h2 (by omega))]
  have HR : Hid (RightC C = true → Srt C ∧ n ≤ 64) := fun h => ⟨((RightC_iff C).1 h).2.1, by have := ((RightC_iff C).1 h).2.2; omega⟩
  have HRC := hid (Right_any C A n c w hsl hC hen)
  have HF : Hid (∀ w', Calls Tryz.prog 55 #[.int .i64 h, .string (S8 lf)] w' fun e w'' => ∃ A, e = .returned (.tuple #[.agg (rwV (findR h lf).1 A), .bool (findR h lf).2]) ∧ Below w'.heap.size w' w'') :=
    fun w' => (find_new h (S8 lf) w').mono fun e w'' ⟨A, h1, h2, h3, _⟩ => ⟨A, h1, h2⟩
  have HSL := hid hsl
  have HBL := hid (ln_built3 h nm lf)
  clear hsl hC hen hn
  generalize valC C h nm lf = V at *
  have HSE : Hid (∀ w', Srt C → n ≤ 1000 → Below w.heap.size w w' → Calls Tryz.prog 51 #[.slice A n c, .agg (lnV ⟨h, nm, lf, []⟩), .func (.func 52) #[] #[]] w' fun e w'' => SearchPost C ⟨h, nm, lf, []⟩ n e ∧ Below w'.heap.size w' w'') :=
    fun w' hs hn hb => search_any C _ A n c w' (HSL.out.below hb) hs hn
  generalize hkk : (⟨h, nm, lf, []⟩ : Ln) = K at *
  generalize findR h lf = FR at *
  generalize S8 nm = tn at *
  generalize S8 lf = tf at *
  go_enter Tryz.func16, Tryz.ntmps16
  go_wp2_with fail
  refine HRC.out.mono ?_
  rintro e w1 ⟨rfl, hb1⟩
  clear HRC
  cases b1 : RightC C with
  | false =>
    have HE := hid (HV0.out b1)
    clear HV0 HV1 HV2 HR b1
    go_wp2_with fail
    go_ret
    exact ⟨by rw [HE.out]; rfl, hb1⟩
  | true =>
    obtain ⟨hs, hn64⟩ := HR.out b1
    have HS1 := hid (HSE.out w1 hs (by omega) hb1)
    have HW1 := hid (HV1.out b1)
    have HW2 := hid (HV2.out b1)
    clear HV0 HV1 HV2 HR b1 hs HSE hkk
    go_wp2_with (refine wpList_buildV rfl 29 [(0, .tmp 18), (1, .tmp 19), (2, .tmp 20)] rfl (some 21) rfl [(0, .int .i64 h), (1, .string tn), (2, .string tf)] rfl (lnV K) HBL.out ?_)
    refine HS1.out.mono ?_
    rintro e w2 ⟨⟨i, found, rfl, hi, hj, hf1, hf2⟩, hb2⟩
    have hbw2 := hb1.trans (hb2.mono hb1.size)
    have HJ := hid hj
    have HF1 := hid hf1
    have HF2 := hid hf2
    clear hb2 hb1 hj hf1 hf2 HS1
    cases found with
    | true =>
      obtain ⟨hin, hz⟩ := HF1.out rfl
      have HV := hid (HW1.out i hin HJ.out hz)
      obtain ⟨b, off, rfl, hbl, hcl⟩ := sl_ln (HSL.out.below hbw2) hin
      have hc3 : w2.cell? ⟨b, off + i * 4 + 3, none⟩ = some (.string (S8 (lnAt C i).value)) := hcl 3 _ rfl
      clear hcl hz HW1 HW2 HJ HF1 HF2
      generalize (lnAt C i).value = v at *
      go_wp2_with fail
      go_ret
      exact ⟨by rw [HV.out]; rfl, hbw2⟩
    | false =>
      have HV := hid (HW2.out i HJ.out (HF2.out rfl))
      clear HW1 HW2 HJ HF1 HF2
      obtain ⟨r, ok⟩ := FR
      simp only at HV HF
      go_wp2_with fail
      refine (HF.out w2).mono ?_
      rintro e w3 ⟨A3, rfl, hb3⟩
      have hbw3 := hbw2.trans (hb3.mono hbw2.size)
      obtain ⟨hb4, hg4, hl4⟩ := box1 w3 (.cells (rwV r A3) 93)
      have hi8 : (Tryz.prog.info? 93).map (·.size) = some (rwV r A3).size := i8
      go_upto_region 7 with (refine wpList_store_last rfl 93 (.tmp 11) (.tmp 35) rfl (rwV r A3) rfl rfl hi8 rfl (rwV_one _ _) ?_)
      generalize w3.alloc (.cells (rwV r A3) 93) = w4 at *
      have hbw4 := hbw3.trans (hb4.mono hbw3.size)
      have q6 : w4.cell? ⟨w3.heap.size, 6, none⟩ = some (.string (S8 r.dft)) := by rw [blkCell hg4 6]; rfl
      clear hg4 hb4 hb3 HF
      have HD : Hid (S8 V = S8 r.dft) := by show _ = _; rw [HV.out]
      clear HV
      generalize S8 r.dft = d at *
      go_wp2_with fail
      go_ret
      exact ⟨by rw [HD.out]; rfl, hbw4⟩
end CF
end Go.Proofs.YtecfkhgocjbocaaGreatDoor
