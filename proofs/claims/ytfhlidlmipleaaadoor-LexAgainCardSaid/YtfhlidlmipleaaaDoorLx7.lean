/-
  The walk of LexOne.
-/
import Derived.Test.YtfhlidlmipleaaaDoorLx6
namespace Go.Proofs.YtfhlidlmipleaaaDoor
set_option linter.unusedVariables false
set_option linter.unusedSimpArgs false
open Go Go.RowKit

theorem isW_one (s : ByteArray) : LX.isW (bl s) = (decide ((LX.run (bl s) 0 []).2.2 = 0) && decide ((LX.run (bl s) 0 []).1 = [bl s]) && !isSgn (bl s)) := by
  rw [Bool.eq_iff_iff, LX.one_iff]
  simp only [Bool.and_eq_true, decide_eq_true_eq, Bool.not_eq_true', and_assoc]
  refine and_congr_right fun _ => and_congr_right fun _ => ?_
  rw [← isSgn_iff]
  simp
set_option maxRecDepth 100000 in
set_option maxHeartbeats 800000 in
theorem lexOne_walk (s0 : ByteArray) (w : World) (h0 : s0.size ≤ maxLen) : Calls Tryd.prog 5 #[.string s0] w fun e w' => e = .returned (.bool true) ∧ Below w.heap.size w w' := by
  obtain ⟨m, hm1, hm2, hm⟩ := cut_min s0 60
  have hsz := ext_size s0 m hm2
  have h63 : s0.size ≤ 9223372036854775807 := by simpa [maxLen] using h0
  rw [show ((60 : Nat) : Int) = 60 from rfl] at hm
  go_enter Tryd.func5, Tryd.ntmps5
  go_wp2_with fail
  generalize s0.extract 0 m = s at *
  have HI := hid (isW_one s)
  have hV := refWords_any s w (by omega)
  have herr := LX.run_err (bl s).length (bl s) 0 [] (Nat.le_refl _)
  generalize LX.run (bl s) 0 [] = R at *
  obtain ⟨L, at_, er⟩ := R
  simp only at herr hV HI
  refine hV.mono ?_
  rintro e w2 ⟨A2, c2, rfl, ho2, hbw2⟩
  have hs2 := own_sl ho2
  clear hV ho2
  rcases herr with rfl | rfl
  · by_cases hl : L.length = 1
    · obtain ⟨x, rfl⟩ : ∃ x, L = [x] := by
        cases L with
        | nil => simp at hl
        | cons x r => cases r with
          | nil => exact ⟨x, rfl⟩
          | cons y r => simp at hl
      clear hl
      obtain ⟨b, off, rfl, hb2, p0⟩ := STR_cell hs2 (k := 0) (by simp)
      simp only [List.getD_cons_zero, Nat.add_zero] at p0
      simp only [List.length_cons, List.length_nil, Nat.zero_add]
      have hx8 : (S8 x).toList = x := Lib.toList_data _
      have hs8 : s.toList = bl s := Lib.toList_data _
      have hss : ∀ c : UInt8, (⟨#[c]⟩ : ByteArray).toList = [c] := fun c => Lib.toList_data _
      by_cases hx : x = bl s
      · have t0 : ((S8 x).toList == s.toList) = true := by rw [hx8, hs8, hx]; simp
        have hsg : isSgn (bl s) = (s.toList == [123] || s.toList == [125] || s.toList == [59]) := by
          rw [hs8]
          rfl
        rw [hsg] at HI
        have HX := hid hx
        clear hsg hx hx8 hs8 hss
        generalize S8 x = xx at *
        obtain ⟨b1, h1⟩ : ∃ b, (s.toList == [123]) = b := ⟨_, rfl⟩
        obtain ⟨b2, h2⟩ : ∃ b, (s.toList == [125]) = b := ⟨_, rfl⟩
        obtain ⟨b3, h3⟩ : ∃ b, (s.toList == [59]) = b := ⟨_, rfl⟩
        have HF : Hid (LX.isW (bl s) = (!b1 && !b2 && !b3)) := by
          show _ = _
          rw [HI.out, h1, h2, h3, HX.out]
          simp [Bool.and_assoc]
        clear HI HX
        cases b1 <;> cases b2 <;> cases b3
        all_goals
          simp only [Bool.not_false, Bool.not_true, Bool.and_self, Bool.and_true, Bool.and_false, Bool.false_and] at HF
          go_wp2_with fail
          refine (readsLaw_any w2).mono ?_
          rintro e w3 ⟨rfl, hb3⟩
          have hbw3 := hbw2.trans (hb3.mono hbw2.size)
          clear hb3 hbw2
          go_wp2_with fail
          refine (isWord_any s w3 (by omega)).mono ?_
          rintro e w4 ⟨rfl, rfl⟩
          rw [HF.out]
          go_wp2_with fail
          go_ret
          exact ⟨rfl, hbw3⟩
      · have t0 : ((S8 x).toList == s.toList) = false := by rw [hx8, hs8]; simpa using hx
        have HF : Hid (LX.isW (bl s) = false) := by show _ = _; rw [HI.out]; simp [hx]
        clear hx hx8 hs8 hss HI
        generalize S8 x = xx at *
        go_wp2_with fail
        refine (readsLaw_any w2).mono ?_
        rintro e w3 ⟨rfl, hb3⟩
        have hbw3 := hbw2.trans (hb3.mono hbw2.size)
        clear hb3 hbw2
        go_wp2_with fail
        refine (isWord_any s w3 (by omega)).mono ?_
        rintro e w4 ⟨rfl, rfl⟩
        rw [HF.out]
        go_wp2_with fail
        go_ret
        exact ⟨rfl, hbw3⟩
    · have t0 : ((L.length : Int) == 1) = false := by rw [beq_eq_false_iff_ne]; omega
      have HF : Hid (LX.isW (bl s) = false) := by
        show _ = _
        rw [HI.out]
        have : L ≠ [bl s] := fun e => hl (by rw [e]; rfl)
        simp [this]
      clear HI hs2 hl
      go_wp2_with fail
      refine (readsLaw_any w2).mono ?_
      rintro e w3 ⟨rfl, hb3⟩
      have hbw3 := hbw2.trans (hb3.mono hbw2.size)
      clear hb3 hbw2
      go_wp2_with fail
      refine (isWord_any s w3 (by omega)).mono ?_
      rintro e w4 ⟨rfl, rfl⟩
      rw [HF.out]
      go_wp2_with fail
      go_ret
      exact ⟨rfl, hbw3⟩
  · have HF : Hid (LX.isW (bl s) = false) := by show _ = _; rw [HI.out]; simp
    clear HI hs2
    go_wp2_with fail
    refine (readsLaw_any w2).mono ?_
    rintro e w3 ⟨rfl, hb3⟩
    have hbw3 := hbw2.trans (hb3.mono hbw2.size)
    clear hb3 hbw2
    go_wp2_with fail
    refine (isWord_any s w3 (by omega)).mono ?_
    rintro e w4 ⟨rfl, rfl⟩
    rw [HF.out]
    go_wp2_with fail
    go_ret
    exact ⟨rfl, hbw3⟩
end Go.Proofs.YtfhlidlmipleaaaDoor
