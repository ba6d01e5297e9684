/-
  Contract of layer 4's reference: Word.
-/
import Derived.Test.YtecfkhgocjbocaaGreatDoorSx4
namespace Go.Proofs.YtecfkhgocjbocaaGreatDoor
set_option linter.unusedVariables false
set_option linter.unusedSimpArgs false
open Go Go.RowKit

def isSgn (l : List UInt8) : Bool := l == [123] || l == [125] || l == [59]
theorem isSgn_iff (l : List UInt8) : isSgn l = true ↔ ∃ c, l = [c] ∧ LX.sgn c = true := by
  unfold isSgn
  simp only [Bool.or_eq_true, beq_iff_eq]
  constructor
  · rintro ((rfl | rfl) | rfl)
    · exact ⟨123, rfl, rfl⟩
    · exact ⟨125, rfl, rfl⟩
    · exact ⟨59, rfl, rfl⟩
  · rintro ⟨c, rfl, hc⟩
    have h : ∀ (k : UInt8), c.toNat = k.toNat → c = k := fun k h => UInt8.toNat_inj.1 h
    simp [LX.sgn] at hc
    rcases hc with (hc | hc) | hc
    · exact .inl (.inl (by rw [h 123 hc]))
    · exact .inl (.inr (by rw [h 125 hc]))
    · exact .inr (by rw [h 59 hc])
theorem isW_one (s : ByteArray) : LX.isW (bl s) = (decide ((LX.run (bl s) 0 []).2.2 = 0) && decide ((LX.run (bl s) 0 []).1 = [bl s]) && !isSgn (bl s)) := by
  rw [Bool.eq_iff_iff, LX.one_iff]
  simp only [Bool.and_eq_true, decide_eq_true_eq, Bool.not_eq_true', and_assoc]
  refine and_congr_right fun _ => and_congr_right fun _ => ?_
  rw [← isSgn_iff]
  simp
set_option maxRecDepth 100000 in
set_option maxHeartbeats 800000 in
theorem refWord_any (s : ByteArray) (w : World) (hs : s.size ≤ 2000000) : Calls Tryz.prog 95 #[.string s] w fun e w' => e = .returned (.bool (LX.isW (bl s))) ∧ Below w.heap.size w w' := by
  have HI := hid (isW_one s)
  have hV := refWords_any s w hs
  have herr := LX.run_err (bl s).length (bl s) 0 [] (Nat.le_refl _)
  generalize LX.run (bl s) 0 [] = R at *
  obtain ⟨L, at_, er⟩ := R
  simp only at herr hV HI
  go_enter Tryz.func95, Tryz.ntmps95
  go_wp2_with fail
  refine hV.mono ?_
  rintro e w2 ⟨A2, c2, rfl, ho2, hbw2⟩
  have hs2 := own_sl ho2
  clear hV ho2
  rcases herr with rfl | rfl
  · by_cases hl : L.length = 1
    · obtain ⟨x, rfl⟩ : ∃ x, L = [x] := by
        cases L with
        | nil => simp at hl
        | cons x r => cases r with
          | nil => exact ⟨x, rfl⟩
          | cons y r => simp at hl
      clear hl
      obtain ⟨b, off, rfl, hb2, p0⟩ := STR_cell hs2 (k := 0) (by simp)
      simp only [List.getD_cons_zero, Nat.add_zero] at p0
      simp only [List.length_cons, List.length_nil, Nat.zero_add]
      have hx8 : (S8 x).toList = x := Lib.toList_data _
      have hs8 : s.toList = bl s := Lib.toList_data _
      have hss : ∀ c : UInt8, (⟨#[c]⟩ : ByteArray).toList = [c] := fun c => Lib.toList_data _
      by_cases hx : x = bl s
      · have t0 : ((S8 x).toList == s.toList) = true := by rw [hx8, hs8, hx]; simp
        have hsg : isSgn (bl s) = (s.toList == [123] || s.toList == [125] || s.toList == [59]) := by
          rw [hs8]
          rfl
        rw [hsg] at HI
        have HX := hid hx
        clear hsg hx hx8 hs8 hss
        generalize S8 x = xx at *
        obtain ⟨b1, h1⟩ : ∃ b, (s.toList == [123]) = b := ⟨_, rfl⟩
        obtain ⟨b2, h2⟩ : ∃ b, (s.toList == [125]) = b := ⟨_, rfl⟩
        obtain ⟨b3, h3⟩ : ∃ b, (s.toList == [59]) = b := ⟨_, rfl⟩
        have HF : Hid (LX.isW (bl s) = (!b1 && !b2 && !b3)) := by
          show _ = _
          rw [HI.out, h1, h2, h3, HX.out]
          simp [Bool.and_assoc]
        clear HI HX
        cases b1 <;> cases b2 <;> cases b3
        all_goals
          simp only [Bool.not_false, Bool.not_true, Bool.and_self, Bool.and_true, Bool.and_false, Bool.false_and] at HF
          go_wp2_with fail
          go_ret
          exact ⟨ret_bool (by rw [HF.out]), hbw2⟩
      · have t0 : ((S8 x).toList == s.toList) = false := by rw [hx8, hs8]; simpa using hx
        have HF : Hid (LX.isW (bl s) = false) := by show _ = _; rw [HI.out]; simp [hx]
        clear hx hx8 hs8 hss HI
        generalize S8 x = xx at *
        go_wp2_with fail
        go_ret
        exact ⟨ret_bool (by rw [HF.out]), hbw2⟩
    · have t0 : ((L.length : Int) == 1) = false := by rw [beq_eq_false_iff_ne]; omega
      have HF : Hid (LX.isW (bl s) = false) := by
        show _ = _
        rw [HI.out]
        have : L ≠ [bl s] := fun e => hl (by rw [e]; rfl)
        simp [this]
      clear HI hs2 hl
      go_wp2_with fail
      go_ret
      exact ⟨ret_bool (by rw [HF.out]), hbw2⟩
  · have HF : Hid (LX.isW (bl s) = false) := by show _ = _; rw [HI.out]; simp
    clear HI hs2
    go_wp2_with fail
    go_ret
    exact ⟨ret_bool (by rw [HF.out]), hbw2⟩
end Go.Proofs.YtecfkhgocjbocaaGreatDoor
