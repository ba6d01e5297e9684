/-
  The walks of the three laws of layer 3.
-/
import Derived.Test.YtfhlidlmipleaaaDoorLx5
namespace Go.Proofs.YtfhlidlmipleaaaDoor
set_option linter.unusedVariables false
set_option linter.unusedSimpArgs false
open Go Go.RowKit

theorem cut_min (s : ByteArray) (k : Nat) : ∃ m : Nat, m ≤ k ∧ m ≤ s.size ∧ min (s.size : Int) (k : Int) = (m : Int) := ⟨min s.size k, by omega, by omega, by omega⟩
theorem ext_size (s : ByteArray) (m : Nat) (h : m ≤ s.size) : (s.extract 0 m).size = m := by
  rw [← bl_len, bl_ext, List.length_take, List.drop_zero, bl_len]
  omega
set_option maxRecDepth 100000 in
set_option maxHeartbeats 800000 in
theorem lexWords_walk (s0 : ByteArray) (w : World) (h0 : s0.size ≤ maxLen) : Calls Tryd.prog 3 #[.string s0] w fun e w' => e = .returned (.bool true) ∧ Below w.heap.size w w' := by
  obtain ⟨m, hm1, hm2, hm⟩ := cut_min s0 200
  have hsz := ext_size s0 m hm2
  have h63 : s0.size ≤ 9223372036854775807 := by simpa [maxLen] using h0
  rw [show ((200 : Nat) : Int) = 200 from rfl] at hm
  go_enter Tryd.func3, Tryd.ntmps3
  go_wp2_with fail
  generalize s0.extract 0 m = s at *
  obtain ⟨R, hR⟩ : ∃ R, LX.run (bl s) 0 [] = R := ⟨_, rfl⟩
  have hW := words_any s w (by omega)
  have hV := fun w1 => refWords_any s w1 (by omega)
  have herr := LX.run_err (bl s).length (bl s) 0 [] (Nat.le_refl _)
  rw [hR] at hW hV herr
  refine hW.mono ?_
  rintro e w1 ⟨A1, c1, rfl, ho1, hb1⟩
  clear hR
  obtain ⟨L, at_, er⟩ := R
  simp only at herr ho1 hV
  go_wp2_with fail
  refine (hV w1).mono ?_
  rintro e w2 ⟨A2, c2, rfl, ho2, hb2⟩
  have hs1 := own_sl (own_below ho1 hb2)
  have hs2 := own_sl ho2
  have hbw2 := hb1.trans (hb2.mono hb1.size)
  clear hV hW ho1 ho2 hb1 hb2
  go_wp2_with fail
  refine (readsLaw_any w2).mono ?_
  rintro e w3 ⟨rfl, hb3⟩
  have hs13 := hs1.below hb3
  have hs23 := hs2.below hb3
  have hbw3 := hbw2.trans (hb3.mono hbw2.size)
  clear hs1 hs2 hb3 hbw2
  go_wp2_with fail
  refine (same_any A1 L.length c1 A2 L.length c2 L L w3 hs13 hs23).mono ?_
  rintro e w4 ⟨rfl, hb4⟩
  have hbw4 := hbw3.trans (hb4.mono hbw3.size)
  rw [show decide (L = L) = true by simp]
  clear hs13 hs23 hbw3 hb4
  rcases herr with rfl | rfl
  · go_wp2_with fail
    go_ret
    exact ⟨rfl, hbw4⟩
  · go_wp2_with fail
    go_ret
    exact ⟨rfl, hbw4⟩
theorem one_str (c d : UInt8) : (⟨#[c]⟩ : ByteArray).toList = [c] := Lib.toList_data _
def isSgn (l : List UInt8) : Bool := l == [123] || l == [125] || l == [59]
theorem isSgn_iff (l : List UInt8) : isSgn l = true ↔ ∃ c, l = [c] ∧ LX.sgn c = true := by
  unfold isSgn
  simp only [Bool.or_eq_true, beq_iff_eq]
  constructor
  · rintro ((rfl | rfl) | rfl)
    · exact ⟨123, rfl, rfl⟩
    · exact ⟨125, rfl, rfl⟩
    · exact ⟨59, rfl, rfl⟩
  · rintro ⟨c, rfl, hc⟩
    have h : ∀ (k : UInt8), c.toNat = k.toNat → c = k := fun k h => UInt8.toNat_inj.1 h
    simp [LX.sgn] at hc
    rcases hc with (hc | hc) | hc
    · exact .inl (.inl (by rw [h 123 hc]))
    · exact .inl (.inr (by rw [h 125 hc]))
    · exact .inr (by rw [h 59 hc])
end Go.Proofs.YtfhlidlmipleaaaDoor
