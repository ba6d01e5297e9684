/-
  Contracts of layer 4's reference: Digits, Dotted.
-/
import Derived.Test.YtfojgimficdjhaaGreatDoorScM
import Derived.Test.YtfojgimficdjhaaGreatDoorBl
import Derived.Test.YtfojgimficdjhaaGreatDoorRg1
namespace Go.Proofs.YtfojgimficdjhaaGreatDoor
set_option linter.unusedVariables false
set_option linter.unusedSimpArgs false
open Go Go.RowKit

theorem ba_toL (s : ByteArray) : s.toList = s.data.toList := Lib.toList_data s
/-- what is there, and what is still to come -/
def leftD (m : Nat) (t : List UInt8) : List UInt8 := if t = [] then SC.digs m else if m = 0 then t else SC.digs m ++ t
theorem leftD_step (m : Nat) (t : List UInt8) (h : 0 < m ∨ t = []) : leftD (m / 10) (SC.dg (m % 10) :: t) = leftD m t := by
  unfold leftD
  rw [if_neg (by simp)]
  have e : SC.digs m = if m < 10 then [SC.dg m] else SC.digs (m / 10) ++ [SC.dg (m % 10)] := by rw [SC.digs]
  by_cases hm : m < 10
  · rw [if_pos (show m / 10 = 0 by omega), show m % 10 = m by omega]
    rw [if_pos hm] at e
    by_cases ht : t = []
    · rw [if_pos ht, ht, e]
    · rw [if_neg ht]
      rcases h with h | h
      · rw [if_neg (by omega), e]; rfl
      · exact absurd h ht
  · rw [if_neg (show ¬ m / 10 = 0 by omega)]
    rw [if_neg hm] at e
    by_cases ht : t = []
    · rw [if_pos ht, ht, e]
    · rw [if_neg ht, if_neg (by omega), e]; simp
theorem leftD_le (m : Nat) (t : List UInt8) : t.length ≤ (leftD m t).length := by
  unfold leftD
  split
  · rename_i h; rw [h]; simp
  · split
    · exact Nat.le_refl _
    · simp
theorem leftD_end (t : List UInt8) (h : t ≠ []) : leftD 0 t = t := by
  unfold leftD
  rw [if_neg h, if_pos rfl]
set_option maxRecDepth 100000 in
set_option maxHeartbeats 3200000 in
theorem refDigits_any (N : Nat) (w : World) (hN : N < 9223372036854775808) : Calls Tryz.prog 83 #[.int .i64 (N : Int)] w fun e w' => e = .returned (.string (S8 (SC.digs N))) ∧ Below w.heap.size w w' := by
  have HLN := hid (SC.digs_len N 18 (by omega))
  go_enter Tryz.func83, Tryz.ntmps83
  go_wp2_with fail
  go_loopw [0, 3] (fun n v wr => ∃ (m : Nat) (t : List UInt8), n = .int .i64 m ∧ v = .string (S8 t) ∧ m ≤ N ∧ Hid (leftD m t = SC.digs N) ∧ Below w.heap.size w wr) (fun n v _ => 2 * (intOf n).toNat + (match v with | .string s => if s.size = 0 then 1 else 0 | _ => 0))
  case atStart => exact ⟨N, [], rfl, rfl, Nat.le_refl _, by show _ = _; unfold leftD; rw [if_pos rfl], Below.refl _ _⟩
  case round =>
    obtain ⟨m, t, rfl, rfl, hmN, HLD, hb⟩ := hrel
    have htl : t.length ≤ 19 := by
      have h1 := leftD_le m t
      rw [HLD.out] at h1
      have := HLN.out
      omega
    by_cases hc : 0 < m ∨ t = []
    · have HS := hid ((leftD_step m t hc).trans HLD.out)
      have hmeas : 2 * (m / 10) + (if (S8 (SC.dg (m % 10) :: t)).size = 0 then 1 else 0) < 2 * m + (if (S8 t).size = 0 then 1 else 0) := by
        rw [S8_size, S8_size]
        rcases hc with h | h
        · simp; split <;> omega
        · rw [h]; simp; omega
      have HM := hid hmeas
      clear hmeas
      rcases Nat.eq_zero_or_pos m with hm0 | hm0
      · obtain rfl : t = [] := by
          rcases hc with h | h
          · omega
          · exact h
        subst hm0
        have te : (S8 []).toList.isEmpty = true := by rw [ba_toL]; rfl
        have hdig : ((SC.dg (0 % 10)).toNat : Int) = 48 := by rw [SC.dig_toNat _ (by omega)]; rfl
        have hba := (Below.refl wr.heap.size wr).alloc (Nat.le_refl _) (.cells #[.int .u8 ((SC.dg (0 % 10)).toNat : Int)] 5)
        have hsb : Sl (wr.alloc (.cells #[.int .u8 ((SC.dg (0 % 10)).toNat : Int)] 5)) 1 (.slice (some ⟨wr.heap.size, 0, none⟩) 1 1) (B8 [SC.dg (0 % 10)]) := sl_new wr [SC.dg (0 % 10)] 5 _ 1 _ rfl rfl rfl (by simp)
        have st := str_of (P := Tryz.prog) hsb 55 9 5 Tryz.underlying55 Tryz.underlying5 Tryz.underlying9
        have hadd := fun w' : World => run_string_add_sum (P := Tryz.prog) (w := w') (S8 [SC.dg (0 % 10)]) (S8 []) (by rw [S8_size, S8_size]; simp; try omega)
        rw [S8_add] at hadd
        have hbz := hb.trans (hba.mono hb.size)
        rw [hdig] at st hbz
        clear hb hba hsb HLD hc hdig
        as_aux_lemma =>
          go_wp2_with fail
          go_light
          exact ⟨⟨0 / 10, SC.dg (0 % 10) :: [], by go_num, rfl, by omega, HS, hbz⟩, HM.out⟩
      · have te : True := trivial
        have hdig : ((SC.dg (m % 10)).toNat : Int) = 48 + (m : Int) % 10 := by rw [SC.dig_toNat _ (by omega)]; omega
        have hba := (Below.refl wr.heap.size wr).alloc (Nat.le_refl _) (.cells #[.int .u8 ((SC.dg (m % 10)).toNat : Int)] 5)
        have hsb : Sl (wr.alloc (.cells #[.int .u8 ((SC.dg (m % 10)).toNat : Int)] 5)) 1 (.slice (some ⟨wr.heap.size, 0, none⟩) 1 1) (B8 [SC.dg (m % 10)]) := sl_new wr [SC.dg (m % 10)] 5 _ 1 _ rfl rfl rfl (by simp)
        have st := str_of (P := Tryz.prog) hsb 55 9 5 Tryz.underlying55 Tryz.underlying5 Tryz.underlying9
        have hadd := fun w' : World => run_string_add_sum (P := Tryz.prog) (w := w') (S8 [SC.dg (m % 10)]) (S8 t) (by rw [S8_size, S8_size]; simp; try omega)
        rw [S8_add] at hadd
        have hbz := hb.trans (hba.mono hb.size)
        rw [hdig] at st hbz
        clear hb hba hsb HLD hc hdig
        as_aux_lemma =>
          go_wp2_with fail
          go_light
          exact ⟨⟨m / 10, SC.dg (m % 10) :: t, by go_num, rfl, by omega, HS, hbz⟩, HM.out⟩
    · have hm : m = 0 := by omega
      subst hm
      have ht : t ≠ [] := fun h => hc (.inr h)
      have hq : t = SC.digs N := by rw [← HLD.out, leftD_end t ht]
      have te : (S8 t).toList.isEmpty = false := by
        rw [ba_toL]
        cases t with
        | nil => exact absurd rfl ht
        | cons x r => rfl
      have HQ := hid hq
      clear hc ht hq HLD
      go_wp2_with fail
      go_ret
      exact ⟨by rw [← HQ.out]; rfl, hb⟩
end Go.Proofs.YtfojgimficdjhaaGreatDoor
