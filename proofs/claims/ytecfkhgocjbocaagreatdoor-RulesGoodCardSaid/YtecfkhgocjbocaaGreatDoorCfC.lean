/-
  Contracts of layer 5's law: digits, writes.
-/
import Derived.Test.YtecfkhgocjbocaaGreatDoorCfB
import Derived.Test.YtecfkhgocjbocaaGreatDoorCf7
import Derived.Test.YtecfkhgocjbocaaGreatDoorCf8
namespace Go.Proofs.YtecfkhgocjbocaaGreatDoor
set_option linter.unusedVariables false
set_option linter.unusedSimpArgs false
open Go Go.RowKit

namespace CF
theorem ba_toL (s : ByteArray) : s.toList = s.data.toList := Lib.toList_data s
/-- what is there, and what is still to come -/
def leftD (m : Nat) (t : List UInt8) : List UInt8 := if t = [] then SC.digs m else if m = 0 then t else SC.digs m ++ t
theorem leftD_step (m : Nat) (t : List UInt8) (h : 0 < m ∨ t = []) : leftD (m / 10) (SC.dg (m % 10) :: t) = leftD m t := by
  unfold leftD
  rw [if_neg (by simp)]
  have e : SC.digs m = if m < 10 then [SC.dg m] else SC.digs (m / 10) ++ [SC.dg (m % 10)] := by rw [SC.digs]
  by_cases hm : m < 10
  · rw [if_pos (show m / 10 = 0 by omega), show m % 10 = m by omega]
    rw [if_pos hm] at e
    by_cases ht : t = []
    · rw [if_pos ht, ht, e]
    · rw [if_neg ht]
      rcases h with h | h
      · rw [if_neg (by omega), e]; rfl
      · exact absurd h ht
  · rw [if_neg (show ¬ m / 10 = 0 by omega)]
    rw [if_neg hm] at e
    by_cases ht : t = []
    · rw [if_pos ht, ht, e]
    · rw [if_neg ht, if_neg (by omega), e]; simp
theorem leftD_le (m : Nat) (t : List UInt8) : t.length ≤ (leftD m t).length := by
  unfold leftD
  split
  · rename_i h; rw [h]; simp
  · split
    · exact Nat.le_refl _
    · simp
theorem leftD_end (t : List UInt8) (h : t ≠ []) : leftD 0 t = t := by
  unfold leftD
  rw [if_neg h, if_pos rfl]
set_option maxRecDepth 100000 in
set_option maxHeartbeats 3200000 in
theorem digits_any (N : Nat) (w : World) (hN : N < 9223372036854775808) : Calls Tryz.prog 14 #[.int .i64 (N : Int)] w fun e w' => e = .returned (.string (S8 (SC.digs N))) ∧ Below w.heap.size w w' := by
  have HLN := hid (SC.digs_len N 18 (by omega))
  go_enter Tryz.func14, Tryz.ntmps14
  go_wp2_with fail
  go_loopw [0, 3] (fun n v wr => ∃ (m : Nat) (t : List UInt8), n = .int .i64 m ∧ v = .string (S8 t) ∧ m ≤ N ∧ Hid (leftD m t = SC.digs N) ∧ Below w.heap.size w wr) (fun n v _ => 2 * (intOf n).toNat + (match v with | .string s => if s.size = 0 then 1 else 0 | _ => 0))
  case atStart => exact ⟨N, [], rfl, rfl, Nat.le_refl _, by show _ = _; unfold leftD; rw [if_pos rfl], Below.refl _ _⟩
  case round =>
    obtain ⟨m, t, rfl, rfl, hmN, HLD, hb⟩ := hrel
    have htl : t.length ≤ 19 := by
      have h1 := leftD_le m t
      rw [HLD.out] at h1
      have := HLN.out
      omega
    by_cases hc : 0 < m ∨ t = []
    · have HS := hid ((leftD_step m t hc).trans HLD.out)
      have hmeas : 2 * (m / 10) + (if (S8 (SC.dg (m % 10) :: t)).size = 0 then 1 else 0) < 2 * m + (if (S8 t).size = 0 then 1 else 0) := by
        rw [S8_size, S8_size]
        rcases hc with h | h
        · simp; split <;> omega
        · rw [h]; simp; omega
      have HM := hid hmeas
      clear hmeas
      rcases Nat.eq_zero_or_pos m with hm0 | hm0
      · obtain rfl : t = [] := by
          rcases hc with h | h
          · omega
          · exact h
        subst hm0
        have te : (S8 []).toList.isEmpty = true := by rw [ba_toL]; rfl
        have hdig : ((SC.dg (0 % 10)).toNat : Int) = 48 := by rw [SC.dig_toNat _ (by omega)]; rfl
        have hba := (Below.refl wr.heap.size wr).alloc (Nat.le_refl _) (.cells #[.int .u8 ((SC.dg (0 % 10)).toNat : Int)] 5)
        have hsb : Sl (wr.alloc (.cells #[.int .u8 ((SC.dg (0 % 10)).toNat : Int)] 5)) 1 (.slice (some ⟨wr.heap.size, 0, none⟩) 1 1) (B8 [SC.dg (0 % 10)]) := sl_new wr [SC.dg (0 % 10)] 5 _ 1 _ rfl rfl rfl (by simp)
        have st := str_of (P := Tryz.prog) hsb 38 9 5 Tryz.underlying38 Tryz.underlying5 Tryz.underlying9
        have hadd := fun w' : World => run_string_add_sum (P := Tryz.prog) (w := w') (S8 [SC.dg (0 % 10)]) (S8 []) (by rw [S8_size, S8_size]; simp; try omega)
        rw [S8_add] at hadd
        have hbz := hb.trans (hba.mono hb.size)
        rw [hdig] at st hbz
        clear hb hba hsb HLD hc hdig
        as_aux_lemma =>
          go_wp2_with fail
          go_light
          exact ⟨⟨0 / 10, SC.dg (0 % 10) :: [], by go_num, rfl, by omega, HS, hbz⟩, HM.out⟩
      · have te : True := trivial
        have hdig : ((SC.dg (m % 10)).toNat : Int) = 48 + (m : Int) % 10 := by rw [SC.dig_toNat _ (by omega)]; omega
        have hba := (Below.refl wr.heap.size wr).alloc (Nat.le_refl _) (.cells #[.int .u8 ((SC.dg (m % 10)).toNat : Int)] 5)
        have hsb : Sl (wr.alloc (.cells #[.int .u8 ((SC.dg (m % 10)).toNat : Int)] 5)) 1 (.slice (some ⟨wr.heap.size, 0, none⟩) 1 1) (B8 [SC.dg (m % 10)]) := sl_new wr [SC.dg (m % 10)] 5 _ 1 _ rfl rfl rfl (by simp)
        have st := str_of (P := Tryz.prog) hsb 38 9 5 Tryz.underlying38 Tryz.underlying5 Tryz.underlying9
        have hadd := fun w' : World => run_string_add_sum (P := Tryz.prog) (w := w') (S8 [SC.dg (m % 10)]) (S8 t) (by rw [S8_size, S8_size]; simp; try omega)
        rw [S8_add] at hadd
        have hbz := hb.trans (hba.mono hb.size)
        rw [hdig] at st hbz
        clear hb hba hsb HLD hc hdig
        as_aux_lemma =>
          go_wp2_with fail
          go_light
          exact ⟨⟨m / 10, SC.dg (m % 10) :: t, by go_num, rfl, by omega, HS, hbz⟩, HM.out⟩
    · have hm : m = 0 := by omega
      subst hm
      have ht : t ≠ [] := fun h => hc (.inr h)
      have hq : t = SC.digs N := by rw [← HLD.out, leftD_end t ht]
      have te : (S8 t).toList.isEmpty = false := by
        rw [ba_toL]
        cases t with
        | nil => exact absurd rfl ht
        | cons x r => rfl
      have HQ := hid hq
      clear hc ht hq HLD
      go_wp2_with fail
      go_ret
      exact ⟨by rw [← HQ.out]; rfl, hb⟩
/-- the line that 'writes' lays -/
def wrL : Ln := ⟨1, [48, 46, 48, 46, 48, 46, 48], [116, 121, 112, 101], [115, 116, 117, 98]⟩
def wrT : List UInt8 := [97, 114, 101, 97, 32, 48, 46, 48, 46, 48, 46, 48, 32, 123, 10, 32, 32, 116, 121, 112, 101, 32, 115, 116, 117, 98, 59, 10, 125, 10]
theorem wr_set : setE [] wrL = 0 ∧ setC [] wrL = [wrL] := by
  have h : setE [] wrL = 0 := by kernel_rfl
  refine ⟨h, ?_⟩
  unfold setC
  rw [h]
  rfl
theorem wr_right : RightC [wrL] = true := by kernel_rfl
theorem wr_text : textC [wrL] = wrT := by kernel_rfl
theorem wr_val : valC [wrL] 1 wrL.name [99, 111, 115, 116] = [49] := by kernel_rfl
theorem wr_ok : LnOk wrL := by unfold LnOk wrL; decide
set_option maxRecDepth 100000 in
set_option maxHeartbeats 1600000 in
theorem writes_any (w : World) (hen : Env w) : Calls Tryz.prog 15 #[] w fun e w' => e = .returned (.bool true) ∧ Below w.heap.size w w' := by
  have hok : ∀ l ∈ [wrL], LnOk l := fun l hl => by rw [List.mem_singleton.1 hl]; exact wr_ok
  have HS : Hid (Calls Tryz.prog 13 #[.slice none 0 0, .agg #[.int .i64 1, .string ⟨#[48, 46, 48, 46, 48, 46, 48]⟩, .string ⟨#[116, 121, 112, 101]⟩, .string ⟨#[115, 116, 117, 98]⟩]] w fun e w' => (∃ A c, e = .returned (.tuple #[.slice A 1 c, .int .i64 0]) ∧ Sl w' 4 (.slice A 1 c) (LNS [wrL])) ∧ Below w.heap.size w w') := by
    have := Set_any [] wrL none 0 0 w (sl_nil _ _ _ (by omega)) (fun l hl => by cases hl) wr_ok hen
    rw [wr_set.1, wr_set.2] at this
    exact this
  have HT : Hid (∀ A c w', Below w.heap.size w w' → Sl w' 4 (.slice A 1 c) (LNS [wrL]) → Calls Tryz.prog 31 #[.slice A 1 c] w' fun e w'' => e = .returned (.string ⟨#[97, 114, 101, 97, 32, 48, 46, 48, 46, 48, 46, 48, 32, 123, 10, 32, 32, 116, 121, 112, 101, 32, 115, 116, 117, 98, 59, 10, 125, 10]⟩) ∧ Below w'.heap.size w' w'') := fun A c w' hb hs => by
    have := Text_any [wrL] A 1 c w' hs hok (hen.below hb)
    rw [wr_text] at this
    exact this
  have HR : Hid (∀ A c w', Below w.heap.size w w' → Sl w' 4 (.slice A 1 c) (LNS [wrL]) → Calls Tryz.prog 33 #[.slice A 1 c] w' fun e w'' => e = .returned (.bool true) ∧ Below w'.heap.size w' w'') := fun A c w' hb hs => by
    have := Right_any [wrL] A 1 c w' hs hok (hen.below hb)
    rw [wr_right] at this
    exact this
  have HV : Hid (∀ A c w', Below w.heap.size w w' → Sl w' 4 (.slice A 1 c) (LNS [wrL]) → Calls Tryz.prog 16 #[.slice A 1 c, .int .i64 1, .string ⟨#[48, 46, 48, 46, 48, 46, 48]⟩, .string ⟨#[99, 111, 115, 116]⟩] w' fun e w'' => e = .returned (.string ⟨#[49]⟩) ∧ Below w'.heap.size w' w'') := fun A c w' hb hs => by
    have := Value_any [wrL] 1 wrL.name [99, 111, 115, 116] A 1 c w' hs hok (hen.below hb)
    rw [wr_val] at this
    exact this
  clear hok hen
  go_enter Tryz.func15, Tryz.ntmps15
  go_wp2_with fail
  refine HS.out.mono ?_
  rintro e w1 ⟨⟨A1, c1, rfl, hs1⟩, hb1⟩
  have HS1 := hid hs1
  clear HS hs1
  go_wp2_with fail
  refine (HT.out A1 c1 w1 hb1 HS1.out).mono ?_
  rintro e w2 ⟨rfl, hb2⟩
  have hbw2 := hb1.trans (hb2.mono hb1.size)
  have HS2 := hid (HS1.out.below hb2)
  clear HT hb1 hb2 HS1
  go_wp2_with fail
  refine (HR.out A1 c1 w2 hbw2 HS2.out).mono ?_
  rintro e w3 ⟨rfl, hb3⟩
  have hbw3 := hbw2.trans (hb3.mono hbw2.size)
  have HS3 := hid (HS2.out.below hb3)
  clear HR hbw2 hb3 HS2
  go_wp2_with fail
  refine (HV.out A1 c1 w3 hbw3 HS3.out).mono ?_
  rintro e w4 ⟨rfl, hb4⟩
  have hbw4 := hbw3.trans (hb4.mono hbw3.size)
  clear HV hbw3 hb4 HS3
  go_wp2_with fail
  go_ret
  exact ⟨rfl, hbw4⟩
end CF
end Go.Proofs.YtecfkhgocjbocaaGreatDoor
