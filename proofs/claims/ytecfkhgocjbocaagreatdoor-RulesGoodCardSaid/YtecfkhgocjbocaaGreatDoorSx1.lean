/-
  Contracts of package lex (a seat without Words).
-/
import Derived.Test.YtecfkhgocjbocaaGreatDoorBl
import Derived.Test.YtecfkhgocjbocaaGreatDoorLxM
import Derived.Test.YtecfkhgocjbocaaGreatDoorSh1
import Derived.Laws.BitsAllLaws
namespace Go.Proofs.YtecfkhgocjbocaaGreatDoor
set_option linter.unusedVariables false
set_option linter.unusedSimpArgs false
open Go Go.RowKit

theorem ix_any (s : ByteArray) (c : UInt8) (w : World) : Calls Tryz.prog 107 #[.string s, .int .u8 (c.toNat : Int)] w fun e w' => e = .returned (.int .i64 (Lib.indexByte s.data.toList c)) ∧ w' = w := by
  have := Any.strings_IndexByte Tryz.lays137 s (c.toNat : Int) w
  rw [show ((c.toNat : Int)).toNat.toUInt8 = c by simp] at this
  exact this
theorem inside_all : ∀ n < 256, ((decide (97 ≤ (UInt8.ofNat n ||| 32).toNat) && decide ((UInt8.ofNat n ||| 32).toNat ≤ 122)) || (decide (48 ≤ (UInt8.ofNat n).toNat) && decide ((UInt8.ofNat n).toNat ≤ 57)) || decide (Lib.indexByte [46, 47, 45, 95] (UInt8.ofNat n) ≥ 0)) = LX.inW (UInt8.ofNat n) := by decide +kernel
theorem inside_eq (c : UInt8) : ((decide (97 ≤ (c ||| 32).toNat) && decide ((c ||| 32).toNat ≤ 122)) || (decide (48 ≤ c.toNat) && decide (c.toNat ≤ 57)) || decide (Lib.indexByte [46, 47, 45, 95] c ≥ 0)) = LX.inW c := by
  have := inside_all c.toNat c.toNat_lt
  rw [UInt8.ofNat_toNat] at this
  exact this
set_option maxRecDepth 100000 in
set_option maxHeartbeats 400000 in
theorem inside_any (c : UInt8) (w : World) : Calls Tryz.prog 129 #[.int .u8 (c.toNat : Int)] w fun e w' => e = .returned (.bool (LX.inW c)) ∧ w' = w := by
  have HI := hid (inside_eq c)
  have hb : bits .or .u8 (c.toNat : Int) 32 = ((c ||| 32).toNat : Int) := by
    have := u8_or_nat c.toNat 32 c.toNat_lt (by omega)
    rw [UInt8.toNat_or]
    exact this
  generalize hl : (c ||| 32).toNat = l at *
  generalize hy : LX.inW c = y at *
  clear hl
  go_enter Tryz.func129, Tryz.ntmps129
  go_wp2_with fail
  all_goals first
    | (go_ret
       refine ⟨ret_bool ?_, rfl⟩
       rw [← HI.out]
       simp
       omega)
    | (refine (ix_any _ c w).mono ?_
       rintro e w' ⟨rfl, rfl⟩
       go_wp2_with fail
       go_ret
       refine ⟨ret_bool ?_, rfl⟩
       rw [← HI.out]
       generalize Lib.indexByte [46, 47, 45, 95] c = z at *
       rw [Bool.eq_iff_iff]
       simp
       omega)
theorem wl_step (l : List UInt8) (k : Nat) (hk : k < l.length) (h : k ≤ LX.wordLen l) : (LX.inW (l.getD k 0) = true → k + 1 ≤ LX.wordLen l) ∧ (LX.inW (l.getD k 0) = false → LX.wordLen l = k) := by
  unfold LX.wordLen at *
  induction l generalizing k with
  | nil => simp at hk
  | cons c r ih =>
    cases hc : LX.inW c with
    | true =>
      simp only [List.takeWhile_cons, hc, if_true, List.length_cons] at h ⊢
      cases k with
      | zero => simp [hc]
      | succ k =>
        have := ih k (by simpa using hk) (by omega)
        simp only [List.getD_cons_succ]
        exact ⟨fun h => by have := this.1 h; omega, fun h => by have := this.2 h; omega⟩
    | false =>
      simp only [List.takeWhile_cons, hc, Bool.false_eq_true, if_false, List.length_nil] at h ⊢
      obtain rfl : k = 0 := by omega
      simp [hc]
theorem wl_le (l : List UInt8) : LX.wordLen l ≤ l.length := LX.tw_len_le _ _
set_option maxRecDepth 100000 in
set_option maxHeartbeats 400000 in
theorem word_any (s : ByteArray) (w : World) (hs : s.size ≤ 9223372036854775807) : Calls Tryz.prog 106 #[.string s] w fun e w' => e = .returned (.int .i64 (LX.wordLen (bl s) : Nat)) ∧ w' = w := by
  have hle := wl_le (bl s)
  rw [bl_len] at hle
  have HL := hid (bl_len s)
  go_enter Tryz.func106, Tryz.ntmps106
  go_wp2_with fail
  go_loop [3] (fun i => ∃ k : Nat, k ≤ LX.wordLen (bl s) ∧ i = .int .i64 k) (fun i => s.size - (intOf i).toNat)
  case atStart => exact ⟨0, Nat.zero_le _, rfl⟩
  case round =>
    obtain ⟨k, hk, rfl⟩ := hrel
    by_cases hlt : k < s.size
    · have hst := wl_step (bl s) k (by rw [bl_len]; exact hlt) hk
      have hg := bl_get s k hlt
      go_wp2_with fail
      refine (inside_any _ _).mono ?_
      rintro e w' ⟨rfl, rfl⟩
      rw [hg.out]
      clear hg
      generalize (bl s).getD k 0 = c at *
      cases hc : LX.inW c with
      | true =>
        have h1 := hst.1 hc
        go_wp2_with fail
        go_light
        exact ⟨⟨k + 1, by omega, by go_num⟩, by simp [intOf]; omega⟩
      | false =>
        obtain rfl := (hst.2 hc).symm
        go_wp2_with fail
        go_ret
        exact ⟨rfl, rfl⟩
    · obtain rfl : k = LX.wordLen (bl s) := by omega
      go_wp2_with fail
      go_ret
      exact ⟨rfl, rfl⟩
set_option maxRecDepth 100000 in
set_option maxHeartbeats 400000 in
theorem isWord_any (s : ByteArray) (w : World) (hs : s.size ≤ 9223372036854775807) : Calls Tryz.prog 116 #[.string s] w fun e w' => e = .returned (.bool (LX.isW (bl s))) ∧ w' = w := by
  have HI : Hid (LX.isW (bl s) = (decide (bl s ≠ []) && decide (s.size ≤ 31) && decide (LX.wordLen (bl s) = s.size))) := by
    show _ = _
    unfold LX.isW
    rw [bl_len]
  have he : s.toList = bl s := Lib.toList_data s
  go_enter Tryz.func116, Tryz.ntmps116
  go_wp2_with fail
  · rename_i h1
    go_ret
    refine ⟨ret_bool ?_, rfl⟩
    have h3 : bl s = [] := by unfold bl; rw [h1]
    rw [HI.out]
    simp [h3]
  · rename_i h1 h2 _ _
    have h3 : bl s ≠ [] := fun h => h1 (by rw [← Array.toList_eq_nil_iff]; exact h)
    have h4 : s.size ≤ 31 := by omega
    refine (word_any s w hs).mono ?_
    rintro e w' ⟨rfl, rfl⟩
    go_wp2_with fail
    go_ret
    refine ⟨ret_bool ?_, rfl⟩
    rw [HI.out]
    rw [Bool.eq_iff_iff]
    simp [h3, h4, h1]
    omega
  · rename_i h2
    go_ret
    refine ⟨ret_bool ?_, rfl⟩
    have h4 : ¬ s.size ≤ 31 := by omega
    rw [HI.out]
    simp [h4]
theorem noteLen_eq (l : List UInt8) : (LX.noteLen l : Int) = if Lib.indexByte l 10 ≥ 0 then Lib.indexByte l 10 else (l.length : Int) := by
  unfold LX.noteLen
  induction l with
  | nil => rfl
  | cons b l ih =>
    unfold Lib.indexByte
    have hge := Lib.indexByte_ge l 10
    by_cases hb : b = 10
    · subst hb
      simp [LX.nl, List.takeWhile_cons]
    · have h1 : LX.nl b = false := by
        simp only [LX.nl, decide_eq_false_iff_not]
        intro h
        exact hb (UInt8.toNat_inj.1 h)
      have h2 : (b == 10) = false := beq_eq_false_iff_ne.2 hb
      simp only [List.takeWhile_cons, h1, Bool.not_false, if_true, h2, Bool.false_eq_true, if_false, List.length_cons]
      by_cases h3 : Lib.indexByte l 10 = -1
      · rw [h3] at ih ⊢
        simp at ih ⊢
        omega
      · rw [if_neg (show ¬ (Lib.indexByte l 10 == -1) = true by rw [beq_iff_eq]; exact h3), if_pos (by omega)]
        rw [if_pos (by omega)] at ih
        omega
def skipN (l : List UInt8) : Nat := if (l.getD 0 0).toNat = 35 then LX.noteLen l else (l.takeWhile LX.blk).length
theorem skipN_le (l : List UInt8) : skipN l ≤ l.length := by
  unfold skipN LX.noteLen
  split <;> exact LX.tw_len_le _ _
theorem skip_run (l : List UInt8) (a : Nat) (out : List (List UInt8)) : LX.run l a out = LX.run (l.drop (skipN l)) (a + skipN l) out := by
  cases l with
  | nil => rfl
  | cons c r =>
    unfold skipN
    simp only [List.getD_cons_zero]
    by_cases h : c.toNat = 35
    · rw [if_pos h]
      exact LX.run_note c r a out h
    · rw [if_neg h, LX.run_blks, ← LX.tw_drop]
theorem skip_zero (c : UInt8) (r : List UInt8) (h : skipN (c :: r) = 0) : LX.blk c = false ∧ c.toNat ≠ 35 := by
  unfold skipN at h
  simp only [List.getD_cons_zero] at h
  by_cases h35 : c.toNat = 35
  · rw [if_pos h35] at h
    simp [LX.noteLen, LX.nl, List.takeWhile_cons, h35] at h
  · rw [if_neg h35] at h
    refine ⟨?_, h35⟩
    cases hc : LX.blk c with
    | true => simp [List.takeWhile_cons, hc] at h
    | false => rfl
theorem sgn_all : ∀ n < 256, decide (Lib.indexByte [123, 125, 59] (UInt8.ofNat n) ≥ 0) = LX.sgn (UInt8.ofNat n) := by decide +kernel
theorem sgn_ix (c : UInt8) : decide (Lib.indexByte [123, 125, 59] c ≥ 0) = LX.sgn c := by
  have := sgn_all c.toNat c.toNat_lt
  rw [UInt8.ofNat_toNat] at this
  exact this
end Go.Proofs.YtecfkhgocjbocaaGreatDoor
