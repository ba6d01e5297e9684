/-
  Contracts of layer 4's reference: Decimal, Parts, Addr, Net.
-/
import Derived.Test.YtecfkhgocjbocaaGreatDoorScM
import Derived.Test.YtecfkhgocjbocaaGreatDoorBl
import Derived.Test.YtecfkhgocjbocaaGreatDoorRg1
namespace Go.Proofs.YtecfkhgocjbocaaGreatDoor
set_option linter.unusedVariables false
set_option linter.unusedSimpArgs false
open Go Go.RowKit

theorem isDig_iff (c : UInt8) : SC.isDig c = true ↔ 48 ≤ c.toNat ∧ c.toNat ≤ 57 := by unfold SC.isDig; simp
set_option maxRecDepth 100000 in
set_option maxHeartbeats 800000 in
theorem refDecimal_any (s : ByteArray) (w : World) (hs : s.size ≤ 9223372036854775807) : Calls Tryz.prog 77 #[.string s] w fun e w' => e = .returned (.tuple #[.int .i64 (SC.decV (bl s) : Nat), .bool (SC.decB (bl s))]) ∧ w' = w := by
  have hl := bl_len s
  have hk0 : SC.decOk (bl s) = (decide (1 ≤ (bl s).length ∧ (bl s).length ≤ 9) && !(decide (1 < (bl s).length) && ((bl s).getD 0 0 == 48)) && (bl s).all SC.isDig) := rfl
  rw [hl] at hk0
  by_cases h1 : s.size < 1
  · have hno : SC.decOk (bl s) = false := by rw [hk0]; simp; omega
    obtain ⟨e1, e2⟩ := SC.dec_no (l := bl s) hno
    have E1 := hid e1
    have E2 := hid e2
    clear e1 e2
    as_aux_lemma =>
      go_enter Tryz.func77, Tryz.ntmps77
      go_wp2_with fail
      go_ret2
      exact ⟨by rw [E1.out, E2.out]; rfl, rfl⟩
  by_cases h2 : 9 < s.size
  · have hno : SC.decOk (bl s) = false := by rw [hk0]; simp; omega
    obtain ⟨e1, e2⟩ := SC.dec_no (l := bl s) hno
    have E1 := hid e1
    have E2 := hid e2
    clear e1 e2
    as_aux_lemma =>
      go_enter Tryz.func77, Tryz.ntmps77
      go_wp2_with fail
      go_ret2
      exact ⟨by rw [E1.out, E2.out]; rfl, rfl⟩
  have h0 : 0 < s.size := by omega
  have hg0 := bl_get s 0 h0
  by_cases h3 : 1 < s.size ∧ (bl s).getD 0 0 = 48
  · obtain ⟨h3, h4⟩ := h3
    have t0 : (((s[0]'h0).toNat : Int) == 48) = true := by rw [hg0.out, h4]; rfl
    have hno : SC.decOk (bl s) = false := by rw [hk0, h4]; simp; omega
    clear hg0 h4 hk0
    obtain ⟨e1, e2⟩ := SC.dec_no (l := bl s) hno
    have E1 := hid e1
    have E2 := hid e2
    clear e1 e2
    as_aux_lemma =>
      go_enter Tryz.func77, Tryz.ntmps77
      go_wp2_with fail
      go_ret2
      exact ⟨by rw [E1.out, E2.out]; rfl, rfl⟩
  have t0 : 1 < s.size → (((s[0]'h0).toNat : Int) == 48) = false := by
    intro h4
    rw [hg0.out, beq_eq_false_iff_ne]
    intro h5
    refine h3 ⟨h4, ?_⟩
    have h6 : ((bl s).getD 0 0).toNat = 48 := by omega
    exact UInt8.toNat_inj.1 h6
  have hOK : Hid (SC.decOk (bl s) = (bl s).all SC.isDig) := by
    show _ = _
    rw [hk0]
    have e1 : decide (1 ≤ s.size ∧ s.size ≤ 9) = true := by simp; omega
    have e2 : (decide (1 < s.size) && ((bl s).getD 0 0 == 48)) = false := by
      rw [Bool.and_eq_false_iff]
      by_cases h4 : 1 < s.size
      · right
        rw [beq_eq_false_iff_ne]
        exact fun h5 => h3 ⟨h4, h5⟩
      · left; simpa using h4
    rw [e1, e2]
    simp
  have HL := hid hl
  clear hg0 h3 hk0 hl
  have fin : ∀ (b1 : Unit), True := fun _ => trivial
  clear fin
  rcases Nat.lt_or_ge 1 s.size with h4 | h4
  · have t1 := t0 h4
    clear t0
    as_aux_lemma =>
      go_enter Tryz.func77, Tryz.ntmps77
      go_wp2_with fail
      go_loop [4, 5] (fun n i => ∃ k : Nat, k ≤ s.size ∧ n = .int .i64 (SC.numF 0 ((bl s).take k) : Nat) ∧ i = .int .i64 k ∧ Hid (((bl s).take k).all SC.isDig = true)) (fun _ i => s.size - (intOf i).toNat)
      case atStart => exact ⟨0, Nat.zero_le _, rfl, rfl, rfl⟩
      case round =>
        obtain ⟨k, hk, rfl, rfl, HA⟩ := hrel
        by_cases hlt : k < s.size
        · have hg := bl_get s k hlt
          have hlk : k < (bl s).length := by rw [HL.out]; exact hlt
          have HS := hid (SC.numF_take (bl s) k hlk)
          have HT := hid (SC.all_take (bl s) k hlk)
          have HNA := hid (fun h => SC.not_all (l := bl s) hlk h)
          have hnb : SC.numF 0 ((bl s).take k) < 1000000000 := by
            have h5 := SC.numF_lt 0 _ HA.out
            have h6 : (10 : Nat) ^ ((bl s).take k).length ≤ 10 ^ 9 := Nat.pow_le_pow_right (by omega) (by rw [List.length_take]; omega)
            have h7 : (10 : Nat) ^ 9 = 1000000000 := by decide
            omega
          have ED : Hid (SC.isDig ((bl s).getD k 0) = true ↔ 48 ≤ (s[k]'hlt).toNat ∧ (s[k]'hlt).toNat ≤ 57) := by show _ ↔ _; rw [hg.out]; exact isDig_iff _
          have HC : Hid (((bl s).getD k 0).toNat = (s[k]'hlt).toNat) := by show _ = _; rw [hg.out]
          clear hg hlk
          generalize hnn : SC.numF 0 ((bl s).take k) = n at *
          have HNN := hid hnn
          clear hnn
          by_cases hd : 48 ≤ (s[k]'hlt).toNat ∧ (s[k]'hlt).toNat ≤ 57
          · have HT2 : Hid (((bl s).take (k + 1)).all SC.isDig = true) := by show _ = _; rw [HT.out, HA.out, ED.out.2 hd]; rfl
            have HS2 : Hid (SC.numF 0 ((bl s).take (k + 1)) = n * 10 + ((s[k]'hlt).toNat - 48)) := by show _ = _; rw [HS.out, HC.out]
            obtain ⟨d1, d2⟩ := hd
            clear HS HT HNA ED HC HA
            go_wp2_with fail
            go_light
            refine ⟨⟨k + 1, by omega, ?_, by go_num, HT2⟩, by simp [intOf]; omega⟩
            rw [HS2.out]
            go_num
          · have hq : SC.isDig ((bl s).getD k 0) = false := by
              rw [Bool.eq_false_iff]
              exact fun hh => hd (ED.out.1 hh)
            obtain ⟨e1, e2⟩ := SC.dec_no (l := bl s) (by rw [hOK.out]; exact HNA.out hq)
            have E1 := hid e1
            have E2 := hid e2
            clear e1 e2 HS HT HNA ED HC HA hq
            by_cases hd1 : (s[k]'hlt).toNat < 48
            · go_wp2_with fail
              go_ret2
              exact ⟨by rw [E1.out, E2.out]; rfl, rfl⟩
            · have hd2 : 57 < (s[k]'hlt).toNat := by omega
              go_wp2_with fail
              go_ret2
              exact ⟨by rw [E1.out, E2.out]; rfl, rfl⟩
        · obtain rfl : k = s.size := by omega
          have ht : (bl s).take s.size = bl s := List.take_of_length_le (by rw [HL.out]; exact Nat.le_refl _)
          have hA := HA.out
          rw [ht] at hA
          obtain ⟨e1, e2⟩ := SC.dec_yes (l := bl s) (by rw [hOK.out]; exact hA)
          have E1 := hid e1
          have E2 := hid e2
          have hN : SC.numF 0 (bl s) = SC.num (bl s) := rfl
          have HN := hid hN
          rw [ht]
          clear e1 e2 hA ht hN
          generalize SC.numF 0 (bl s) = n at *
          go_wp2_with fail
          go_ret2
          exact ⟨by rw [E1.out, E2.out, HN.out]; rfl, rfl⟩
  · clear t0
    as_aux_lemma =>
      go_enter Tryz.func77, Tryz.ntmps77
      go_wp2_with fail
      go_loop [4, 5] (fun n i => ∃ k : Nat, k ≤ s.size ∧ n = .int .i64 (SC.numF 0 ((bl s).take k) : Nat) ∧ i = .int .i64 k ∧ Hid (((bl s).take k).all SC.isDig = true)) (fun _ i => s.size - (intOf i).toNat)
      case atStart => exact ⟨0, Nat.zero_le _, rfl, rfl, rfl⟩
      case round =>
        obtain ⟨k, hk, rfl, rfl, HA⟩ := hrel
        by_cases hlt : k < s.size
        · have hg := bl_get s k hlt
          have hlk : k < (bl s).length := by rw [HL.out]; exact hlt
          have HS := hid (SC.numF_take (bl s) k hlk)
          have HT := hid (SC.all_take (bl s) k hlk)
          have HNA := hid (fun h => SC.not_all (l := bl s) hlk h)
          have hnb : SC.numF 0 ((bl s).take k) < 1000000000 := by
            have h5 := SC.numF_lt 0 _ HA.out
            have h6 : (10 : Nat) ^ ((bl s).take k).length ≤ 10 ^ 9 := Nat.pow_le_pow_right (by omega) (by rw [List.length_take]; omega)
            have h7 : (10 : Nat) ^ 9 = 1000000000 := by decide
            omega
          have ED : Hid (SC.isDig ((bl s).getD k 0) = true ↔ 48 ≤ (s[k]'hlt).toNat ∧ (s[k]'hlt).toNat ≤ 57) := by show _ ↔ _; rw [hg.out]; exact isDig_iff _
          have HC : Hid (((bl s).getD k 0).toNat = (s[k]'hlt).toNat) := by show _ = _; rw [hg.out]
          clear hg hlk
          generalize hnn : SC.numF 0 ((bl s).take k) = n at *
          have HNN := hid hnn
          clear hnn
          by_cases hd : 48 ≤ (s[k]'hlt).toNat ∧ (s[k]'hlt).toNat ≤ 57
          · have HT2 : Hid (((bl s).take (k + 1)).all SC.isDig = true) := by show _ = _; rw [HT.out, HA.out, ED.out.2 hd]; rfl
            have HS2 : Hid (SC.numF 0 ((bl s).take (k + 1)) = n * 10 + ((s[k]'hlt).toNat - 48)) := by show _ = _; rw [HS.out, HC.out]
            obtain ⟨d1, d2⟩ := hd
            clear HS HT HNA ED HC HA
            go_wp2_with fail
            go_light
            refine ⟨⟨k + 1, by omega, ?_, by go_num, HT2⟩, by simp [intOf]; omega⟩
            rw [HS2.out]
            go_num
          · have hq : SC.isDig ((bl s).getD k 0) = false := by
              rw [Bool.eq_false_iff]
              exact fun hh => hd (ED.out.1 hh)
            obtain ⟨e1, e2⟩ := SC.dec_no (l := bl s) (by rw [hOK.out]; exact HNA.out hq)
            have E1 := hid e1
            have E2 := hid e2
            clear e1 e2 HS HT HNA ED HC HA hq
            by_cases hd1 : (s[k]'hlt).toNat < 48
            · go_wp2_with fail
              go_ret2
              exact ⟨by rw [E1.out, E2.out]; rfl, rfl⟩
            · have hd2 : 57 < (s[k]'hlt).toNat := by omega
              go_wp2_with fail
              go_ret2
              exact ⟨by rw [E1.out, E2.out]; rfl, rfl⟩
        · obtain rfl : k = s.size := by omega
          have ht : (bl s).take s.size = bl s := List.take_of_length_le (by rw [HL.out]; exact Nat.le_refl _)
          have hA := HA.out
          rw [ht] at hA
          obtain ⟨e1, e2⟩ := SC.dec_yes (l := bl s) (by rw [hOK.out]; exact hA)
          have E1 := hid e1
          have E2 := hid e2
          have hN : SC.numF 0 (bl s) = SC.num (bl s) := rfl
          have HN := hid hN
          rw [ht]
          clear e1 e2 hA ht hN
          generalize SC.numF 0 (bl s) = n at *
          go_wp2_with fail
          go_ret2
          exact ⟨by rw [E1.out, E2.out, HN.out]; rfl, rfl⟩
end Go.Proofs.YtecfkhgocjbocaaGreatDoor
