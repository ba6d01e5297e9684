/-
  SumsFletcher: for every list of bytes, place and turn the two bytes that the program tells are the reference's; with them the sum is right; one byte turned is seen but where 0 and 255 are alike. No condition.
-/
import Derived.Test.YtaajhkdifliblaaSumsLaw1
namespace Go.Proofs.Ytaajhkdifliblaa
set_option linter.unusedVariables false
set_option linter.unusedSimpArgs false
open Go.RowKit SM

set_option maxRecDepth 100000 in
set_option maxHeartbeats 800000 in
theorem sumsFletcher_walk (A : Option Addr) (n c : Nat) (l : List UInt8) (at_ turn : Int) (w : World) (h : Sl w 1 (.slice A n c) (B8 l))
    (h1 : -9223372036854775808 ≤ at_ ∧ at_ ≤ 9223372036854775807) (h2 : -9223372036854775808 ≤ turn ∧ turn ≤ 9223372036854775807) :
    Calls Try.prog 4 #[.slice A n c, .int .i64 at_, .int .i64 turn] w fun e w' => e = .returned (.bool true) ∧ Below w.heap.size w w' := by
  obtain ⟨hl1, hl2, hl3⟩ := h.len
  obtain ⟨m, hm, hmn, hm3⟩ : ∃ m : Nat, min (n : Int) 300 = m ∧ m ≤ n ∧ m ≤ 300 := ⟨min n 300, by omega, by omega, by omega⟩
  have ht := h.take m hmn
  have hL : (l.take m).length = m := by rw [List.length_take]; omega
  generalize l.take m = t at ht hL
  clear hl1 h
  have HL := hid hL
  clear hL
  go_enter Try.func4, Try.ntmps4
  go_wp2_with (at_builtin; refine wpList_app rfl (.tmp 14) (.tmp 19) st_bytes rfl w.heap.size rfl (own_empty _ _ _ _ _ rfl (Nat.le_refl _)) rfl (ht.below ((Below.refl _ _).alloc (Nat.le_refl _) _)) (B8_one _) (by simp [maxLen]; omega) (by omega) (by simp) ?_)
  intro A1 c1 w1 hown hg _
  have hb1 : Below w.heap.size w w1 := ((Below.refl _ _).alloc (Nat.le_refl _) _).trans (grown_below (own_empty _ _ 5 1 _ rfl (Nat.le_refl _)) hg (by simp))
  clear hg
  go_upto_region 3 with fail
  go_cut [38] (fun s wx => w1 = wx ∧ ∃ b : Bool, s = .bool b ∧ (b = true → 2 < m))
  case first =>
    go_wp2_with fail
    all_goals go_meet
    all_goals (refine ⟨rfl, _, rfl, ?_⟩; intro hbb; first | omega | cases hbb)
  case rest =>
    obtain ⟨rfl, b, rfl, hb⟩ := hcut
    go_upto_if 38 with fail
    go_cut [7] (fun s wx => w1 = wx ∧ ∃ k : Int, s = .int .i64 k)
    case first =>
      cases b
      · go_wp2_with fail
        go_meet
        exact ⟨rfl, _, rfl⟩
      · have hm0 := hb rfl
        go_wp2_with fail
        all_goals go_meet
        all_goals exact ⟨rfl, _, rfl⟩
    case rest =>
      obtain ⟨rfl, k, rfl⟩ := hcut
      clear hb
      by_cases hk : 0 ≤ k ∧ k + 2 ≤ (m : Int)
      · obtain ⟨k, rfl⟩ := Int.eq_ofNat_of_zero_le hk.1
        obtain ⟨g, rfl, hg1, hg2⟩ := own_some hown (by omega)
        have hk1 : k + 1 < m := by omega
        clear hk
        have bX := fX_bd t k
        have bY := fY_bd t k
        go_wp2_with fail
        refine (fletcher_yes _ _ _ _ t _ (own_sl hown) hk1 (by omega)).mono ?_
        rintro e w2 ⟨rfl, hb2⟩
        have hown2 := own_below hown hb2
        have hbb2 := hb1.trans (hb2.mono hb1.size)
        clear hb2 hown hb1
        go_wp2_with fail
        refine (refFletcher_yes _ _ _ _ t _ (own_sl hown2) hk1 (by omega)).mono ?_
        rintro e w' ⟨rfl, rfl⟩
        go_wp2_with fail
        refine (known9_any _).mono ?_
        rintro e w3 ⟨rfl, hb3⟩
        have hown3 := own_below hown2 hb3
        have hbb3 := hbb2.trans (hb3.mono hbb2.size)
        clear hb3 hbb2 hown2
        go_wp2_with fail
        refine (right_any _ _ _ t _ (own_sl hown3)).mono ?_
        rintro e w' ⟨rfl, rfl⟩
        go_wp2_with fail
        refine (refRight_any _ _ _ t _ (own_sl hown3)).mono ?_
        rintro e w' ⟨rfl, rfl⟩
        obtain ⟨k0, f0⟩ := own_byte hown3 k (by omega)
        obtain ⟨k1, f1⟩ := own_byte hown3 (k + 1) (by omega)
        have e0 : ((m : Int) - 2 < (k : Int)) = False := by simp; omega
        go_wp2_with fail
        have hown4 := ((hown3.stored k (.int .u8 (fX t k))).1.stored (k + 1) (.int .u8 (fY t k))).1
        rw [lay_cells] at hown4
        have hbb4 := (hbb3.setCell (p := ⟨g, k, none⟩) hg1 (.int .u8 (fX t k))).setCell (p := ⟨g, k + 1, none⟩) hg1 (.int .u8 (fY t k))
        generalize (w3.setCell ⟨g, k, none⟩ (.int .u8 (fX t k))).setCell ⟨g, k + 1, none⟩ (.int .u8 (fY t k)) = w4 at *
        have HR := hid (right_lay t k (by have := HL.out; omega))
        have HQ := hid (length_lay t k)
        refine (right_any _ _ _ (lay t k) _ (own_sl hown4)).mono ?_
        rintro e w' ⟨rfl, rfl⟩
        rw [HR.out]
        have eX : (fX t k == 255) = false := by rw [beq_eq_false_iff_ne]; omega
        have eY : (fY t k == 255) = false := by rw [beq_eq_false_iff_ne]; omega
        obtain ⟨U, hU, hU2⟩ : ∃ U : Nat, IntKind.u64.wrap turn = (U : Int) ∧ U < 18446744073709551616 := by
          have e := IntKind.wrap_u64 turn
          refine ⟨(IntKind.u64.wrap turn).toNat, ?_, ?_⟩ <;> rw [e] <;> omega
        obtain ⟨i, hi, hi2⟩ : ∃ i : Nat, (U : Int) % (m : Int) = (i : Int) ∧ i < m := ⟨U % m, by omega, Nat.mod_lt _ (by omega)⟩
        obtain ⟨ki, fi⟩ := own_byte hown4 i (by omega)
        have bi := byt_lt (lay t k) i
        obtain ⟨v, hv, hv1, hv2⟩ : ∃ v : Nat, (1 : Int) + (U : Int) / 1000 % 255 = v ∧ 1 ≤ v ∧ v ≤ 255 := ⟨1 + U / 1000 % 255, by omega, by omega, by omega⟩
        have hx := u8_xor_nat (byt (lay t k) i) v (by omega) (by omega)
        have hxl : byt (lay t k) i ^^^ v < 256 := Nat.xor_lt_two_pow (n := 8) (by omega) (by omega)
        obtain ⟨x8, hx8⟩ : ∃ x8 : UInt8, x8.toNat = byt (lay t k) i ^^^ v := ⟨UInt8.ofNat (byt (lay t k) i ^^^ v), by rw [UInt8.toNat_ofNat']; exact Nat.mod_eq_of_lt hxl⟩
        have HRT := hid (right_turn (lay t k) i x8 (by have := HL.out; have := HQ.out; omega) HR.out)
        have HB := hid (byt_set (lay t k) i i x8 (by have := HL.out; have := HQ.out; omega))
        rw [← hx8] at hx
        have H8 := hid hx8
        clear HR hx8 hxl
        go_wp2_with fail
        have hown5 := (hown4.stored i (.int .u8 (x8.toNat : Int))).1
        rw [B8_set] at hown5
        have hbb5 := hbb4.setCell (p := ⟨g, i, none⟩) hg1 (.int .u8 (x8.toNat : Int))
        generalize w4.setCell ⟨g, i, none⟩ (.int .u8 (x8.toNat : Int)) = w5 at *
        obtain ⟨kj, fj⟩ := own_byte hown5 i (by omega)
        have bj := byt_lt ((lay t k).set i x8) i
        clear hx
        go_quiet ((go_at_call 19; exact Calls.quiet_of_same (right_q _ _ _ ((lay t k).set i x8) _ (own_sl hown5))))
        go_wp2_with fail
        go_ret
        refine ⟨ret_bool ?_, below_drewN hbb5 _⟩
        have hrt := HRT.out
        have hb := HB.out
        simp only [if_true] at hb
        rw [hrt, ← hb, beq_iff_eq, Bool.eq_iff_iff, beq_iff_eq, beq_iff_eq]
        omega
      · go_wp2_with fail
        refine (fletcher_no _ _ _ k _ (by omega) (by omega)).mono ?_
        rintro e w' ⟨rfl, rfl⟩
        go_wp2_with fail
        refine (refFletcher_no _ _ _ k _ (by omega) (by omega)).mono ?_
        rintro e w' ⟨rfl, rfl⟩
        go_wp2_with fail
        refine (known9_any _).mono ?_
        rintro e w3 ⟨rfl, hb3⟩
        have hown3 := own_below hown hb3
        have hbb3 := hb1.trans (hb3.mono hb1.size)
        clear hb3 hb1 hown
        go_wp2_with fail
        refine (right_any _ _ _ t _ (own_sl hown3)).mono ?_
        rintro e w' ⟨rfl, rfl⟩
        go_wp2_with fail
        refine (refRight_any _ _ _ t _ (own_sl hown3)).mono ?_
        rintro e w' ⟨rfl, rfl⟩
        by_cases k0 : k < 0
        · clear hk
          go_wp2_with fail
          go_ret
          exact ⟨rfl, hbb3⟩
        · have k1 : (m : Int) - 2 < k := by omega
          clear hk
          go_wp2_with fail
          go_ret
          exact ⟨rfl, hbb3⟩
end Go.Proofs.Ytaajhkdifliblaa
