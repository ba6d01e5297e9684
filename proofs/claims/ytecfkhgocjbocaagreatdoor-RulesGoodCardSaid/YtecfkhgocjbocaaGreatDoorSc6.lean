/-
  Contracts of package schema: Decimal.
-/
import Derived.Test.YtecfkhgocjbocaaGreatDoorSc0
import Derived.Test.YtecfkhgocjbocaaGreatDoorSc3
namespace Go.Proofs.YtecfkhgocjbocaaGreatDoor
set_option linter.unusedVariables false
set_option linter.unusedSimpArgs false
open Go Go.RowKit

theorem tl_bl (s : ByteArray) : s.toList = bl s := Lib.toList_data s
theorem empty_iff (l : List UInt8) : (S8 l).toList.isEmpty = decide (l = []) := by
  rw [tl_bl]
  show l.isEmpty = _
  cases l <;> simp
theorem empty_s (s : ByteArray) : s.toList.isEmpty = decide (s.size = 0) := by
  rw [tl_bl, ← bl_len]
  cases bl s <;> simp
set_option maxRecDepth 100000 in
set_option maxHeartbeats 800000 in
theorem decimal_any (s : ByteArray) (w : World) (hs : s.size ≤ 2000000) : Calls Tryz.prog 119 #[.string s] w fun e w' => e = .returned (.tuple #[.int .i64 (SC.decV (bl s) : Nat), .bool (SC.decB (bl s))]) ∧ Below w.heap.size w w' := by
  have hl := bl_len s
  have hk0 : SC.decOk (bl s) = (decide (1 ≤ (bl s).length ∧ (bl s).length ≤ 9) && !(decide (1 < (bl s).length) && ((bl s).getD 0 0 == 48)) && (bl s).all SC.isDig) := rfl
  rw [hl] at hk0
  have he := empty_s s
  by_cases h1 : s.size = 0
  · have hno : SC.decOk (bl s) = false := by rw [hk0]; simp; omega
    obtain ⟨e1, e2⟩ := SC.dec_no (l := bl s) hno
    have E1 := hid e1
    have E2 := hid e2
    clear e1 e2 hno
    have te : s.toList.isEmpty = true := by rw [he]; simpa using h1
    clear he hk0 hl
    as_aux_lemma =>
      go_enter Tryz.func119, Tryz.ntmps119
      go_wp2_with fail
      go_ret2
      exact ⟨by rw [E1.out, E2.out]; rfl, Below.refl _ _⟩
  have te : s.toList.isEmpty = false := by rw [he]; simpa using h1
  clear he
  by_cases h2 : 9 < s.size
  · have hno : SC.decOk (bl s) = false := by rw [hk0]; simp; omega
    obtain ⟨e1, e2⟩ := SC.dec_no (l := bl s) hno
    have E1 := hid e1
    have E2 := hid e2
    clear e1 e2 hno
    clear hk0 hl
    as_aux_lemma =>
      go_enter Tryz.func119, Tryz.ntmps119
      go_wp2_with fail
      go_ret2
      exact ⟨by rw [E1.out, E2.out]; rfl, Below.refl _ _⟩
  have hT := trim_any s w (by omega)
  have htn := SC.trim_nil (bl s)
  by_cases h3 : (bl s).all SC.isDig = true
  rotate_left
  · have hno : SC.decOk (bl s) = false := by
      rw [hk0, Bool.eq_false_iff.2 h3]; simp
    obtain ⟨e1, e2⟩ := SC.dec_no (l := bl s) hno
    have E1 := hid e1
    have E2 := hid e2
    clear e1 e2 hno
    have hx : (S8 (Lib.trimS (bl s) [48, 49, 50, 51, 52, 53, 54, 55, 56, 57])).toList.isEmpty = false := by
      rw [empty_iff]; simp; exact fun h => h3 (htn.1 h)
    have HT := hid hT
    clear hk0 hl htn hT h3
    generalize Lib.trimS (bl s) [48, 49, 50, 51, 52, 53, 54, 55, 56, 57] = t at *
    as_aux_lemma =>
      go_enter Tryz.func119, Tryz.ntmps119
      go_wp2_with fail
      refine HT.out.mono ?_
      rintro e w1 ⟨rfl, hb⟩
      clear HT
      go_wp2_with fail
      go_ret2
      exact ⟨by rw [E1.out, E2.out]; rfl, hb⟩
  rw [htn.2 h3] at hT
  have HT := hid hT
  have hx : (S8 []).toList.isEmpty = true := by rw [empty_iff]; simp
  have h0 : 0 < s.size := by omega
  have hg0 := bl_get s 0 h0
  clear hT htn
  by_cases h4 : 1 < s.size ∧ (bl s).getD 0 0 = 48
  · have hno : SC.decOk (bl s) = false := by
      rw [hk0, h4.2]; simp; omega
    obtain ⟨e1, e2⟩ := SC.dec_no (l := bl s) hno
    have E1 := hid e1
    have E2 := hid e2
    clear e1 e2 hno
    have t0 : (((s[0]'h0).toNat : Int) == 48) = true := by rw [hg0.out, h4.2]; rfl
    have t1 : (s.toList == [48]) = false := by
      rw [tl_bl, beq_eq_false_iff_ne]
      intro h
      have := congrArg List.length h
      rw [bl_len] at this
      simp at this
      omega
    clear hk0 hl h3 h4 hg0
    as_aux_lemma =>
      go_enter Tryz.func119, Tryz.ntmps119
      go_wp2_with fail
      refine HT.out.mono ?_
      rintro e w1 ⟨rfl, hb⟩
      clear HT
      go_wp2_with fail
      go_ret2
      exact ⟨by rw [E1.out, E2.out]; rfl, hb⟩
  have hok : SC.decOk (bl s) = true := by
    rw [hk0, h3]
    have e1 : decide (1 ≤ s.size ∧ s.size ≤ 9) = true := by simp; omega
    have e2 : (decide (1 < s.size) && ((bl s).getD 0 0 == 48)) = false := by
      rw [Bool.and_eq_false_iff]
      by_cases h5 : 1 < s.size
      · right; rw [beq_eq_false_iff_ne]; exact fun h6 => h4 ⟨h5, h6⟩
      · left; simpa using h5
    rw [e1, e2]; rfl
  obtain ⟨e1, e2⟩ := SC.dec_yes hok
  have E1 := hid e1
  have E2 := hid e2
  have HA := hid (fun w' => atoi_any s w' hok hs)
  have hnb := SC.decV_lt (bl s)
  rw [e1] at hnb
  by_cases h5 : (bl s).getD 0 0 = 48
  · have t0 : (((s[0]'h0).toNat : Int) == 48) = true := by rw [hg0.out, h5]; rfl
    have hs1 : s = ⟨#[48]⟩ := by
      rw [bl_eq s]
      have hn1 : ¬ 1 < s.size := fun h => h4 ⟨h, h5⟩
      have hl1 : (bl s).length = 1 := by omega
      match hq : bl s, hl1 with
      | [x], _ => rw [hq] at h5; simp at h5; rw [h5]
    have t1 : (s.toList == [48]) = true := by rw [hs1, tl_bl]; rfl
    clear hk0 hl h3 h4 hg0 e1 e2 hok h5 hs1
    generalize SC.num (bl s) = n at *
    as_aux_lemma =>
      go_enter Tryz.func119, Tryz.ntmps119
      go_wp2_with fail
      refine HT.out.mono ?_
      rintro e w1 ⟨rfl, hb⟩
      clear HT
      go_wp2_with fail
      refine (HA.out w1).mono ?_
      rintro e w2 ⟨rfl, hb2⟩
      have hbw := hb.trans (hb2.mono hb.size)
      clear hb hb2 HA
      go_upto_region 4 with fail
      go_quiet (fail)
      go_wp2_with fail
      go_ret2
      exact ⟨by rw [E1.out, E2.out]; rfl, below_drewN hbw _⟩
  · have t0 : (((s[0]'h0).toNat : Int) == 48) = false := by
      rw [hg0.out, beq_eq_false_iff_ne]
      intro h6
      have h7 : ((bl s).getD 0 0).toNat = 48 := by omega
      exact h5 (UInt8.toNat_inj.1 h7)
    clear hk0 hl h3 h4 hg0 e1 e2 hok h5
    generalize SC.num (bl s) = n at *
    as_aux_lemma =>
      go_enter Tryz.func119, Tryz.ntmps119
      go_wp2_with fail
      refine HT.out.mono ?_
      rintro e w1 ⟨rfl, hb⟩
      clear HT
      go_wp2_with fail
      refine (HA.out w1).mono ?_
      rintro e w2 ⟨rfl, hb2⟩
      have hbw := hb.trans (hb2.mono hb.size)
      clear hb hb2 HA
      go_upto_region 4 with fail
      go_quiet (fail)
      go_wp2_with fail
      go_ret2
      exact ⟨by rw [E1.out, E2.out]; rfl, below_drewN hbw _⟩
end Go.Proofs.YtecfkhgocjbocaaGreatDoor
