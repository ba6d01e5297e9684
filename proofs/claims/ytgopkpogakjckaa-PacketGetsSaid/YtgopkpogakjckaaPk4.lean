/-
  Contract of packet's right.
-/
import Derived.Test.YtgopkpogakjckaaPk3
namespace Go.Proofs.Ytgopkpogakjckaa
set_option linter.unusedVariables false
set_option linter.unusedSimpArgs false
open Go Go.RowKit SM LM PK

theorem pix_any (s : ByteArray) (w : World) : Calls Try.prog 67 #[.string s, .int .u8 0] w fun e w' => e = .returned (.int .i64 (Lib.indexByte s.data.toList 0)) ∧ w' = w :=
  Any.strings_IndexByte Try.lays137 s 0 w
theorem ix_noZero (l : List UInt8) : decide (0 ≤ Lib.indexByte l 0) = !(l.all (· != 0)) := by
  induction l with
  | nil => rfl
  | cons x l ih =>
    unfold Lib.indexByte
    by_cases h : x = 0
    · subst h; simp
    · have hg := Lib.indexByte_ge l 0
      have hb : (x != 0) = true := by simpa using h
      have hb2 : ¬ (x == 0) = true := by simpa using h
      rw [if_neg hb2, List.all_cons, hb, Bool.true_and, ← ih]
      split
      · rename_i h3
        have h4 : Lib.indexByte l 0 = -1 := by simpa using h3
        rw [h4]
      · rename_i h3
        have h4 : Lib.indexByte l 0 ≠ -1 := by simpa using h3
        rw [Bool.eq_iff_iff]
        simp
        omega
def rightS0 (P : Pkt) (n1 n2 n3 n4 : Nat) : Prop := P.nbs.length = n1 ∧ P.heads.length = n2 ∧ P.keys.length = n3 ∧ P.lsas.length = n4
set_option maxRecDepth 100000 in
set_option maxHeartbeats 1600000 in
theorem pright_any (P : Pkt) (A1 : Option Addr) (n1 c1 : Nat) (A2 : Option Addr) (n2 c2 : Nat) (A3 : Option Addr) (n3 c3 : Nat) (A4 : Option Addr) (n4 c4 : Nat) (R : List LsR) (w : World) (h : IsPk w P A1 n1 c1 A2 n2 c2 A3 n3 c3 A4 n4 c4 R) :
    Calls Try.prog 35 #[.agg (pkC P A1 n1 c1 A2 n2 c2 A3 n3 c3 A4 n4 c4)] w fun e w' => e = .returned (.bool (rightP P)) ∧ Below w.heap.size w w' := by
  have hn := h.lens
  have hh := h.heads
  have hk := h.keys
  have hplain := fun w => plain_any P A1 n1 c1 A2 n2 c2 A3 n3 c3 A4 n4 c4 w hn
  have hgreets := fun w => greets_any P A1 n1 c1 w hn.1
  clear h
  obtain ⟨ty, router, area, auth, mask, intv, dead, prio, dr, bdr, nbs, flags, seq, heads, keys, lsas⟩ := P
  obtain ⟨hn1, hn2, hn3, hn4⟩ := hn
  simp only at hn1 hn2 hn3 hn4 hh hk hplain hgreets
  obtain ⟨few, hfew⟩ : ∃ few : Bool, few = (decide (n2 ≤ 20) && decide (n3 ≤ 20) && decide (n4 ≤ 20)) := ⟨_, rfl⟩
  have hok : Hid (rightP ⟨ty, router, area, auth, mask, intv, dead, prio, dr, bdr, nbs, flags, seq, heads, keys, lsas⟩ = (decide (1 ≤ ty ∧ ty ≤ 5) && decide (auth.size ≤ 8) && noZero auth && plainP ⟨ty, router, area, auth, mask, intv, dead, prio, dr, bdr, nbs, flags, seq, heads, keys, lsas⟩ && (ty != 1 || greetsP ⟨ty, router, area, auth, mask, intv, dead, prio, dr, bdr, nbs, flags, seq, heads, keys, lsas⟩) &&
      few && keys.all Ky.ok && decide (0 ≤ flags ∧ flags ≤ 7) && heads.all Hdr.ok)) := by
    show _ = _
    unfold rightP
    simp only [hn2, hn3, hn4, hfew, Bool.and_assoc]
  clear hn1 hn2 hn3 hn4
  have FEW := hid hfew
  clear hfew
  generalize plainP ⟨ty, router, area, auth, mask, intv, dead, prio, dr, bdr, nbs, flags, seq, heads, keys, lsas⟩ = b4 at hok hplain
  generalize greetsP ⟨ty, router, area, auth, mask, intv, dead, prio, dr, bdr, nbs, flags, seq, heads, keys, lsas⟩ = b5 at hok hgreets
  generalize d1 : decide (1 ≤ ty ∧ ty ≤ 5) = b1 at hok
  generalize d10 : decide (0 ≤ flags ∧ flags ≤ 7) = b10 at hok
  have D1 := hid d1
  have D10 := hid d10
  clear d1 d10
  have hix := ix_noZero auth.data.toList
  rw [show auth.data.toList.all (· != 0) = noZero auth from rfl] at hix
  generalize hz : noZero auth = b3 at hok hix
  have HIX := hid hix
  clear hix hz
  have hal := (Below.refl w.heap.size w).alloc (Nat.le_refl _) (.cells (pkC ⟨ty, router, area, auth, mask, intv, dead, prio, dr, bdr, nbs, flags, seq, heads, keys, lsas⟩ A1 n1 c1 A2 n2 c2 A3 n3 c3 A4 n4 c4) 40)
  have HAL := hid hal
  clear hal
  have HP := hid hplain
  have HG := hid hgreets
  clear hplain hgreets
  go_enter Try.func35, Try.ntmps35
  go_wp2_with fail
  refine (pbetween_any _ _ _ _).mono ?_
  rintro e w' ⟨rfl, rfl⟩
  rw [D1.out]
  cases b1
  · go_wp2_with fail
    go_ret
    exact ⟨ret_bool (by rw [hok.out]; rfl), HAL.out⟩
  by_cases hs : auth.size ≤ 8
  rotate_left
  · go_wp2_with fail
    go_ret
    exact ⟨ret_bool (by rw [hok.out]; simp [hs]), HAL.out⟩
  go_wp2_with fail
  refine (pix_any _ _).mono ?_
  rintro e w' ⟨rfl, rfl⟩
  generalize Lib.indexByte auth.data.toList 0 = ix at HIX
  have hd8 : decide (auth.size ≤ 8) = true := by simpa using hs
  cases b3
  · have hz : decide (0 ≤ ix) = true := HIX.out
    have hz0 : 0 ≤ ix := by simpa using hz
    clear hz
    go_wp2_with fail
    go_ret
    exact ⟨ret_bool (by rw [hok.out, hd8]; rfl), HAL.out⟩
  have hz : decide (0 ≤ ix) = false := HIX.out
  have hz0 : ix < 0 := by simpa using hz
  clear hz
  have HD8 := hid hd8
  clear hd8
  go_wp2_with fail
  refine (HP.out _).mono ?_
  rintro e w1 ⟨rfl, hb1⟩
  have hbb1 := HAL.out.trans (hb1.mono (by simp))
  have hc1 : ∀ i, w1.cell? ⟨w.heap.size, i, none⟩ = _ := fun i => (hb1.cell (p := ⟨w.heap.size, i, none⟩) (by simp)).trans ((blk_cells (heap_alloc_new w _)).1 i)
  cases b4
  · go_wp2_with fail
    go_ret
    exact ⟨ret_bool (by rw [hok.out, HD8.out]; rfl), hbb1⟩
  by_cases h5 : (ty != 1 || b5) = false
  · have h6 : ty = 1 ∧ b5 = false := by simpa using h5
    obtain ⟨rfl, rfl⟩ := h6
    have H5 := hid h5
    clear h5
    go_wp2_with fail
    refine (HG.out _).mono ?_
    rintro e w2 ⟨rfl, hb2⟩
    have hbb2 := hbb1.trans (hb2.mono (by have := hbb1.size; simpa using this))
    go_wp2_with fail
    go_ret
    exact ⟨ret_bool (by rw [hok.out, HD8.out, H5.out]; rfl), hbb2⟩
  have h5' : (ty != 1 || b5) = true := by revert h5; cases (ty != 1 || b5) <;> simp
  rw [h5'] at hok
  clear h5
  by_cases hty : ty = 1
  · subst hty
    have hb5 : b5 = true := by simpa using h5'
    subst hb5
    clear h5'
    go_wp2_with fail
    refine (HG.out _).mono ?_
    rintro e w2 ⟨rfl, hb2⟩
    have hbb2 := hbb1.trans (hb2.mono (by have := hbb1.size; simpa using this))
    have hc2 : ∀ i, w2.cell? ⟨w.heap.size, i, none⟩ = _ := fun i => (hb2.cell (p := ⟨w.heap.size, i, none⟩) (by have := hb1.size; simp at this ⊢; omega)).trans (hc1 i)
    have hz2 : w.heap.size < w2.heap.size := by have q1 := hb1.size; have q2 := hb2.size; simp at q1; omega
    clear hc1 hb1 hb2 hbb1
    go_upto_region 5 with fail
    go_cut [3] (fun s wx => w2 = wx ∧ s = .bool few)
    case first =>
      go_wp2_with fail
      all_goals go_meet
      all_goals go_light
      all_goals refine ⟨rfl, ?_⟩
      all_goals rw [FEW.out]
      all_goals clear hc2 hbb2 FEW hok HP HG HAL D1 D10 HIX HD8 hh hk
      all_goals (first | (simp_all; done) | (congr 1; rw [Bool.eq_iff_iff]; simp; omega) | (simp_all; omega))
    case rest =>
      obtain ⟨rfl, rfl⟩ := hcut
      clear FEW
      have hk2 := hk.below hbb2
      have hh2 := hh.below hbb2
      go_wp2_with fail
      refine (kyContains_any A3 n3 c3 keys w2 hk2).mono ?_
      rintro e w3 ⟨rfl, hb3⟩
      have hbb3 := hbb2.trans (hb3.mono hbb2.size)
      have hc3 : ∀ i, w3.cell? ⟨w.heap.size, i, none⟩ = _ := fun i => (hb3.cell (p := ⟨w.heap.size, i, none⟩) hz2).trans (hc2 i)
      have hh3 := hh2.below hb3
      clear hc2 hk2 hh2
      generalize keys.all Ky.ok = b9 at *
      cases few
      · go_wp2_with fail
        go_ret
        exact ⟨ret_bool (by rw [hok.out, HD8.out]; rfl), hbb3⟩
      cases b9
      · go_wp2_with fail
        go_ret
        exact ⟨ret_bool (by rw [hok.out, HD8.out]; rfl), hbb3⟩
      go_wp2_with fail
      refine (pbetween_any _ _ _ _).mono ?_
      rintro e w' ⟨rfl, rfl⟩
      rw [D10.out]
      cases b10
      · go_wp2_with fail
        go_ret
        exact ⟨ret_bool (by rw [hok.out, HD8.out]; rfl), hbb3⟩
      go_wp2_with fail
      refine (hdContains_any A2 n2 c2 heads _ hh3).mono ?_
      rintro e w4 ⟨rfl, hb4⟩
      have hbb4 := hbb3.trans (hb4.mono hbb3.size)
      generalize heads.all Hdr.ok = b11 at *
      clear hc3
      go_wp2_with fail
      go_ret
      exact ⟨ret_bool (by rw [hok.out, HD8.out]; simp), hbb4⟩
  · clear h5'
    have hbb2 := hbb1
    have hc2 := hc1
    have hz1 : w.heap.size < w1.heap.size := by have q1 := hb1.size; simp at q1; omega
    clear hc1 hb1 hbb1
    obtain ⟨w2, rfl⟩ : ∃ w2 : World, w2 = w1 := ⟨_, rfl⟩
    have hz2 := hz1
    clear hz1
    go_upto_region 5 with fail
    go_cut [3] (fun s wx => w2 = wx ∧ s = .bool few)
    case first =>
      go_wp2_with fail
      all_goals go_meet
      all_goals go_light
      all_goals refine ⟨rfl, ?_⟩
      all_goals rw [FEW.out]
      all_goals clear hc2 hbb2 FEW hok HP HG HAL D1 D10 HIX HD8 hh hk
      all_goals (first | (simp_all; done) | (congr 1; rw [Bool.eq_iff_iff]; simp; omega) | (simp_all; omega))
    case rest =>
      obtain ⟨rfl, rfl⟩ := hcut
      clear FEW
      have hk2 := hk.below hbb2
      have hh2 := hh.below hbb2
      go_wp2_with fail
      refine (kyContains_any A3 n3 c3 keys w2 hk2).mono ?_
      rintro e w3 ⟨rfl, hb3⟩
      have hbb3 := hbb2.trans (hb3.mono hbb2.size)
      have hc3 : ∀ i, w3.cell? ⟨w.heap.size, i, none⟩ = _ := fun i => (hb3.cell (p := ⟨w.heap.size, i, none⟩) hz2).trans (hc2 i)
      have hh3 := hh2.below hb3
      clear hc2 hk2 hh2
      generalize keys.all Ky.ok = b9 at *
      cases few
      · go_wp2_with fail
        go_ret
        exact ⟨ret_bool (by rw [hok.out, HD8.out]; rfl), hbb3⟩
      cases b9
      · go_wp2_with fail
        go_ret
        exact ⟨ret_bool (by rw [hok.out, HD8.out]; rfl), hbb3⟩
      go_wp2_with fail
      refine (pbetween_any _ _ _ _).mono ?_
      rintro e w' ⟨rfl, rfl⟩
      rw [D10.out]
      cases b10
      · go_wp2_with fail
        go_ret
        exact ⟨ret_bool (by rw [hok.out, HD8.out]; rfl), hbb3⟩
      go_wp2_with fail
      refine (hdContains_any A2 n2 c2 heads _ hh3).mono ?_
      rintro e w4 ⟨rfl, hb4⟩
      have hbb4 := hbb3.trans (hb4.mono hbb3.size)
      generalize heads.all Hdr.ok = b11 at *
      clear hc3
      go_wp2_with fail
      go_ret
      exact ⟨ret_bool (by rw [hok.out, HD8.out]; simp), hbb4⟩
end Go.Proofs.Ytgopkpogakjckaa
