/-
  Contracts: elect.Stable; the law's elects.
-/
import Derived.Test.YtaajhkdifliblaaEl6
namespace Go.Proofs.Ytaajhkdifliblaa
set_option linter.unusedVariables false
set_option linter.unusedSimpArgs false
open Go Go.RowKit EL

theorem stab_on {l : List Vot} {k : Nat} (hk : k < 16) (h : (passTo l l.length).2 = true) : stab l (16 - k) = stab (passTo l l.length).1 (16 - (k + 1)) := by
  obtain ⟨f, hf⟩ : ∃ f, 16 - k = f + 1 := ⟨15 - k, by omega⟩
  rw [hf, show 16 - (k + 1) = f by omega, stab, if_pos h]
theorem stab_out {l : List Vot} {k : Nat} (h1 : 1 ≤ k) (hk : k ≤ 16) (h : (passTo l l.length).2 = false ∨ k = 16) : stab l (16 - k) = ((votAt (passTo l l.length).1 0).dr, (votAt (passTo l l.length).1 0).bdr, k) := by
  rcases h with h | rfl
  · rcases Nat.lt_or_ge k 16 with hlt | hge
    · obtain ⟨f, hf⟩ : ∃ f, 16 - k = f + 1 := ⟨15 - k, by omega⟩
      rw [hf, stab, if_neg (by rw [h]; exact Bool.false_ne_true), show 15 - f = k by omega]
    · rw [show 16 - k = 0 by omega, stab, show k = 16 by omega]
  · rfl
set_option maxRecDepth 100000 in
set_option maxHeartbeats 1600000 in
theorem stable_any (A : Option Addr) (n c : Nat) (l : List Vot) (w : World) (h : Sl w 5 (.slice A n c) (VS l)) (hm : n ≤ 300) :
    Calls Try.prog 28 #[.slice A n c] w fun e w' => e = .returned (.tuple #[.int .u32 (stable l).1, .int .u32 (stable l).2.1, .int .i64 ((stable l).2.2 : Nat)]) ∧ Below w.heap.size w w' := by
  have LL := hid h.lenV.1
  rcases Nat.eq_zero_or_pos n with hn | hn
  · subst hn
    have HE : Hid (stable l = (0, 0, 0)) := by show _ = _; unfold stable; rw [if_pos LL.out]
    go_enter Try.func28, Try.ntmps28
    go_wp2_with fail
    refine bodyPost_ret (v := .tuple #[.int .u32 0, .int .u32 0, .int .i64 0]) (by simp [results, Try.results28, go_sem]) rfl ⟨by rw [HE.out]; rfl, Below.refl _ _⟩
  · have HST : Hid (stable l = stab l 15) := by show _ = _; unfold stable; rw [if_neg (by rw [LL.out]; omega)]
    go_enter Try.func28, Try.ntmps28
    go_wp2_with fail
    refine (cloneV_any A n c l w h hn (by omega)).mono ?_
    rintro e w1 ⟨g, c', rfl, hg1, hg2, hown, hb1⟩
    have hcap := (own_sl hown).lenV.2
    have hc1 := hcap.1
    have hc2 := hcap.2
    go_wp2_with fail
    go_loopw [6] (fun i wr => ∃ (k : Nat) (lk : List Vot), 1 ≤ k ∧ k ≤ 16 ∧ i = .int .i64 k ∧ lk.length = n ∧ Hid (stab lk (16 - k) = stab l 15) ∧ wr.ownsRow w.heap.size 50 5 (.slice (some ⟨g, 0, none⟩) n c') n (VS lk) ∧ Below w.heap.size w wr) (fun i _ => 16 - (intOf i).toNat)
    case atStart => exact ⟨1, l, Nat.le_refl _, by omega, rfl, LL.out, rfl, hown, hb1⟩
    case round =>
      obtain ⟨k, lk, hk1, hk2, rfl, LK, ST, hown, hbr⟩ := hrel
      go_wp2_with fail
      refine (pass_any w.heap.size g n c' lk wr hown hn hm).mono ?_
      rintro e w5 ⟨rfl, hown5, hkp⟩
      have hb5 := hbr.trans (hkp.below_of hbr.size (fun b hb => by omega))
      obtain ⟨l2, hl2⟩ : ∃ l2, l2 = (passTo lk n).1 := ⟨_, rfl⟩
      rw [← hl2] at hown5
      have HP2 := hid hl2
      clear hown hkp
      cases hP : (passTo lk n).2 with
      | false =>
        have HP := hid hP
        clear hl2 hP
        have HO : Hid (stable l = ((votAt l2 0).dr, (votAt l2 0).bdr, k)) := by show _ = _; rw [HST.out, ← ST.out]; have := stab_out (l := lk) hk1 hk2 (by rw [LK]; exact .inl HP.out); rw [LK, ← HP2.out] at this; exact this
        obtain ⟨b', off', hbo, hbl', q0, q1, q2, q3, q4⟩ := (own_sl hown5).vot hn
        injection hbo with hbo
        injection hbo with e1 e2
        subst e1; subst e2
        simp only [Nat.zero_mul, Nat.zero_add] at q0 q1 q2 q3 q4
        generalize votAt l2 0 = v at *
        go_wp2_with fail
        go_quiet (fail)
        go_wp2_with fail
        refine bodyPost_ret (v := .tuple #[.int .u32 v.dr, .int .u32 v.bdr, .int .i64 k]) (by simp [results, Try.results28, go_sem]) rfl ⟨by rw [HO.out], by (repeat (first | with_reducible exact Below.refl _ _ | with_reducible assumption | with_reducible refine Below.drew ?_ | with_reducible refine below_drewN ?_ _ | (with_reducible refine Below.alloc ?_ ?_ _; rotate_left; · (first | (simp; done) | omega | (simp at *; omega))) | (with_reducible refine Below.setCell ?_ ?_ _; rotate_left; · (first | (simp only []; omega) | (simp; done) | (simp; omega))) | with_reducible refine Below.trans ?_ (by with_reducible assumption)))⟩
      | true =>
        have HP := hid hP
        clear hl2 hP
        by_cases h16 : k < 16
        · have HL2 : Hid (l2.length = n) := by show _ = _; rw [HP2.out, passTo_length, LK]
          have HN : Hid (stab l2 (16 - (k + 1)) = stab l 15) := by show _ = _; rw [← ST.out, stab_on h16 (by rw [LK]; exact HP.out), LK, ← HP2.out]
          go_wp2_with fail
          go_light
          exact ⟨⟨k + 1, l2, by omega, by omega, by go_num, HL2.out, HN.out, hown5, hb5⟩, by simp [intOf]; omega⟩
        · have h16' := hid (show k = 16 by omega)
          have h16b : 16 ≤ k := by omega
          clear h16
          have HO : Hid (stable l = ((votAt l2 0).dr, (votAt l2 0).bdr, k)) := by show _ = _; rw [HST.out, ← ST.out]; have := stab_out (l := lk) hk1 hk2 (by rw [LK]; exact .inr h16'.out); rw [LK, ← HP2.out] at this; exact this
          obtain ⟨b', off', hbo, hbl', q0, q1, q2, q3, q4⟩ := (own_sl hown5).vot hn
          injection hbo with hbo
          injection hbo with e1 e2
          subst e1; subst e2
          simp only [Nat.zero_mul, Nat.zero_add] at q0 q1 q2 q3 q4
          generalize votAt l2 0 = v at *
          go_wp2_with fail
          go_quiet (fail)
          go_wp2_with fail
          refine bodyPost_ret (v := .tuple #[.int .u32 v.dr, .int .u32 v.bdr, .int .i64 k]) (by simp [results, Try.results28, go_sem]) rfl ⟨by rw [HO.out], by (repeat (first | with_reducible exact Below.refl _ _ | with_reducible assumption | with_reducible refine Below.drew ?_ | with_reducible refine below_drewN ?_ _ | (with_reducible refine Below.alloc ?_ ?_ _; rotate_left; · (first | (simp; done) | omega | (simp at *; omega))) | (with_reducible refine Below.setCell ?_ ?_ _; rotate_left; · (first | (simp only []; omega) | (simp; done) | (simp; omega))) | with_reducible refine Below.trans ?_ (by with_reducible assumption)))⟩

def two : List Vot := [⟨1, 11, 1, 0, 0⟩, ⟨2, 12, 1, 0, 0⟩]
theorem two_stable : (stable two).1 = 12 ∧ 0 < (stable two).2.2 := of_decide_eq_true (by kernel_rfl)
set_option maxRecDepth 100000 in
set_option maxHeartbeats 800000 in
theorem elects_any (w : World) : Calls Try.prog 29 #[] w fun e w' => e = .returned (.bool true) ∧ Below w.heap.size w w' := by
  have hsl : Sl (w.alloc (.cells (VS two).toArray 50)) 5 (.slice (some ⟨w.heap.size, 0, none⟩) 2 2) (VS two) := own_sl (own_made w w.heap.size 50 5 2 _ (VS two) (Nat.le_refl _) rfl (by rw [VS_length]; rfl) (by omega) (by omega))
  have hbb := (Below.refl w.heap.size w).alloc (Nat.le_refl _) (.cells (VS two).toArray 50)
  go_enter Try.func29, Try.ntmps29
  go_wp2_with fail
  refine (stable_any (some ⟨w.heap.size, 0, none⟩) 2 2 two _ hsl (by omega)).mono ?_
  rintro e w1 ⟨rfl, hb1⟩
  have hbw := hbb.trans (hb1.mono (by simp))
  have ht := two_stable
  generalize stable two = r at *
  obtain ⟨x, y, m⟩ := r
  obtain ⟨rfl, hm⟩ := ht
  clear hbb hsl hb1
  go_wp2_with fail
  go_ret
  exact ⟨ret_bool (by first | (simp; done) | (simp; omega)), hbw⟩
end Go.Proofs.Ytaajhkdifliblaa
