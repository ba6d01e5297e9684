/-
  Contract of the reference's Same; of the law's reads.
-/
import Derived.Test.YtfhlidlmipleaaaDoorLx4
namespace Go.Proofs.YtfhlidlmipleaaaDoor
set_option linter.unusedVariables false
set_option linter.unusedSimpArgs false
open Go Go.RowKit

theorem STR_cell {w : World} {A : Option Addr} {n c : Nat} {l : List (List UInt8)} (h : Sl w 1 (.slice A n c) (STR l)) {k : Nat} (hk : k < n) : ∃ b off, A = some ⟨b, off, none⟩ ∧ b < w.heap.size ∧ w.cell? ⟨b, off + k, none⟩ = some (.string (S8 (l.getD k []))) := by
  obtain ⟨A', n', c', he, hl, _, _, hr⟩ := h
  injection he with h1 h2 h3
  subst h1; subst h2; subst h3
  obtain ⟨b, off, rfl, hlt, hc⟩ := hr (by omega)
  simp [STR] at hl
  refine ⟨b, off, rfl, hlt, (hc k (by omega)).trans ?_⟩
  simp [STR, S8, List.getD_eq_getElem?_getD, List.getElem?_eq_getElem (show k < l.length by omega)]
theorem STR_len {w : World} {A : Option Addr} {n c : Nat} {l : List (List UInt8)} (h : Sl w 1 (.slice A n c) (STR l)) : l.length = n ∧ n ≤ c ∧ c ≤ 9223372036854775807 := by
  obtain ⟨A', n', c', he, hl, h2, h3, hr⟩ := h
  injection he with h4 h5 h6
  subst h4; subst h5; subst h6
  simp [STR] at hl
  exact ⟨hl, h2, by simpa [maxLen] using h3⟩
theorem s8_ne {x y : List UInt8} (h : x ≠ y) : (!((S8 x).toList == (S8 y).toList)) = true := by
  have h1 : (S8 x).toList = x := Lib.toList_data _
  have h2 : (S8 y).toList = y := Lib.toList_data _
  rw [h1, h2]
  simpa using h
theorem s8_eq (x : List UInt8) : (!((S8 x).toList == (S8 x).toList)) = false := by simp
set_option maxRecDepth 100000 in
set_option maxHeartbeats 400000 in
theorem same_any (A1 : Option Addr) (n1 c1 : Nat) (A2 : Option Addr) (n2 c2 : Nat) (l1 l2 : List (List UInt8)) (w : World) (h1 : Sl w 1 (.slice A1 n1 c1) (STR l1)) (h2 : Sl w 1 (.slice A2 n2 c2) (STR l2)) :
    Calls Tryd.prog 9 #[.slice A1 n1 c1, .slice A2 n2 c2] w fun e w' => e = .returned (.bool (decide (l1 = l2))) ∧ Below w.heap.size w w' := by
  obtain ⟨hl1, hc1, hm1⟩ := STR_len h1
  obtain ⟨hl2, hc2, hm2⟩ := STR_len h2
  have HL1 := hid hl1
  have HL2 := hid hl2
  clear hl1 hl2
  by_cases hn : n1 = n2
  · subst hn
    go_enter Tryd.func9, Tryd.ntmps9
    go_wp2_with fail
    go_loopw [5] (fun i wr => ∃ k : Nat, k ≤ n1 ∧ i = .int .i64 k ∧ Hid (∀ j < k, l1.getD j [] = l2.getD j []) ∧ Below w.heap.size w wr) (fun i _ => n1 - (intOf i).toNat)
    case atStart => exact ⟨0, Nat.zero_le _, rfl, hid (by simp), Below.refl _ _⟩
    case round =>
      obtain ⟨k, hk, rfl, hall, hb⟩ := hrel
      by_cases hlt : k < n1
      · obtain ⟨b1, o1, rfl, hb1, p1⟩ := STR_cell (h1.below hb) hlt
        obtain ⟨b2, o2, rfl, hb2, p2⟩ := STR_cell (h2.below hb) hlt
        clear h1 h2
        by_cases he : l1.getD k [] = l2.getD k []
        · have he2 := hid he
          rw [← he] at p2
          have t := s8_eq (l1.getD k [])
          clear he
          generalize hx : l1.getD k [] = x at *
          have HXX := hid hx
          clear hx
          have z1 := fun (z : WK (fun _ => False) wr) => (wat_cell (p := ⟨b1, o1 + k, none⟩) hb1 (fun e => e) z).trans p1
          have z2 := fun (z : WK (fun _ => False) wr) => (wat_cell (p := ⟨b2, o2 + k, none⟩) hb2 (fun e => e) z).trans p2
          go_wp2_with fail
          refine wp_region_loud (fun _ => False) [] (fun _ => Fact.none) (by kernel_rfl) (by kernel_rfl) .nil good_nothing sat_none (WX.out ?_)
          repeat (first | (refine wx_quietU (by rfl) (by rfl) (by rfl) (fun K hK => ?_); go_big_quiet_op; refine hK _ ?_; clear hK K) | (refine wx_quietG (by rfl) (by rfl) (by rfl) (by rfl) (by rfl) (fun K hK => ?_); go_big_quiet_op; refine hK _ ?_; clear hK K) | (refine wx_skipG (by rfl) (by rfl) (by rfl) (fun K hK => ?_); go_simp; refine hK _ ?_; clear hK K) | (refine wx_skipN (by rfl) (by rfl) (by rfl) (fun K hK => ?_); go_simp; refine hK _ ?_; clear hK K))
          refine wx_nil fun w2 hsat => ?_
          have hb3 := sat_below hsat
          clear hsat z1 z2
          go_wp2_with fail
          go_light
          refine ⟨⟨k + 1, by omega, by go_num, hid fun j hj => ?_, hb.trans (hb3.mono hb.size)⟩, by simp [intOf]; omega⟩
          by_cases hjk : j < k
          · exact hall.out j hjk
          · obtain rfl : j = k := by omega
            exact HXX.out.trans he2.out
        · have t := s8_ne he
          have HN : Hid (decide (l1 = l2) = false) := by
            show _ = _
            rw [decide_eq_false_iff_not]
            intro e
            exact he (by rw [e])
          clear he
          generalize l1.getD k [] = x at *
          generalize l2.getD k [] = y at *
          have z1 := fun (z : WK (fun _ => False) wr) => (wat_cell (p := ⟨b1, o1 + k, none⟩) hb1 (fun e => e) z).trans p1
          have z2 := fun (z : WK (fun _ => False) wr) => (wat_cell (p := ⟨b2, o2 + k, none⟩) hb2 (fun e => e) z).trans p2
          go_wp2_with fail
          refine wp_region_loud (fun _ => False) [] (fun _ => Fact.none) (by kernel_rfl) (by kernel_rfl) .nil good_nothing sat_none (WX.out ?_)
          repeat (first | (refine wx_quietU (by rfl) (by rfl) (by rfl) (fun K hK => ?_); go_big_quiet_op; refine hK _ ?_; clear hK K) | (refine wx_quietG (by rfl) (by rfl) (by rfl) (by rfl) (by rfl) (fun K hK => ?_); go_big_quiet_op; refine hK _ ?_; clear hK K) | (refine wx_skipG (by rfl) (by rfl) (by rfl) (fun K hK => ?_); go_simp; refine hK _ ?_; clear hK K) | (refine wx_skipN (by rfl) (by rfl) (by rfl) (fun K hK => ?_); go_simp; refine hK _ ?_; clear hK K))
          refine wx_nil fun w2 hsat => ?_
          have hb3 := sat_below hsat
          clear hsat z1 z2
          go_wp2_with fail
          go_ret
          exact ⟨ret_bool HN.out.symm, hb.trans (hb3.mono hb.size)⟩
      · obtain rfl : k = n1 := by omega
        have HE : Hid (decide (l1 = l2) = true) := by
          show _ = _
          rw [decide_eq_true_iff]
          refine List.ext_getElem (by rw [HL1.out, HL2.out]) fun j hj1 hj2 => ?_
          have := hall.out j (by rw [← HL1.out]; exact hj1)
          rw [List.getD_eq_getElem?_getD, List.getD_eq_getElem?_getD, List.getElem?_eq_getElem hj1, List.getElem?_eq_getElem hj2] at this
          exact this
        go_wp2_with fail
        go_ret
        exact ⟨ret_bool HE.out.symm, hb⟩
  · have HN : Hid (decide (l1 = l2) = false) := by
      show _ = _
      rw [decide_eq_false_iff_not]
      intro e
      have e1 := HL1.out
      have e2 := HL2.out
      rw [e] at e1
      omega
    have t : ((n1 : Int) != n2) = true := by rw [bne_iff_ne]; omega
    go_enter Tryd.func9, Tryd.ntmps9
    go_wp2_with fail
    go_ret
    exact ⟨ret_bool HN.out.symm, Below.refl _ _⟩
theorem run_reads : LX.run [97, 123, 98, 59, 125, 35, 32, 99] 0 [] = ([[97], [123], [98], [59], [125]], 8, 0) := by
  rw [LX.run_word 97 _ _ _ rfl (by decide)]
  simp only [show LX.wordLen [97, 123, 98, 59, 125, 35, 32, 99] = 1 from rfl, List.drop_succ_cons, List.drop_zero, List.take_succ_cons, List.take_zero, List.nil_append]
  rw [LX.run_sgn 123 _ _ _ rfl, LX.run_word 98 _ _ _ rfl (by decide)]
  simp only [show LX.wordLen [98, 59, 125, 35, 32, 99] = 1 from rfl, List.drop_succ_cons, List.drop_zero, List.take_succ_cons, List.take_zero]
  rw [LX.run_sgn 59 _ _ _ rfl, LX.run_sgn 125 _ _ _ rfl, LX.run_note 35 _ _ _ rfl]
  simp only [show LX.noteLen [35, 32, 99] = 3 from rfl, List.drop_succ_cons, List.drop_zero]
  rw [LX.run_nil]
  rfl
set_option maxRecDepth 100000 in
set_option maxHeartbeats 400000 in
theorem readsLaw_any (w : World) : Calls Tryd.prog 8 #[] w fun e w' => e = .returned (.bool true) ∧ Below w.heap.size w w' := by
  go_enter Tryd.func8, Tryd.ntmps8
  go_wp2_with fail
  have h0 := words_any ⟨#[97, 123, 98, 59, 125, 35, 32, 99]⟩ w (by decide)
  rw [show bl ⟨#[97, 123, 98, 59, 125, 35, 32, 99]⟩ = [97, 123, 98, 59, 125, 35, 32, 99] from rfl, run_reads] at h0
  refine h0.mono ?_
  rintro e w1 ⟨A, c, rfl, ho, hb⟩
  have hba := (Below.refl w1.heap.size w1).alloc (Nat.le_refl _) (.cells #[.string ⟨#[97]⟩, .string ⟨#[123]⟩, .string ⟨#[98]⟩, .string ⟨#[59]⟩, .string ⟨#[125]⟩] 9)
  have hsl : Sl (w1.alloc (.cells #[.string ⟨#[97]⟩, .string ⟨#[123]⟩, .string ⟨#[98]⟩, .string ⟨#[59]⟩, .string ⟨#[125]⟩] 9)) 1 (.slice (some ⟨w1.heap.size, 0, none⟩) 5 5) (STR [[97], [123], [98], [59], [125]]) := own_sl (own_made w1 0 9 1 5 _ (STR [[97], [123], [98], [59], [125]]) (Nat.zero_le _) rfl rfl (by omega) (by omega))
  have hs1 := own_sl (own_below ho hba)
  clear h0 ho
  go_wp2_with fail
  refine (same_any A 5 c (some ⟨w1.heap.size, 0, none⟩) 5 5 [[97], [123], [98], [59], [125]] [[97], [123], [98], [59], [125]] _ hs1 hsl).mono ?_
  rintro e w2 ⟨rfl, hb2⟩
  have hbw := (hb.trans (hba.mono hb.size)).trans (hb2.mono (by simp; have := hb.size; omega))
  clear hsl hs1 hba hb hb2
  go_wp2_with fail
  refine (isWord_any ⟨#[97]⟩ w2 (by decide)).mono ?_
  rintro e w3 ⟨rfl, rfl⟩
  rw [show LX.isW (bl ⟨#[97]⟩) = true from rfl]
  go_wp2_with fail
  refine (isWord_any ⟨#[123]⟩ w3 (by decide)).mono ?_
  rintro e w4 ⟨rfl, rfl⟩
  rw [show LX.isW (bl ⟨#[123]⟩) = false from rfl]
  go_wp2_with fail
  go_ret
  exact ⟨rfl, hbw⟩
end Go.Proofs.YtfhlidlmipleaaaDoor
