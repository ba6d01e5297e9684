/-
  The walk of LexAgain.
-/
import Derived.Test.YtfhlidlmipleaaaDoorLx7
namespace Go.Proofs.YtfhlidlmipleaaaDoor
set_option linter.unusedVariables false
set_option linter.unusedSimpArgs false
open Go Go.RowKit

theorem spread_app (a b : List (List UInt8)) : LX.spread (a ++ b) = LX.spread a ++ LX.spread b := by simp [LX.spread]
theorem spread_one (x : List UInt8) : LX.spread [x] = 32 :: x := by simp [LX.spread]
theorem run_len (n : Nat) : ∀ (l : List UInt8) (a : Nat) (out : List (List UInt8)), l.length ≤ n → (LX.spread (LX.run l a out).1).length ≤ (LX.spread out).length + 2 * l.length := by
  induction n with
  | zero =>
    intro l a out hl
    cases l with
    | nil => rw [LX.run_nil]; simp
    | cons c r => simp at hl
  | succ n ih =>
    intro l a out hl
    cases l with
    | nil => rw [LX.run_nil]; simp
    | cons c r =>
      simp at hl
      cases h1 : LX.blk c with
      | true => rw [LX.run_blk c r a out h1]; have := ih r (a + 1) out hl; simp; omega
      | false =>
        by_cases h2 : c.toNat = 35
        · rw [LX.run_note c r a out h2]
          have h3 : 0 < LX.noteLen (c :: r) := by simp [LX.noteLen, LX.nl, List.takeWhile_cons, h2]
          have := ih ((c :: r).drop (LX.noteLen (c :: r))) (a + LX.noteLen (c :: r)) out (by rw [List.length_drop]; simp; omega)
          rw [List.length_drop] at this
          omega
        · cases h3 : LX.sgn c with
          | true =>
            rw [LX.run_sgn c r a out h3]
            have := ih r (a + 1) (out ++ [[c]]) hl
            rw [spread_app, List.length_append, spread_one] at this
            simp at this ⊢
            omega
          | false =>
            cases h4 : LX.inW c with
            | true =>
              have hwl := LX.wordLen_cons c r h4
              have hle := wl_le (c :: r)
              by_cases h5 : LX.wordLen (c :: r) ≤ 31
              · rw [LX.run_word c r a out h4 h5]
                have := ih ((c :: r).drop (LX.wordLen (c :: r))) (a + LX.wordLen (c :: r)) (out ++ [(c :: r).take (LX.wordLen (c :: r))]) (by rw [List.length_drop]; simp; omega)
                rw [spread_app, List.length_append, spread_one, List.length_drop, List.length_cons, List.length_take] at this
                omega
              · rw [LX.run_long c r a out h4 (by omega)]
                simp [LX.spread]
            | false => rw [LX.run_bad c r a out h1 h2 h3 h4]; simp [LX.spread]
theorem tok_isW (x : List UInt8) (h : LX.Tok x) : LX.isW x = !isSgn x := by
  rw [Bool.eq_iff_iff, LX.isW_tok x h, Bool.not_eq_true', ← Bool.not_eq_true, isSgn_iff]
theorem bl_app (a b : ByteArray) : bl (a ++ b) = bl a ++ bl b := by simp [bl]
set_option maxRecDepth 100000 in
set_option maxHeartbeats 1600000 in
theorem lexAgain_walk (s0 : ByteArray) (w : World) (h0 : s0.size ≤ maxLen) : Calls Tryd.prog 4 #[.string s0] w fun e w' => e = .returned (.bool true) ∧ Below w.heap.size w w' := by
  obtain ⟨m, hm1, hm2, hm⟩ := cut_min s0 200
  have hsz := ext_size s0 m hm2
  have h63 : s0.size ≤ 9223372036854775807 := by simpa [maxLen] using h0
  rw [show ((200 : Nat) : Int) = 200 from rfl] at hm
  go_enter Tryd.func4, Tryd.ntmps4
  go_wp2_with fail
  generalize s0.extract 0 m = s at *
  have hV := refWords_any s w (by omega)
  have herr := LX.run_err (bl s).length (bl s) 0 [] (Nat.le_refl _)
  have htok := LX.run_toks (bl s).length (bl s) 0 [] (Nat.le_refl _) (by simp)
  have hlen := run_len (bl s).length (bl s) 0 [] (Nat.le_refl _)
  generalize LX.run (bl s) 0 [] = R at *
  obtain ⟨L, at_, er⟩ := R
  simp only at herr hV htok hlen
  rw [bl_len, hsz] at hlen
  have hlen2 : (LX.spread L).length ≤ 400 := by simp [LX.spread] at hlen ⊢; omega
  clear hlen
  refine hV.mono ?_
  rintro e w2 ⟨A2, c2, rfl, ho2, hbw2⟩
  have hs2 := own_sl ho2
  clear hV ho2
  rcases herr with rfl | rfl
  · go_wp2_with fail
    refine (readsLaw_any w2).mono ?_
    rintro e w3 ⟨rfl, hb3⟩
    have hbw3 := hbw2.trans (hb3.mono hbw2.size)
    have hs3 := hs2.below hb3
    clear hb3 hbw2 hs2
    go_wp2_with fail
    go_loopw [6, 7] (fun v i wr => ∃ (k : Nat) (AL : ByteArray), k ≤ L.length ∧ v = .string AL ∧ i = .int .i64 k ∧ bl AL = LX.spread (L.take k) ∧ AL.size ≤ 400 ∧ Below w3.heap.size w3 wr) (fun _ i _ => L.length - (intOf i).toNat)
    case atStart => exact ⟨0, ⟨#[]⟩, Nat.zero_le _, rfl, rfl, by simp [LX.spread], by decide, Below.refl _ _⟩
    case round =>
      obtain ⟨k, AL, hk, rfl, rfl, hAL, hALs, hb4⟩ := hrel
      have HAL := hid hAL
      clear hAL
      by_cases hlt : k < L.length
      · obtain ⟨b, off, rfl, hb2, p0⟩ := STR_cell (hs3.below hb4) hlt
        obtain ⟨hcc1, hcc2, hcc3⟩ := STR_len hs3
        have hxt : LX.Tok (L.getD k []) := by
          rw [List.getD_eq_getElem?_getD, List.getElem?_eq_getElem hlt]
          exact htok _ (List.getElem_mem hlt)
        have hsp : LX.spread (L.take (k + 1)) = LX.spread (L.take k) ++ 32 :: L.getD k [] := by
          rw [List.take_succ_eq_append_getElem hlt, spread_app, spread_one, List.getD_eq_getElem?_getD, List.getElem?_eq_getElem hlt]
          rfl
        have hle : (LX.spread (L.take (k + 1))).length ≤ 400 := by
          have h1 : LX.spread L = LX.spread (L.take (k + 1)) ++ LX.spread (L.drop (k + 1)) := by rw [← spread_app, List.take_append_drop]
          rw [h1, List.length_append] at hlen2
          omega
        have HT := hid (tok_isW _ hxt)
        generalize L.getD k [] = x at *
        have hx8 : (S8 x).toList = x := Lib.toList_data _
        have hxz : (S8 x).size = x.length := by rw [← bl_len]; rfl
        have hALz : AL.size = (LX.spread (L.take k)).length := by rw [← bl_len, HAL.out]
        have hz2 : (AL ++ ⟨#[32]⟩).size = AL.size + 1 := by rw [← bl_len, bl_app, List.length_append, bl_len]; rfl
        rw [hsp, List.length_append, List.length_cons] at hle
        have ha1 := fun (w : World) => run_string_add_sum (P := Tryd.prog) w AL ⟨#[32]⟩ (by show AL.size + 1 ≤ _; omega)
        have ha2 := fun (w : World) => run_string_add_sum (P := Tryd.prog) w (AL ++ ⟨#[32]⟩) (S8 x) (by omega)
        have HBL : Hid (bl (AL ++ ⟨#[32]⟩ ++ S8 x) = LX.spread (L.take (k + 1))) := by
          show _ = _
          rw [bl_app, bl_app, HAL.out, hsp]
          simp [bl, S8]
        have hBz : (AL ++ ⟨#[32]⟩ ++ S8 x).size ≤ 400 := by rw [← bl_len, HBL.out, hsp, List.length_append, List.length_cons]; omega
        generalize AL ++ ⟨#[32]⟩ ++ S8 x = B at *
        have hsg : isSgn x = ((S8 x).toList == [123] || (S8 x).toList == [125] || (S8 x).toList == [59]) := by
          rw [hx8]
          rfl
        obtain ⟨b1, h1⟩ : ∃ b, ((S8 x).toList == [123]) = b := ⟨_, rfl⟩
        obtain ⟨b2, h2⟩ : ∃ b, ((S8 x).toList == [125]) = b := ⟨_, rfl⟩
        obtain ⟨b3, h3⟩ : ∃ b, ((S8 x).toList == [59]) = b := ⟨_, rfl⟩
        rw [hsg, h1, h2, h3] at HT
        have hbx : bl (S8 x) = x := rfl
        rw [← hbx] at HT
        have hx9 : (S8 x).size ≤ 9223372036854775807 := by omega
        clear hsg hx8 hsp hxt hxz hALz hz2 hle hbx
        generalize S8 x = xx at *
        cases b1 <;> cases b2 <;> cases b3
        · simp only [Bool.not_false, Bool.not_true, Bool.or_self, Bool.or_true, Bool.or_false, Bool.true_or, Bool.false_or] at HT
          have z1 := fun (z : WK (fun _ => False) wr) => (wat_cell (p := ⟨b, off + k, none⟩) hb2 (fun e => e) z).trans p0
          go_wp2_with fail
          refine wp_region_loud (fun _ => False) [(4, plainL [] (.bool true))] (fun _ => Fact.none) (by kernel_rfl) (by kernel_rfl) (.cons (plainL_ok _ _) .nil) good_nothing sat_none (WX.out ?_)
          repeat (first | (refine wx_quietU (by rfl) (by rfl) (by rfl) (fun K hK => ?_); go_big_quiet_op; refine hK _ ?_; clear hK K) | (refine wx_quietG (by rfl) (by rfl) (by rfl) (by rfl) (by rfl) (fun K hK => ?_); go_big_quiet_op; refine hK _ ?_; clear hK K) | (refine wx_skipG (by rfl) (by rfl) (by rfl) (fun K hK => ?_); go_simp; refine hK _ ?_; clear hK K) | (refine wx_skipN (by rfl) (by rfl) (by rfl) (fun K hK => ?_); go_simp; refine hK _ ?_; clear hK K))
          refine wx_loudU (us := []) (by rfl) (by rfl) (fun S wS hC hS hU => runs_enter (f := 10) (by go_simp <;> rfl) ?_) (fun v hv K hK => ?_)
          · refine (isWord_any xx wS hx9).mono ?_
            rintro e w' ⟨rfl, rfl⟩
            rw [HT.out]
            exact ⟨_, rfl, rfl, Kept.refl _ _, trivial⟩
          obtain rfl := hv; (go_simp; refine hK _ ?_; clear hK K)
          repeat (first | (refine wx_quietU (by rfl) (by rfl) (by rfl) (fun K hK => ?_); go_big_quiet_op; refine hK _ ?_; clear hK K) | (refine wx_quietG (by rfl) (by rfl) (by rfl) (by rfl) (by rfl) (fun K hK => ?_); go_big_quiet_op; refine hK _ ?_; clear hK K) | (refine wx_skipG (by rfl) (by rfl) (by rfl) (fun K hK => ?_); go_simp; refine hK _ ?_; clear hK K) | (refine wx_skipN (by rfl) (by rfl) (by rfl) (fun K hK => ?_); go_simp; refine hK _ ?_; clear hK K))
          refine wx_nil fun w5 hsat => ?_
          have hb5 := sat_below hsat
          have hbw5 := hb4.trans (hb5.mono hb4.size)
          clear hsat z1 hb4 hb5
          go_wp2_with fail
          go_light
          exact ⟨⟨k + 1, B, by omega, rfl, by go_num, HBL.out, hBz, hbw5⟩, by simp [intOf]; omega⟩
        · simp only [Bool.not_false, Bool.not_true, Bool.or_self, Bool.or_true, Bool.or_false, Bool.true_or, Bool.false_or] at HT
          have z1 := fun (z : WK (fun _ => False) wr) => (wat_cell (p := ⟨b, off + k, none⟩) hb2 (fun e => e) z).trans p0
          go_wp2_with fail
          refine wp_region_loud (fun _ => False) [(4, plainL [] (.bool false))] (fun _ => Fact.none) (by kernel_rfl) (by kernel_rfl) (.cons (plainL_ok _ _) .nil) good_nothing sat_none (WX.out ?_)
          repeat (first | (refine wx_quietU (by rfl) (by rfl) (by rfl) (fun K hK => ?_); go_big_quiet_op; refine hK _ ?_; clear hK K) | (refine wx_quietG (by rfl) (by rfl) (by rfl) (by rfl) (by rfl) (fun K hK => ?_); go_big_quiet_op; refine hK _ ?_; clear hK K) | (refine wx_skipG (by rfl) (by rfl) (by rfl) (fun K hK => ?_); go_simp; refine hK _ ?_; clear hK K) | (refine wx_skipN (by rfl) (by rfl) (by rfl) (fun K hK => ?_); go_simp; refine hK _ ?_; clear hK K))
          refine wx_loudU (us := []) (by rfl) (by rfl) (fun S wS hC hS hU => runs_enter (f := 10) (by go_simp <;> rfl) ?_) (fun v hv K hK => ?_)
          · refine (isWord_any xx wS hx9).mono ?_
            rintro e w' ⟨rfl, rfl⟩
            rw [HT.out]
            exact ⟨_, rfl, rfl, Kept.refl _ _, trivial⟩
          obtain rfl := hv; (go_simp; refine hK _ ?_; clear hK K)
          repeat (first | (refine wx_quietU (by rfl) (by rfl) (by rfl) (fun K hK => ?_); go_big_quiet_op; refine hK _ ?_; clear hK K) | (refine wx_quietG (by rfl) (by rfl) (by rfl) (by rfl) (by rfl) (fun K hK => ?_); go_big_quiet_op; refine hK _ ?_; clear hK K) | (refine wx_skipG (by rfl) (by rfl) (by rfl) (fun K hK => ?_); go_simp; refine hK _ ?_; clear hK K) | (refine wx_skipN (by rfl) (by rfl) (by rfl) (fun K hK => ?_); go_simp; refine hK _ ?_; clear hK K))
          refine wx_nil fun w5 hsat => ?_
          have hb5 := sat_below hsat
          have hbw5 := hb4.trans (hb5.mono hb4.size)
          clear hsat z1 hb4 hb5
          go_wp2_with fail
          go_light
          exact ⟨⟨k + 1, B, by omega, rfl, by go_num, HBL.out, hBz, hbw5⟩, by simp [intOf]; omega⟩
        · simp only [Bool.not_false, Bool.not_true, Bool.or_self, Bool.or_true, Bool.or_false, Bool.true_or, Bool.false_or] at HT
          have z1 := fun (z : WK (fun _ => False) wr) => (wat_cell (p := ⟨b, off + k, none⟩) hb2 (fun e => e) z).trans p0
          go_wp2_with fail
          refine wp_region_loud (fun _ => False) [(4, plainL [] (.bool false))] (fun _ => Fact.none) (by kernel_rfl) (by kernel_rfl) (.cons (plainL_ok _ _) .nil) good_nothing sat_none (WX.out ?_)
          repeat (first | (refine wx_quietU (by rfl) (by rfl) (by rfl) (fun K hK => ?_); go_big_quiet_op; refine hK _ ?_; clear hK K) | (refine wx_quietG (by rfl) (by rfl) (by rfl) (by rfl) (by rfl) (fun K hK => ?_); go_big_quiet_op; refine hK _ ?_; clear hK K) | (refine wx_skipG (by rfl) (by rfl) (by rfl) (fun K hK => ?_); go_simp; refine hK _ ?_; clear hK K) | (refine wx_skipN (by rfl) (by rfl) (by rfl) (fun K hK => ?_); go_simp; refine hK _ ?_; clear hK K))
          refine wx_loudU (us := []) (by rfl) (by rfl) (fun S wS hC hS hU => runs_enter (f := 10) (by go_simp <;> rfl) ?_) (fun v hv K hK => ?_)
          · refine (isWord_any xx wS hx9).mono ?_
            rintro e w' ⟨rfl, rfl⟩
            rw [HT.out]
            exact ⟨_, rfl, rfl, Kept.refl _ _, trivial⟩
          obtain rfl := hv; (go_simp; refine hK _ ?_; clear hK K)
          repeat (first | (refine wx_quietU (by rfl) (by rfl) (by rfl) (fun K hK => ?_); go_big_quiet_op; refine hK _ ?_; clear hK K) | (refine wx_quietG (by rfl) (by rfl) (by rfl) (by rfl) (by rfl) (fun K hK => ?_); go_big_quiet_op; refine hK _ ?_; clear hK K) | (refine wx_skipG (by rfl) (by rfl) (by rfl) (fun K hK => ?_); go_simp; refine hK _ ?_; clear hK K) | (refine wx_skipN (by rfl) (by rfl) (by rfl) (fun K hK => ?_); go_simp; refine hK _ ?_; clear hK K))
          refine wx_nil fun w5 hsat => ?_
          have hb5 := sat_below hsat
          have hbw5 := hb4.trans (hb5.mono hb4.size)
          clear hsat z1 hb4 hb5
          go_wp2_with fail
          go_light
          exact ⟨⟨k + 1, B, by omega, rfl, by go_num, HBL.out, hBz, hbw5⟩, by simp [intOf]; omega⟩
        · simp only [Bool.not_false, Bool.not_true, Bool.or_self, Bool.or_true, Bool.or_false, Bool.true_or, Bool.false_or] at HT
          have z1 := fun (z : WK (fun _ => False) wr) => (wat_cell (p := ⟨b, off + k, none⟩) hb2 (fun e => e) z).trans p0
          go_wp2_with fail
          refine wp_region_loud (fun _ => False) [(4, plainL [] (.bool false))] (fun _ => Fact.none) (by kernel_rfl) (by kernel_rfl) (.cons (plainL_ok _ _) .nil) good_nothing sat_none (WX.out ?_)
          repeat (first | (refine wx_quietU (by rfl) (by rfl) (by rfl) (fun K hK => ?_); go_big_quiet_op; refine hK _ ?_; clear hK K) | (refine wx_quietG (by rfl) (by rfl) (by rfl) (by rfl) (by rfl) (fun K hK => ?_); go_big_quiet_op; refine hK _ ?_; clear hK K) | (refine wx_skipG (by rfl) (by rfl) (by rfl) (fun K hK => ?_); go_simp; refine hK _ ?_; clear hK K) | (refine wx_skipN (by rfl) (by rfl) (by rfl) (fun K hK => ?_); go_simp; refine hK _ ?_; clear hK K))
          refine wx_loudU (us := []) (by rfl) (by rfl) (fun S wS hC hS hU => runs_enter (f := 10) (by go_simp <;> rfl) ?_) (fun v hv K hK => ?_)
          · refine (isWord_any xx wS hx9).mono ?_
            rintro e w' ⟨rfl, rfl⟩
            rw [HT.out]
            exact ⟨_, rfl, rfl, Kept.refl _ _, trivial⟩
          obtain rfl := hv; (go_simp; refine hK _ ?_; clear hK K)
          repeat (first | (refine wx_quietU (by rfl) (by rfl) (by rfl) (fun K hK => ?_); go_big_quiet_op; refine hK _ ?_; clear hK K) | (refine wx_quietG (by rfl) (by rfl) (by rfl) (by rfl) (by rfl) (fun K hK => ?_); go_big_quiet_op; refine hK _ ?_; clear hK K) | (refine wx_skipG (by rfl) (by rfl) (by rfl) (fun K hK => ?_); go_simp; refine hK _ ?_; clear hK K) | (refine wx_skipN (by rfl) (by rfl) (by rfl) (fun K hK => ?_); go_simp; refine hK _ ?_; clear hK K))
          refine wx_nil fun w5 hsat => ?_
          have hb5 := sat_below hsat
          have hbw5 := hb4.trans (hb5.mono hb4.size)
          clear hsat z1 hb4 hb5
          go_wp2_with fail
          go_light
          exact ⟨⟨k + 1, B, by omega, rfl, by go_num, HBL.out, hBz, hbw5⟩, by simp [intOf]; omega⟩
        · simp only [Bool.not_false, Bool.not_true, Bool.or_self, Bool.or_true, Bool.or_false, Bool.true_or, Bool.false_or] at HT
          have z1 := fun (z : WK (fun _ => False) wr) => (wat_cell (p := ⟨b, off + k, none⟩) hb2 (fun e => e) z).trans p0
          go_wp2_with fail
          refine wp_region_loud (fun _ => False) [(4, plainL [] (.bool false))] (fun _ => Fact.none) (by kernel_rfl) (by kernel_rfl) (.cons (plainL_ok _ _) .nil) good_nothing sat_none (WX.out ?_)
          repeat (first | (refine wx_quietU (by rfl) (by rfl) (by rfl) (fun K hK => ?_); go_big_quiet_op; refine hK _ ?_; clear hK K) | (refine wx_quietG (by rfl) (by rfl) (by rfl) (by rfl) (by rfl) (fun K hK => ?_); go_big_quiet_op; refine hK _ ?_; clear hK K) | (refine wx_skipG (by rfl) (by rfl) (by rfl) (fun K hK => ?_); go_simp; refine hK _ ?_; clear hK K) | (refine wx_skipN (by rfl) (by rfl) (by rfl) (fun K hK => ?_); go_simp; refine hK _ ?_; clear hK K))
          refine wx_loudU (us := []) (by rfl) (by rfl) (fun S wS hC hS hU => runs_enter (f := 10) (by go_simp <;> rfl) ?_) (fun v hv K hK => ?_)
          · refine (isWord_any xx wS hx9).mono ?_
            rintro e w' ⟨rfl, rfl⟩
            rw [HT.out]
            exact ⟨_, rfl, rfl, Kept.refl _ _, trivial⟩
          obtain rfl := hv; (go_simp; refine hK _ ?_; clear hK K)
          repeat (first | (refine wx_quietU (by rfl) (by rfl) (by rfl) (fun K hK => ?_); go_big_quiet_op; refine hK _ ?_; clear hK K) | (refine wx_quietG (by rfl) (by rfl) (by rfl) (by rfl) (by rfl) (fun K hK => ?_); go_big_quiet_op; refine hK _ ?_; clear hK K) | (refine wx_skipG (by rfl) (by rfl) (by rfl) (fun K hK => ?_); go_simp; refine hK _ ?_; clear hK K) | (refine wx_skipN (by rfl) (by rfl) (by rfl) (fun K hK => ?_); go_simp; refine hK _ ?_; clear hK K))
          refine wx_nil fun w5 hsat => ?_
          have hb5 := sat_below hsat
          have hbw5 := hb4.trans (hb5.mono hb4.size)
          clear hsat z1 hb4 hb5
          go_wp2_with fail
          go_light
          exact ⟨⟨k + 1, B, by omega, rfl, by go_num, HBL.out, hBz, hbw5⟩, by simp [intOf]; omega⟩
        · simp only [Bool.not_false, Bool.not_true, Bool.or_self, Bool.or_true, Bool.or_false, Bool.true_or, Bool.false_or] at HT
          have z1 := fun (z : WK (fun _ => False) wr) => (wat_cell (p := ⟨b, off + k, none⟩) hb2 (fun e => e) z).trans p0
          go_wp2_with fail
          refine wp_region_loud (fun _ => False) [(4, plainL [] (.bool false))] (fun _ => Fact.none) (by kernel_rfl) (by kernel_rfl) (.cons (plainL_ok _ _) .nil) good_nothing sat_none (WX.out ?_)
          repeat (first | (refine wx_quietU (by rfl) (by rfl) (by rfl) (fun K hK => ?_); go_big_quiet_op; refine hK _ ?_; clear hK K) | (refine wx_quietG (by rfl) (by rfl) (by rfl) (by rfl) (by rfl) (fun K hK => ?_); go_big_quiet_op; refine hK _ ?_; clear hK K) | (refine wx_skipG (by rfl) (by rfl) (by rfl) (fun K hK => ?_); go_simp; refine hK _ ?_; clear hK K) | (refine wx_skipN (by rfl) (by rfl) (by rfl) (fun K hK => ?_); go_simp; refine hK _ ?_; clear hK K))
          refine wx_loudU (us := []) (by rfl) (by rfl) (fun S wS hC hS hU => runs_enter (f := 10) (by go_simp <;> rfl) ?_) (fun v hv K hK => ?_)
          · refine (isWord_any xx wS hx9).mono ?_
            rintro e w' ⟨rfl, rfl⟩
            rw [HT.out]
            exact ⟨_, rfl, rfl, Kept.refl _ _, trivial⟩
          obtain rfl := hv; (go_simp; refine hK _ ?_; clear hK K)
          repeat (first | (refine wx_quietU (by rfl) (by rfl) (by rfl) (fun K hK => ?_); go_big_quiet_op; refine hK _ ?_; clear hK K) | (refine wx_quietG (by rfl) (by rfl) (by rfl) (by rfl) (by rfl) (fun K hK => ?_); go_big_quiet_op; refine hK _ ?_; clear hK K) | (refine wx_skipG (by rfl) (by rfl) (by rfl) (fun K hK => ?_); go_simp; refine hK _ ?_; clear hK K) | (refine wx_skipN (by rfl) (by rfl) (by rfl) (fun K hK => ?_); go_simp; refine hK _ ?_; clear hK K))
          refine wx_nil fun w5 hsat => ?_
          have hb5 := sat_below hsat
          have hbw5 := hb4.trans (hb5.mono hb4.size)
          clear hsat z1 hb4 hb5
          go_wp2_with fail
          go_light
          exact ⟨⟨k + 1, B, by omega, rfl, by go_num, HBL.out, hBz, hbw5⟩, by simp [intOf]; omega⟩
        · simp only [Bool.not_false, Bool.not_true, Bool.or_self, Bool.or_true, Bool.or_false, Bool.true_or, Bool.false_or] at HT
          have z1 := fun (z : WK (fun _ => False) wr) => (wat_cell (p := ⟨b, off + k, none⟩) hb2 (fun e => e) z).trans p0
          go_wp2_with fail
          refine wp_region_loud (fun _ => False) [(4, plainL [] (.bool false))] (fun _ => Fact.none) (by kernel_rfl) (by kernel_rfl) (.cons (plainL_ok _ _) .nil) good_nothing sat_none (WX.out ?_)
          repeat (first | (refine wx_quietU (by rfl) (by rfl) (by rfl) (fun K hK => ?_); go_big_quiet_op; refine hK _ ?_; clear hK K) | (refine wx_quietG (by rfl) (by rfl) (by rfl) (by rfl) (by rfl) (fun K hK => ?_); go_big_quiet_op; refine hK _ ?_; clear hK K) | (refine wx_skipG (by rfl) (by rfl) (by rfl) (fun K hK => ?_); go_simp; refine hK _ ?_; clear hK K) | (refine wx_skipN (by rfl) (by rfl) (by rfl) (fun K hK => ?_); go_simp; refine hK _ ?_; clear hK K))
          refine wx_loudU (us := []) (by rfl) (by rfl) (fun S wS hC hS hU => runs_enter (f := 10) (by go_simp <;> rfl) ?_) (fun v hv K hK => ?_)
          · refine (isWord_any xx wS hx9).mono ?_
            rintro e w' ⟨rfl, rfl⟩
            rw [HT.out]
            exact ⟨_, rfl, rfl, Kept.refl _ _, trivial⟩
          obtain rfl := hv; (go_simp; refine hK _ ?_; clear hK K)
          repeat (first | (refine wx_quietU (by rfl) (by rfl) (by rfl) (fun K hK => ?_); go_big_quiet_op; refine hK _ ?_; clear hK K) | (refine wx_quietG (by rfl) (by rfl) (by rfl) (by rfl) (by rfl) (fun K hK => ?_); go_big_quiet_op; refine hK _ ?_; clear hK K) | (refine wx_skipG (by rfl) (by rfl) (by rfl) (fun K hK => ?_); go_simp; refine hK _ ?_; clear hK K) | (refine wx_skipN (by rfl) (by rfl) (by rfl) (fun K hK => ?_); go_simp; refine hK _ ?_; clear hK K))
          refine wx_nil fun w5 hsat => ?_
          have hb5 := sat_below hsat
          have hbw5 := hb4.trans (hb5.mono hb4.size)
          clear hsat z1 hb4 hb5
          go_wp2_with fail
          go_light
          exact ⟨⟨k + 1, B, by omega, rfl, by go_num, HBL.out, hBz, hbw5⟩, by simp [intOf]; omega⟩
        · simp only [Bool.not_false, Bool.not_true, Bool.or_self, Bool.or_true, Bool.or_false, Bool.true_or, Bool.false_or] at HT
          have z1 := fun (z : WK (fun _ => False) wr) => (wat_cell (p := ⟨b, off + k, none⟩) hb2 (fun e => e) z).trans p0
          go_wp2_with fail
          refine wp_region_loud (fun _ => False) [(4, plainL [] (.bool false))] (fun _ => Fact.none) (by kernel_rfl) (by kernel_rfl) (.cons (plainL_ok _ _) .nil) good_nothing sat_none (WX.out ?_)
          repeat (first | (refine wx_quietU (by rfl) (by rfl) (by rfl) (fun K hK => ?_); go_big_quiet_op; refine hK _ ?_; clear hK K) | (refine wx_quietG (by rfl) (by rfl) (by rfl) (by rfl) (by rfl) (fun K hK => ?_); go_big_quiet_op; refine hK _ ?_; clear hK K) | (refine wx_skipG (by rfl) (by rfl) (by rfl) (fun K hK => ?_); go_simp; refine hK _ ?_; clear hK K) | (refine wx_skipN (by rfl) (by rfl) (by rfl) (fun K hK => ?_); go_simp; refine hK _ ?_; clear hK K))
          refine wx_loudU (us := []) (by rfl) (by rfl) (fun S wS hC hS hU => runs_enter (f := 10) (by go_simp <;> rfl) ?_) (fun v hv K hK => ?_)
          · refine (isWord_any xx wS hx9).mono ?_
            rintro e w' ⟨rfl, rfl⟩
            rw [HT.out]
            exact ⟨_, rfl, rfl, Kept.refl _ _, trivial⟩
          obtain rfl := hv; (go_simp; refine hK _ ?_; clear hK K)
          repeat (first | (refine wx_quietU (by rfl) (by rfl) (by rfl) (fun K hK => ?_); go_big_quiet_op; refine hK _ ?_; clear hK K) | (refine wx_quietG (by rfl) (by rfl) (by rfl) (by rfl) (by rfl) (fun K hK => ?_); go_big_quiet_op; refine hK _ ?_; clear hK K) | (refine wx_skipG (by rfl) (by rfl) (by rfl) (fun K hK => ?_); go_simp; refine hK _ ?_; clear hK K) | (refine wx_skipN (by rfl) (by rfl) (by rfl) (fun K hK => ?_); go_simp; refine hK _ ?_; clear hK K))
          refine wx_nil fun w5 hsat => ?_
          have hb5 := sat_below hsat
          have hbw5 := hb4.trans (hb5.mono hb4.size)
          clear hsat z1 hb4 hb5
          go_wp2_with fail
          go_light
          exact ⟨⟨k + 1, B, by omega, rfl, by go_num, HBL.out, hBz, hbw5⟩, by simp [intOf]; omega⟩
      · obtain rfl : k = L.length := by omega
        rw [List.take_length] at HAL
        have hW := words_any AL wr (by omega)
        rw [HAL.out, LX.run_spread L htok 0 []] at hW
        simp only [List.nil_append] at hW
        have hs4 := hs3.below hb4
        have hbw4 := hbw3.trans (hb4.mono hbw3.size)
        clear hs3 hb4 hbw3
        go_wp2_with fail
        refine hW.mono ?_
        rintro e w5 ⟨A5, c5, rfl, ho5, hb5⟩
        have hs5 := hs4.below hb5
        have hso5 := own_sl ho5
        have hbw5 := hbw4.trans (hb5.mono hbw4.size)
        clear hs4 hb5 hbw4 ho5 hW
        go_wp2_with fail
        refine (same_any A5 L.length c5 A2 L.length c2 L L w5 hso5 hs5).mono ?_
        rintro e w6 ⟨rfl, hb6⟩
        have hbw6 := hbw5.trans (hb6.mono hbw5.size)
        rw [show decide (L = L) = true by simp]
        clear hs5 hso5 hbw5 hb6
        go_wp2_with fail
        go_ret
        exact ⟨rfl, hbw6⟩
  · go_wp2_with fail
    refine (readsLaw_any w2).mono ?_
    rintro e w3 ⟨rfl, hb3⟩
    have hbw3 := hbw2.trans (hb3.mono hbw2.size)
    clear hb3 hbw2 hs2
    go_wp2_with fail
    refine (readsLaw_any w3).mono ?_
    rintro e w4 ⟨rfl, hb4⟩
    have hbw4 := hbw3.trans (hb4.mono hbw3.size)
    clear hb4 hbw3
    go_wp2_with fail
    go_ret
    exact ⟨rfl, hbw4⟩
end Go.Proofs.YtfhlidlmipleaaaDoor
