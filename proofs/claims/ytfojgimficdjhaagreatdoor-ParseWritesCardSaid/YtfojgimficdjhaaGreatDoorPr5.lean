/-
  Contract of package parse: Read.
-/
import Derived.Test.YtfojgimficdjhaaGreatDoorPr4
namespace Go.Proofs.YtfojgimficdjhaaGreatDoor
set_option linter.unusedVariables false
set_option linter.unusedSimpArgs false
open Go Go.RowKit

theorem read_any (x : List UInt8) (r : List (List UInt8)) (A : Option Addr) (n c : Nat) (w : World) (h : Sl w 1 (.slice A n c) (STR r)) (hL : ∀ x ∈ r, x.length ≤ 100000) (hen : Env w) :
    Calls Tryz.prog 39 #[.string (S8 x), .slice A n c] w fun e w' => CmdPost (readL x r) e ∧ Below w.heap.size w w' := by
  by_cases h0 : plainW x = 0
  case neg => exact read_plain x r A n c w h h0
  have hl := (sl_lensS h).1
  have e1 := eqS (S8 x) wCC
  have e2 := eqS (S8 x) wRoll
  have e3 := eqS (S8 x) wSet
  have e4 := eqS (S8 x) wDelete
  rw [bl_S8] at e1 e2 e3 e4
  by_cases h1 : x = wCC
  · rw [decide_eq_true h1] at e1
    by_cases hr : ∃ y, r = [y]
    · obtain ⟨y, rfl⟩ := hr
      exact read_cc x y A n c w h h0 h1 (hL y (by simp)) e1 e1
    · have hn : n ≠ 1 := fun e => hr (by
        match r, hl with
        | [y], _ => exact ⟨y, rfl⟩
        | [], hl => simp at hl; omega
        | _ :: _ :: _, hl => simp at hl; omega)
      have h2 : x ≠ wRoll := by rw [h1]; decide
      have h3 : x ≠ wSet := by rw [h1]; decide
      have h4 : x ≠ wDelete := by rw [h1]; decide
      rw [decide_eq_false h2] at e2
      rw [decide_eq_false h3] at e3
      rw [decide_eq_false h4] at e4
      refine read_odd x r A n c w h h0 true false e1 e2 e3 e4 (fun _ => hn) ?_
      show _ = _
      unfold readL
      rw [if_neg (by rw [h0]; simp), if_pos h1]
      split
      · exact absurd ⟨_, rfl⟩ hr
      · rfl
  rw [decide_eq_false h1] at e1
  by_cases h2 : x = wRoll
  · rw [decide_eq_true h2] at e2
    by_cases hr : ∃ y, r = [y]
    · obtain ⟨y, rfl⟩ := hr
      exact read_roll x y A n c w h h0 h2 h1 (hL y (by simp)) e1 e2
    · have hn : n ≠ 1 := fun e => hr (by
        match r, hl with
        | [y], _ => exact ⟨y, rfl⟩
        | [], hl => simp at hl; omega
        | _ :: _ :: _, hl => simp at hl; omega)
      have h3 : x ≠ wSet := by rw [h2]; decide
      have h4 : x ≠ wDelete := by rw [h2]; decide
      rw [decide_eq_false h3] at e3
      rw [decide_eq_false h4] at e4
      refine read_odd x r A n c w h h0 false true e1 e2 e3 e4 (fun _ => hn) ?_
      show _ = _
      unfold readL
      rw [if_neg (by rw [h0]; simp), if_neg h1, if_pos h2]
      split
      · exact absurd ⟨_, rfl⟩ hr
      · rfl
  rw [decide_eq_false h2] at e2
  by_cases h3 : x = wSet
  · rw [decide_eq_true h3] at e3
    exact read_set x r A n c w h hL hen h0 h3 h1 h2 e1 e2 e3 e3
  rw [decide_eq_false h3] at e3
  by_cases h4 : x = wDelete
  · rw [decide_eq_true h4] at e4
    exact read_del x r A n c w h hL hen h0 h4 h1 h2 h3 e1 e2 e3 e4
  rw [decide_eq_false h4] at e4
  refine read_odd x r A n c w h h0 false false e1 e2 e3 e4 (fun h => by simp at h) ?_
  show _ = _
  unfold readL
  rw [if_neg (by rw [h0]; simp), if_neg h1, if_neg h2, if_neg h3, if_neg h4]
set_option maxRecDepth 100000 in
set_option maxHeartbeats 800000 in
theorem signIx_any (A : Option Addr) (n c : Nat) (l : List (List UInt8)) (w : World) (h : Sl w 1 (.slice A n c) (STR l)) :
    Calls Tryz.prog 70 #[.slice A n c, .func (.func 38) #[] #[]] w fun e w' => ∃ r : Int, e = .returned (.int .i64 r) ∧ decide (0 ≤ r) = l.any isSgn ∧ w' = w := by
  obtain ⟨hl1, hl2, hl3⟩ := sl_lensS h
  have HL := hid hl1
  clear hl1
  go_enter Tryz.func70, Tryz.ntmps70
  go_wp2_with fail
  go_loop [8] (fun i => ∃ k : Nat, k ≤ n ∧ i = .int .i64 k ∧ Hid ((l.take k).any isSgn = false)) (fun i => n - (intOf i).toNat)
  case atStart => exact ⟨0, Nat.zero_le _, rfl, hid (by simp)⟩
  case round =>
    obtain ⟨k, hk, rfl, hok⟩ := hrel
    by_cases hlt : k < n
    · obtain ⟨b, off, rfl, hbl, p0⟩ := STR_cell h hlt
      have hS := isSign_any (S8 (l.getD k [])) w
      rw [bl_S8] at hS
      have HS := hid hS
      have HT : Hid ((l.take (k + 1)).any isSgn = isSgn (l.getD k [])) := by
        show _ = _
        have hk2 : k < l.length := by rw [HL.out]; exact hlt
        rw [List.take_succ_eq_append_getElem hk2, List.any_append, hok.out, List.getD_eq_getElem?_getD, List.getElem?_eq_getElem hk2]
        simp
      clear hS
      generalize l.getD k [] = x at *
      generalize isSgn x = bs at *
      go_wp2_with fail
      refine HS.out.mono ?_
      rintro e w' ⟨rfl, rfl⟩
      cases bs with
      | true =>
        go_wp2_with fail
        go_ret
        refine ⟨_, rfl, ?_, rfl⟩
        have h1 := HT.out
        rw [show l.any isSgn = true by rw [← List.take_append_drop (k + 1) l, List.any_append, h1]; rfl]
        rw [decide_eq_true_iff]
        omega
      | false =>
        go_wp2_with fail
        go_light
        exact ⟨⟨k + 1, by omega, by go_num, HT⟩, by simp [intOf]; omega⟩
    · obtain rfl : k = n := by omega
      go_wp2_with fail
      go_ret
      refine ⟨_, rfl, ?_, rfl⟩
      have h1 := hok.out
      rw [← HL.out, List.take_length] at h1
      rw [h1]
      decide
set_option maxRecDepth 100000 in
set_option maxHeartbeats 800000 in
theorem signs_any (A : Option Addr) (n c : Nat) (l : List (List UInt8)) (w : World) (h : Sl w 1 (.slice A n c) (STR l)) :
    Calls Tryz.prog 37 #[.slice A n c, .func (.func 38) #[] #[]] w fun e w' => e = .returned (.bool (l.any isSgn)) ∧ w' = w := by
  go_enter Tryz.func37, Tryz.ntmps37
  go_wp2_with fail
  refine (signIx_any A n c l w h).mono ?_
  rintro e w1 ⟨r, rfl, hr, rfl⟩
  have HR := hid hr
  clear hr
  go_wp2_with fail
  go_ret
  exact ⟨ret_bool HR.out, rfl⟩
end Go.Proofs.YtfojgimficdjhaaGreatDoor
