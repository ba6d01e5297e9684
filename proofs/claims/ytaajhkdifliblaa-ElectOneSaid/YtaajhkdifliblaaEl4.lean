/-
  Contracts: slices.Clone at voters; elect.Elect.
-/
import Derived.Test.YtaajhkdifliblaaEl3
import Derived.Lib.SliceRun
namespace Go.Proofs.Ytaajhkdifliblaa
set_option linter.unusedVariables false
set_option linter.unusedSimpArgs false
open Go Go.RowKit EL

theorem st_vots : ST Try.prog 47 50 5 24 := .mk Try.underlying47 (z := .agg (vC zeroV)) (by kernel_rfl) rfl (by omega)
set_option maxRecDepth 100000 in
set_option maxHeartbeats 800000 in
theorem cloneV_any (A : Option Addr) (n c : Nat) (l : List Vot) (w : World) (h : Sl w 5 (.slice A n c) (VS l)) (hn : 0 < n) (hm : n ≤ 1000) :
    Calls Try.prog 69 #[.slice A n c] w fun e w' => ∃ g c', e = .returned (.slice (some ⟨g, 0, none⟩) n c') ∧ w.heap.size ≤ g ∧ g < w'.heap.size ∧
      w'.ownsRow w.heap.size 50 5 (.slice (some ⟨g, 0, none⟩) n c') n (VS l) ∧ Below w.heap.size w w' := by
  obtain ⟨b, off, rfl, hbl, q0⟩ := h.vot hn
  clear q0
  have q22 : ∀ (w : World) (a : Option Addr) (n c n' c' : Nat), (binOp .eql 47 (.slice a n c) (.slice none n' c')).run Try.prog w = .ok (.bool a.isNone) w := fun w a n c n' c' => Lib.run_eql_slice_nil w _ _ a n c n' c' Try.underlying47
  have hown := own_empty w w.heap.size 50 5 w.heap.size rfl (Nat.le_refl _)
  have hsl := h.alloc (.cells #[] 50)
  have hbb := (Below.refl w.heap.size w).alloc (Nat.le_refl _) (.cells #[] 50)
  go_enter Try.func69, Try.ntmps69
  go_wp2_with (at_builtin; refine wpList_app rfl (.tmp 5) (.tmp 6) st_vots rfl w.heap.size rfl hown rfl hsl (VS_one _) (by simp [maxLen]; omega) (by omega) (by simp) ?_)
  intro A3 c3 w3 hown3 hg3 hf3
  have hb3 := hbb.trans (grown_below hown hg3 (by simp))
  obtain ⟨g, rfl, h5, h6⟩ := own_some hown3 hn
  go_wp2_with fail
  go_ret
  exact ⟨g, c3, by simp, h5, h6, hown3, hb3⟩

theorem VS_named (l : List Vot) (k : Nat) (x y : Int) (hk : k < l.length) : ((VS l).set (k * 5 + 3) (.int .u32 x)).set (k * 5 + 4) (.int .u32 y) = VS (l.set k (named (votAt l k) x y)) := by
  unfold VS votAt
  induction l generalizing k with
  | nil => simp at hk
  | cons v l ih =>
    cases k with
    | zero =>
      simp only [List.flatMap_cons, votC, List.getD_cons_zero, List.set_cons_zero, named]
      rfl
    | succ k =>
      have := ih k (by simp at hk; omega)
      simp only [List.flatMap_cons, List.getD_cons_succ, List.set_cons_succ]
      rw [← this]
      have e1 : (k + 1) * 5 + 3 = (votC v).length + (k * 5 + 3) := by simp [votC]; omega
      have e2 : (k + 1) * 5 + 4 = (votC v).length + (k * 5 + 4) := by simp [votC]; omega
      rw [e1, List.set_append_right _ _ (by omega), e2, List.set_append_right _ _ (by omega)]
      simp

set_option maxRecDepth 100000 in
set_option maxHeartbeats 1600000 in
theorem elect_any (A : Option Addr) (n c : Nat) (l : List Vot) (w : World) (h : Sl w 5 (.slice A n c) (VS l)) (hm : n ≤ 1000) :
    Calls Try.prog 92 #[.slice A n c] w fun e w' => e = .returned (.tuple #[.int .u32 (electV l).1, .int .u32 (electV l).2]) ∧ Below w.heap.size w w' := by
  have LL := hid h.lenV.1
  rcases Nat.eq_zero_or_pos n with hn | hn
  · subst hn
    have HE : Hid (electV l = (0, 0)) := by show _ = _; unfold electV; rw [if_pos LL.out]
    go_enter Try.func92, Try.ntmps92
    go_wp2_with fail
    refine bodyPost_ret (v := .tuple #[.int .u32 0, .int .u32 0]) (by simp [results, Try.results92, go_sem]) rfl ⟨by rw [HE.out], Below.refl _ _⟩
  · obtain ⟨b, off, rfl, hbl, q0⟩ := h.vot hn
    clear q0
    have HE : Hid (electV l = if turned (votAt l 0) (roundA l).1 (roundA l).2 = true then roundA (l.set 0 (named (votAt l 0) (roundA l).1 (roundA l).2)) else roundA l) := by
      show _ = _; unfold electV; rw [if_neg (by rw [LL.out]; omega)]
    go_enter Try.func92, Try.ntmps92
    go_wp2_with fail
    refine (round_any (some ⟨b, off, none⟩) n c l w h).mono ?_
    rintro e w1 ⟨rfl, hb1⟩
    generalize hR : roundA l = R at *
    have HR := hid hR
    clear hR
    obtain ⟨x, y⟩ := R
    have h1 := h.below hb1
    obtain ⟨b', off', hbo, hbl', q0, q1, q2, q3, q4⟩ := h1.vot hn
    injection hbo with hbo
    injection hbo with e1 e2
    subst e1; subst e2
    simp only [Nat.zero_mul, Nat.add_zero] at q0 q1 q2 q3 q4
    generalize hv : votAt l 0 = v at *
    have HV := hid hv
    clear hv
    go_wp2_with fail
    refine (turned_any v x y w1).mono ?_
    rintro e w2 ⟨rfl, hb2⟩
    have hbw := hb1.trans (hb2.mono hb1.size)
    clear q0 q1 q2 q3 q4 hb1 hb2 h1
    cases hT : turned v x y with
    | false =>
      have HT := hid hT
      go_wp2_with fail
      refine bodyPost_ret (v := .tuple #[.int .u32 x, .int .u32 y]) (by simp [results, Try.results92, go_sem]) rfl ⟨by rw [HE.out]; simp only [HT.out, Bool.false_eq_true, if_false], hbw⟩
    | true =>
      have HT := hid hT
      have h2 := h.below hbw
      go_wp2_with fail
      refine (cloneV_any (some ⟨b, off, none⟩) n c l w2 h2 hn hm).mono ?_
      rintro e w3 ⟨g, c', rfl, hg1, hg2, hown, hb3⟩
      have hs2 := hbw.size
      replace hbw := hbw.trans (hb3.mono hbw.size)
      clear h2 hb3
      have f3 := hown.frozenAt 3
      have f4 := hown.frozenAt 4
      obtain ⟨v3, k3⟩ : ∃ u, w3.cell? ⟨g, 3, none⟩ = some u := ⟨_, (own_cell hown 3 (by omega)).1.trans (List.getElem?_eq_getElem (by rw [hown.1]; omega))⟩
      obtain ⟨v4, k4⟩ : ∃ u, w3.cell? ⟨g, 4, none⟩ = some u := ⟨_, (own_cell hown 4 (by omega)).1.trans (List.getElem?_eq_getElem (by rw [hown.1]; omega))⟩
      have hown2 := ((hown.stored 3 (.int .u32 x)).1.stored 4 (.int .u32 y)).1
      have hVS := VS_named l 0 x y (by rw [LL.out]; exact hn)
      simp only [Nat.zero_mul, Nat.zero_add] at hVS
      rw [hVS, HV.out] at hown2
      have hcap := (own_sl hown).lenV.2
      have hbw2 := (hbw.setCell (p := ⟨g, 3, none⟩) (by simp only []; omega) (.int .u32 x)).setCell (p := ⟨g, 4, none⟩) (by simp only []; omega) (.int .u32 y)
      go_wp2_with fail
      refine (round_any (some ⟨g, 0, none⟩) n c' (l.set 0 (named v x y)) _ (own_sl hown2)).mono ?_
      rintro e w4 ⟨rfl, hb4⟩
      have hbw3 := hbw2.trans (hb4.mono hbw2.size)
      clear k3 k4 f3 f4 hown hown2 hbw hbw2
      go_wp2_with fail
      refine bodyPost_ret (v := .tuple #[.int .u32 (roundA (l.set 0 (named v x y))).1, .int .u32 (roundA (l.set 0 (named v x y))).2]) (by simp [results, Try.results92, go_sem]) rfl ⟨by rw [HE.out]; simp only [HT.out, if_true], hbw3⟩
end Go.Proofs.Ytaajhkdifliblaa
