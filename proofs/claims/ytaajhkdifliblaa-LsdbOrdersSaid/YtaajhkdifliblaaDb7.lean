/-
  The walk of LsdbOrders.
-/
import Derived.Test.YtaajhkdifliblaaDb6
namespace Go.Proofs.Ytaajhkdifliblaa
set_option linter.unusedVariables false
set_option linter.unusedSimpArgs false
open Go Go.RowKit SM LM

def IZ (l : List Int) : List Value := l.map fun z => Value.int .i64 z
theorem Sl.int {w : World} {A : Option Addr} {n c : Nat} {l : List Int} (h : Sl w 1 (.slice A n c) (IZ l)) {k : Nat} (hk : k < n) :
    ∃ b off, A = some ⟨b, off, none⟩ ∧ b < w.heap.size ∧ w.cell? ⟨b, off + k, none⟩ = some (.int .i64 (l.getD k 0)) := by
  obtain ⟨A', n', c', he, hl, _, _, hr⟩ := h
  injection he with h1 h2 h3
  subst h1; subst h2; subst h3
  obtain ⟨b, off, rfl, hlt, hc⟩ := hr (by omega)
  simp [IZ] at hl
  refine ⟨b, off, rfl, hlt, (hc k (by omega)).trans ?_⟩
  simp [IZ, List.getD_eq_getElem?_getD, List.getElem?_eq_getElem (show k < l.length by omega)]
def mkL (k : Nat) (s : Int) : Lsa := ⟨0, 1, k, 1, s, [], 0, [], 0⟩
theorem mkL_wf {k : Nat} {s : Int} (hk : k < 4294967296) : WfL (mkL k s) := ⟨by simp [mkL], by simp [mkL], by simp [mkL], by simpa [mkL] using hk, by simp [mkL]⟩
theorem mkL_right {k : Nat} {s : Int} (hs : -999 ≤ s ∧ s ≤ 999) : (mkL k s).right = true := by
  have h1 : decide (-2147483647 ≤ s ∧ s ≤ 2147483647) = true := decide_eq_true (by omega)
  have h2 : (mkL k s).right = (decide ((0 : Int) ≤ 0 ∧ (0 : Int) ≤ 3600) && decide (-2147483647 ≤ s ∧ s ≤ 2147483647) && true) := rfl
  rw [h2, h1]
  rfl
theorem newer_seq (k : Nat) (s s0 : Int) : newer (mkL k s) (mkL k s0) = decide (s0 < s) := by
  unfold newer
  by_cases h : s0 < s
  · rw [decide_eq_true h, decide_eq_true_iff]
    unfold cmpH cmpZ mkL
    simp only
    rw [if_neg (show ¬ s < s0 by omega), if_pos h]
    simp
  · rw [decide_eq_false h, decide_eq_false_iff_not]
    rcases Int.lt_or_eq_of_le (show s ≤ s0 by omega) with h1 | h1
    · unfold cmpH cmpZ mkL
      simp only
      rw [if_pos h1]
      simp
    · subst h1
      intro e
      have := (cmpH_same 0 0 s (sumOf (mkL k s)) (by omega) (by omega)).1 e
      omega
theorem tmod_bd (z : Int) : -999 ≤ z.tmod 1000 ∧ z.tmod 1000 ≤ 999 := by
  have h1 := Int.tmod_lt_of_pos z (show (0 : Int) < 1000 by omega)
  have h2 := Int.neg_tmod z 1000
  have h3 := Int.tmod_lt_of_pos (-z) (show (0 : Int) < 1000 by omega)
  omega
set_option maxRecDepth 100000 in
set_option maxHeartbeats 3200000 in
theorem lsdbOrders_walk (A : Option Addr) (n c : Nat) (l : List Int) (k : Nat) (w : World) (hsl : Sl w 1 (.slice A n c) (IZ l)) (hk : k < 4294967296) :
    Calls Try.prog 11 #[.slice A n c, .int .u32 (k : Int)] w fun e w' => e = .returned (.bool true) ∧ Below w.heap.size w w' := by
  have hcap := hsl.lenN.2
  go_enter Try.func11, Try.ntmps11
  go_wp2_with fail
  refine (new_any w).mono ?_
  rintro e w1 ⟨rfl, hD, hs1, hb1⟩
  go_wp2_with fail
  go_loopw [6, 7, 8] (fun m a i wr => ∃ (j : Nat) (s : Int) (ok : Bool), j ≤ n ∧ i = .int .i64 j ∧ a = .bool ok ∧ m = .int .i64 s ∧ -999 ≤ s ∧ s ≤ 999 ∧ Below w.heap.size w wr ∧
    ((ok = false ∧ DbIs wr (w.heap.size + 1) w.heap.size #[] 0) ∨ (ok = true ∧ DbIs wr (w.heap.size + 1) w.heap.size #[⟨keyV 1 k ((1 : Nat) : Int), oneV (mkL k s), 0⟩] 1))) (fun _ _ i _ => n - (intOf i).toNat)
  case atStart => exact ⟨0, 0, false, Nat.zero_le _, rfl, rfl, rfl, by omega, by omega, hb1, .inl ⟨rfl, hD⟩⟩
  case round =>
    obtain ⟨j, s0, ok, hj, rfl, rfl, rfl, hsa, hsb, hbr, hst⟩ := hrel
    clear hD hs1 hb1
    by_cases hjn : j < n
    · by_cases h40 : j < 40
      · obtain ⟨b, off, rfl, hbl, q0⟩ := (hsl.below hbr).int hjn
        generalize l.getD j 0 = z at *
        have hz := tmod_bd z
        go_wp2_with fail
        generalize z.tmod 1000 = s at *
        have hR := mkL_right (k := k) hz
        have hW := mkL_wf (s := s) hk
        rcases hst with ⟨rfl, hD⟩ | ⟨rfl, hD⟩
        · refine (put_new (mkL k s) (w.heap.size + 1) w.heap.size 0 wr hD hW hR rfl rfl).mono ?_
          rintro e w2 ⟨rfl, hD2, hk2⟩
          have hb2 := hbr.trans (hk2.below_of (B := w.heap.size) hbr.size (fun b hb => by have : b = w.heap.size := hb; omega))
          clear hk2 hbr
          go_wp2_with fail
          go_light
          exact ⟨⟨j + 1, s, true, by omega, by go_num, rfl, rfl, hz.1, hz.2, hb2, .inr ⟨rfl, hD2⟩⟩, by simp [intOf]; omega⟩
        · have hR0 := mkL_right (k := k) (s := s0) ⟨hsa, hsb⟩
          have hW0 := mkL_wf (s := s0) hk
          have hN := newer_seq k s s0
          by_cases hlt : s0 < s
          · rw [decide_eq_true hlt] at hN
            refine (put_more (mkL k s) (mkL k s0) (w.heap.size + 1) w.heap.size 0 1 wr hD hW hR rfl rfl hW0 hR0 hN).mono ?_
            rintro e w2 ⟨rfl, hD2, hk2⟩
            have hb2 := hbr.trans (hk2.below_of (B := w.heap.size) hbr.size (fun b hb => by have : b = w.heap.size := hb; omega))
            clear hk2 hbr hN
            go_wp2_with fail
            go_light
            exact ⟨⟨j + 1, s, true, by omega, by go_num, rfl, rfl, hz.1, hz.2, hb2, .inr ⟨rfl, hD2⟩⟩, by simp [intOf]; omega⟩
          · rw [decide_eq_false hlt] at hN
            refine (put_less (mkL k s) (mkL k s0) (w.heap.size + 1) w.heap.size 0 1 wr hD hW hR rfl rfl hW0 hR0 hN).mono ?_
            rintro e w2 ⟨rfl, hD2, hk2⟩
            have hb2 := hbr.trans (hk2.below_of (B := w.heap.size) hbr.size (fun b hb => by have : b = w.heap.size := hb; omega))
            clear hk2 hbr hN
            go_wp2_with fail
            go_light
            exact ⟨⟨j + 1, s0, true, by omega, by go_num, rfl, rfl, hsa, hsb, hb2, .inr ⟨rfl, hD2⟩⟩, by simp [intOf]; omega⟩
      ·
        rcases hst with ⟨rfl, hD⟩ | ⟨rfl, hD⟩
        · go_wp2_with fail
          refine (find_none 1 k ((1 : Nat) : Int) (w.heap.size + 1) w.heap.size 0 wr hD).mono ?_
          rintro e w2 ⟨rfl, hb2⟩
          have hb3 := hbr.trans (hb2.mono hbr.size)
          have hb4 := hb3.alloc hb3.size (.cells (lsaC zeroL none 0 0 none 0 0) 80)
          clear hb2 hb3 hbr
          go_wp2_with fail
          refine (keeps_any _).mono ?_
          rintro e w3 ⟨rfl, hb5⟩
          have hb6 := hb4.trans (hb5.mono hb4.size)
          clear hb5 hb4
          go_wp2_with fail
          go_ret
          exact ⟨rfl, hb6⟩
        · have hR0 := mkL_right (k := k) (s := s0) ⟨hsa, hsb⟩
          have hW0 := mkL_wf (s := s0) hk
          go_wp2_with fail
          refine (find_one (mkL k s0) 1 k ((1 : Nat) : Int) (w.heap.size + 1) w.heap.size 0 1 wr hD hW0 hR0).mono ?_
          rintro e w2 ⟨rfl, hb2⟩
          have hb3 := hbr.trans (hb2.mono hbr.size)
          have hb4 := hb3.alloc hb3.size (.cells (lsaC (mkL k s0) none 0 0 none 0 0) 80)
          have hX := heap_alloc_new w2 (.cells (lsaC (mkL k s0) none 0 0 none 0 0) 80)
          have hs : (mkL k s0).seq = s0 := rfl
          clear hb2 hb3 hbr
          go_wp2_with fail
          refine (keeps_any _).mono ?_
          rintro e w3 ⟨rfl, hb5⟩
          replace hX := blk_below hX hb5 (by simp)
          have hb6 := hb4.trans (hb5.mono hb4.size)
          have hc4 := (blk_cells hX).1 4
          simp [hs] at hc4
          clear hb5 hb4 hX
          go_wp2_with fail
          go_ret
          exact ⟨rfl, hb6⟩
    ·
      rcases hst with ⟨rfl, hD⟩ | ⟨rfl, hD⟩
      · go_wp2_with fail
        refine (find_none 1 k ((1 : Nat) : Int) (w.heap.size + 1) w.heap.size 0 wr hD).mono ?_
        rintro e w2 ⟨rfl, hb2⟩
        have hb3 := hbr.trans (hb2.mono hbr.size)
        have hb4 := hb3.alloc hb3.size (.cells (lsaC zeroL none 0 0 none 0 0) 80)
        clear hb2 hb3 hbr
        go_wp2_with fail
        refine (keeps_any _).mono ?_
        rintro e w3 ⟨rfl, hb5⟩
        have hb6 := hb4.trans (hb5.mono hb4.size)
        clear hb5 hb4
        go_wp2_with fail
        go_ret
        exact ⟨rfl, hb6⟩
      · have hR0 := mkL_right (k := k) (s := s0) ⟨hsa, hsb⟩
        have hW0 := mkL_wf (s := s0) hk
        go_wp2_with fail
        refine (find_one (mkL k s0) 1 k ((1 : Nat) : Int) (w.heap.size + 1) w.heap.size 0 1 wr hD hW0 hR0).mono ?_
        rintro e w2 ⟨rfl, hb2⟩
        have hb3 := hbr.trans (hb2.mono hbr.size)
        have hb4 := hb3.alloc hb3.size (.cells (lsaC (mkL k s0) none 0 0 none 0 0) 80)
        have hX := heap_alloc_new w2 (.cells (lsaC (mkL k s0) none 0 0 none 0 0) 80)
        have hs : (mkL k s0).seq = s0 := rfl
        clear hb2 hb3 hbr
        go_wp2_with fail
        refine (keeps_any _).mono ?_
        rintro e w3 ⟨rfl, hb5⟩
        replace hX := blk_below hX hb5 (by simp)
        have hb6 := hb4.trans (hb5.mono hb4.size)
        have hc4 := (blk_cells hX).1 4
        simp [hs] at hc4
        clear hb5 hb4 hX
        go_wp2_with fail
        go_ret
        exact ⟨rfl, hb6⟩
end Go.Proofs.Ytaajhkdifliblaa
