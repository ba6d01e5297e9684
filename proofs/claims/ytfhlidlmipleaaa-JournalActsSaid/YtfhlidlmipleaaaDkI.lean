/-
  Contract of the reference's New.
-/
import Derived.Test.YtfhlidlmipleaaaDkH
import Derived.Test.YtfhlidlmipleaaaRegE
import Derived.Test.YtfhlidlmipleaaaStr
namespace Go.Proofs.Ytfhlidlmipleaaa
set_option linter.unusedVariables false
set_option linter.unusedSimpArgs false
open Go Go.RowKit

theorem mk64 (w : World) : ∃ w1, (Instr.makeSlice 27 (.int .i64 64) (.int .i64 64)).run Try.prog w = .ok (.slice (some ⟨w.heap.size, 0, none⟩) 64 64) w1 ∧ w1.ownsRow w.heap.size 5 1 (.slice (some ⟨w.heap.size, 0, none⟩) 64 64) 64 (B8 zero64) ∧ Below w.heap.size w w1 := by
  obtain ⟨ht, _, i, z, hi, hz, hsi, hby, hzs⟩ := st_bytes
  obtain ⟨w1, hm, hown, hg⟩ := run_makeSlice_full (P := Try.prog) w w.heap.size 27 5 i z 1 ht hi hz hsi .i64 .i64 64 (by omega) (by rw [hby]; omega) (by simp [maxLen]) (Nat.le_refl _)
  have hz0 : z = .int .u8 0 := by
    have h0 : (Try.prog.info? 5).map (fun i => i.zero) = some (some (.int .u8 0)) := by kernel_rfl
    rw [hi] at h0
    simp only [Option.map_some, Option.some.injEq] at h0
    rw [hz] at h0
    injection h0
  subst hz0
  have hmc : (madeCells (Value.int .u8 0).cells (64 * 1)).toList = B8 zero64 := by kernel_rfl
  rw [hmc] at hown
  exact ⟨w1, hm, hown, (Below.refl _ _).grown hg (Nat.le_refl _) (by intro k hk; cases hk)⟩
theorem own_ne_map {w : World} {base n r clk : Nat} {e : TypeId} {size : Nat} {v : Value} {xs : List Value} {es : Array MapEntry} (h : w.ownsRow base e size v n xs) (hm : w.heap[r]? = some (.map es clk)) : v.ownBlock ≠ some r := by
  intro hg
  rcases h.2 with ⟨rfl, _⟩ | ⟨g2, cap, cur, rfl, _, hg2, _⟩
  · cases hg
  · injection hg with hg
    subst hg
    rw [hm] at hg2
    cases hg2
theorem st_strd : ST Try.prog 47 9 1 16 := .mk Try.underlying47 (z := .string ⟨#[]⟩) (by kernel_rfl) rfl (by omega)
theorem newD_len (j : Nat) : (newD j).stay.length = j := by simp [newD]
set_option maxRecDepth 100000 in
set_option maxHeartbeats 3200000 in
theorem refNew_any (n : Nat) (w : World) (h2 : n ≤ 1024) :
    Calls Try.prog 23 #[.int .i64 n] w fun e w' => ∃ p As cs r, e = .returned (.pointer (some ⟨p, 0, none⟩)) ∧ RkAt w.heap.size w' (newD n) p As cs r none 0 ∧ p < w'.heap.size ∧ Below w.heap.size w w' := by
  have hmm := mkMapS w
  have hR0 : RkAt w.heap.size ((w.alloc (.map #[] 0)).alloc (.cells (rkC (newD 0) none 0 w.heap.size none 0) 51)) (newD 0) (w.heap.size + 1) none 0 w.heap.size none 0 :=
    ⟨heap_alloc_new' _ _ _ (by simp), own_nilE _ _ _ _, ⟨#[], 0, blk_alloc (heap_alloc_new w _) _, rfl⟩, own_nilE _ _ _ _, by simp [Value.ownBlock], by omega, by simp [Value.ownBlock], by simp [Value.ownBlock], by simp [Value.ownBlock], by simp [Value.ownBlock], by omega, by omega, by simp [newD]⟩
  have hb0 : Below w.heap.size w ((w.alloc (.map #[] 0)).alloc (.cells (rkC (newD 0) none 0 w.heap.size none 0) 51)) := ((Below.refl _ _).alloc (Nat.le_refl _) _).alloc (by simp) _
  have hC : rkC (newD 0) none 0 w.heap.size none 0 = #[.slice none 0 0, .slice none 0 0, .map (some w.heap.size), .bool false, .int .i64 (-1)] := rfl
  rw [hC] at hR0 hb0
  clear hC
  generalize hr : w.heap.size = r at *
  go_enter Try.func23, Try.ntmps23
  go_wp2_with fail
  go_loopw [4] (fun i wr => ∃ (j : Nat) (As : Option Addr) (cs : Nat), j ≤ n ∧ i = .int .i64 j ∧ RkAt r wr (newD j) (r + 1) As cs r none 0 ∧ Below r w wr) (fun i _ => n - (intOf i).toNat)
  case atStart => exact ⟨0, none, 0, Nat.zero_le _, rfl, by simpa [hr] using hR0, by simpa [hr] using hb0⟩
  case round =>
    obtain ⟨j, As, cs, hj, rfl, hE, hb⟩ := hrel
    clear hR0 hb0 hmm
    by_cases hlt : j < n
    · have hst := hE.stay
      rw [newD_len] at hst
      have hblk := hE.blk
      have hC : rkC (newD j) As cs r none 0 = #[.slice As j cs, .slice none 0 0, .map (some r), .bool false, .int .i64 (-1)] := by unfold rkC; rw [newD_len]; rfl
      rw [hC] at hblk
      have hsz : r ≤ wr.heap.size := by have := hb.size; omega
      have hpl := (Array.getElem?_eq_some_iff.1 hblk).1
      have hd1 : ∀ y, Value.ownBlock (.slice As j cs) = some y → (False ∨ y = r + 1) → False := by
        rintro y h1 (h2 | h2)
        · exact h2
        · exact hE.sp (by rw [newD_len, h1, h2])
      have hRep : Hid (STd (newD j).stay ++ STd [zero64] = STd (List.replicate (j + 1) zero64)) := by
        show _ = _
        simp [newD, STd, List.replicate_succ']
      have hcap := own_lens hst
      have hstj : (newD j).stay = List.replicate j zero64 := rfl
      rw [hstj] at hst hRep
      go_wp2_with fail
      refine wp_region_loud (fun y => (False ∨ y = r + 1) ∨ Value.ownBlock (.slice As j cs) = some y)
        [(4, loadL [100] (.slice As j cs) (BlkF (r + 1) 51 #[.slice As j cs, .slice none 0 0, .map (some r), .bool false, .int .i64 (-1)])), (5, rowL [] r 5 1 64 (B8 zero64)), (6, plainL [5] (.string (S8 zero64))), (7, rowL [] r 9 1 1 (STd [zero64])), (8, rowL [101, 7] r 9 1 (j + 1) (STd (List.replicate (j + 1) zero64))),
         (11, factL [4, 8] (fun _ => True) (fun _ S w' => ∃ A1 c1, BlkF (r + 1) 51 #[.slice A1 (j + 1) c1, .slice none 0 0, .map (some r), .bool false, .int .i64 (-1)] S w' ∧ OwnF r 9 1 (j + 1) (STd (List.replicate (j + 1) zero64)) (.slice A1 (j + 1) c1) S w'))]
        (addL 101 (OwnF r 9 1 j (STd (List.replicate j zero64)) (.slice As j cs)) (addL 100 (BlkF (r + 1) 51 #[.slice As j cs, .slice none 0 0, .map (some r), .bool false, .int .i64 (-1)]) (fun _ => Fact.none))) (by kernel_rfl) (by kernel_rfl)
        (.cons (loadL_ok _ _ (good_blk _ _ _)) (.cons (rowL_ok _ _ _ _ _ _) (.cons (plainL_ok _ _) (.cons (rowL_ok _ _ _ _ _ _) (.cons (rowL_ok _ _ _ _ _ _) (.cons (factL_ok ⟨undef, trivial⟩ (fun _ S S' w w' h1 h2 ⟨A', c', h3, h4⟩ => ⟨A', c', good_blk _ _ _ S S' w w' h1 h2 h3, good_own _ _ _ _ _ _ S S' w w' h1 h2 h4⟩)) .nil))))))
        (good_add _ (good_own _ _ _ _ _ _) (good_add _ (good_blk _ _ _) good_nothing))
        (sat_add 101 (sat_add 100 sat_none (fun b _ h => h) (fun b (hb : b = r + 1) => by omega) ⟨rfl, hblk⟩) hd1 (ownF_lt hst) (ownF_in hst)) (WX.out ?_)
      repeat (first | (refine wx_quietU (by rfl) (by rfl) (by rfl) (fun K hK => ?_); go_big_quiet_op; refine hK _ ?_; clear hK K) | (refine wx_quietG (by rfl) (by rfl) (by rfl) (by rfl) (by rfl) (fun K hK => ?_); go_big_quiet_op; refine hK _ ?_; clear hK K) | (refine wx_skipG (by rfl) (by rfl) (by rfl) (fun K hK => ?_); go_simp; refine hK _ ?_; clear hK K) | (refine wx_skipN (by rfl) (by rfl) (by rfl) (fun K hK => ?_); go_simp; refine hK _ ?_; clear hK K))
      refine wx_loudU (us := [100]) (by rfl) (by rfl) (fun S wS hC hS hU => ?_) (fun v hv K hK => ?_)
      · obtain ⟨hc, hf⟩ := blkF_cells (hU 100 (by simp) : BlkF (r + 1) 51 #[.slice As j cs, .slice none 0 0, .map (some r), .bool false, .int .i64 (-1)] S wS)
        have hc0 := hc 0
        simp at hc0
        exact load_x (by go_simp) (good_blk _ _ _) (hU 100 (by simp))
      obtain rfl := hv; (go_simp; refine hK _ ?_; clear hK K)
      repeat (first | (refine wx_quietU (by rfl) (by rfl) (by rfl) (fun K hK => ?_); go_big_quiet_op; refine hK _ ?_; clear hK K) | (refine wx_quietG (by rfl) (by rfl) (by rfl) (by rfl) (by rfl) (fun K hK => ?_); go_big_quiet_op; refine hK _ ?_; clear hK K) | (refine wx_skipG (by rfl) (by rfl) (by rfl) (fun K hK => ?_); go_simp; refine hK _ ?_; clear hK K) | (refine wx_skipN (by rfl) (by rfl) (by rfl) (fun K hK => ?_); go_simp; refine hK _ ?_; clear hK K))
      refine wx_loudU (us := []) (by rfl) (by rfl) (fun S wS hC hS hU => ?_) (fun v hv K hK => ?_)
      · obtain ⟨w1, hm, hown, hb1⟩ := mk64 wS
        exact runs_value (by go_simp <;> rfl) ⟨⟨_, _, rfl⟩, Kept.of_below hb1, own_fresh hown (Nat.le_trans hsz hC.size)⟩
      obtain ⟨A5, c5, rfl⟩ := hv; (go_simp; refine hK _ ?_; clear hK K)
      repeat (first | (refine wx_quietU (by rfl) (by rfl) (by rfl) (fun K hK => ?_); go_big_quiet_op; refine hK _ ?_; clear hK K) | (refine wx_quietG (by rfl) (by rfl) (by rfl) (by rfl) (by rfl) (fun K hK => ?_); go_big_quiet_op; refine hK _ ?_; clear hK K) | (refine wx_skipG (by rfl) (by rfl) (by rfl) (fun K hK => ?_); go_simp; refine hK _ ?_; clear hK K) | (refine wx_skipN (by rfl) (by rfl) (by rfl) (fun K hK => ?_); go_simp; refine hK _ ?_; clear hK K))
      refine wx_loudU (us := [5]) (by rfl) (by rfl) (fun S wS hC hS hU => ?_) (fun v hv K hK => ?_)
      · have k5 : OwnF r 5 1 64 (B8 zero64) (.slice A5 64 c5) S wS := hU 5 (by simp)
        have st := bstr (own_sl k5.2)
        exact runs_value (by go_simp <;> rfl) ⟨rfl, Kept.refl _ _, trivial⟩
      obtain rfl := hv; (go_simp; refine hK _ ?_; clear hK K)
      repeat (first | (refine wx_quietU (by rfl) (by rfl) (by rfl) (fun K hK => ?_); go_big_quiet_op; refine hK _ ?_; clear hK K) | (refine wx_quietG (by rfl) (by rfl) (by rfl) (by rfl) (by rfl) (fun K hK => ?_); go_big_quiet_op; refine hK _ ?_; clear hK K) | (refine wx_skipG (by rfl) (by rfl) (by rfl) (fun K hK => ?_); go_simp; refine hK _ ?_; clear hK K) | (refine wx_skipN (by rfl) (by rfl) (by rfl) (fun K hK => ?_); go_simp; refine hK _ ?_; clear hK K))
      refine wx_loudU (us := []) (by rfl) (by rfl) (fun S wS hC hS hU => ?_) (fun v hv K hK => ?_)
      · exact runs_value (by go_simp <;> rfl) (made_x rfl (Nat.le_trans hsz hC.size) rfl (by rfl) (by omega) (by omega))
      obtain ⟨A6, c6, rfl⟩ := hv; (go_simp; refine hK _ ?_; clear hK K)
      repeat (first | (refine wx_quietU (by rfl) (by rfl) (by rfl) (fun K hK => ?_); go_big_quiet_op; refine hK _ ?_; clear hK K) | (refine wx_quietG (by rfl) (by rfl) (by rfl) (by rfl) (by rfl) (fun K hK => ?_); go_big_quiet_op; refine hK _ ?_; clear hK K) | (refine wx_skipG (by rfl) (by rfl) (by rfl) (fun K hK => ?_); go_simp; refine hK _ ?_; clear hK K) | (refine wx_skipN (by rfl) (by rfl) (by rfl) (fun K hK => ?_); go_simp; refine hK _ ?_; clear hK K))
      refine wx_loudU (us := [101, 7]) (by rfl) (by rfl) (fun S wS hC hS hU => ?_) (fun v hv K hK => ?_)
      · exact appS_x (.tmp 17) (.tmp 20) st_strd (by rfl) (by rfl) (by rfl) (hU 101 (by simp)) (own_sl (hU 7 (by simp)).2) (STd_one _) (by simp [maxLen]; omega) (by omega) (Nat.le_trans hsz hC.size) hRep.out.symm
      obtain ⟨A7, c7, rfl⟩ := hv; (go_simp; refine hK _ ?_; clear hK K)
      repeat (first | (refine wx_quietU (by rfl) (by rfl) (by rfl) (fun K hK => ?_); go_big_quiet_op; refine hK _ ?_; clear hK K) | (refine wx_quietG (by rfl) (by rfl) (by rfl) (by rfl) (by rfl) (fun K hK => ?_); go_big_quiet_op; refine hK _ ?_; clear hK K) | (refine wx_skipG (by rfl) (by rfl) (by rfl) (fun K hK => ?_); go_simp; refine hK _ ?_; clear hK K) | (refine wx_skipN (by rfl) (by rfl) (by rfl) (fun K hK => ?_); go_simp; refine hK _ ?_; clear hK K))
      refine wx_loudU (us := [4, 8]) (by rfl) (by rfl) (fun S wS hC hS hU => ?_) (fun v hv K hK => ?_)
      · have hB : BlkF (r + 1) 51 #[.slice As j cs, .slice none 0 0, .map (some r), .bool false, .int .i64 (-1)] S wS := hU 4 (by simp)
        have hO : OwnF r 9 1 (j + 1) (STd (List.replicate (j + 1) zero64)) (.slice A7 (j + 1) c7) S wS := hU 8 (by simp)
        obtain ⟨hc, hf⟩ := blkF_cells hB
        have hc0 := hc 0
        simp at hc0
        have hne := own_ne_blk hO.2 hB.2 (by decide)
        have hO9 := ownsRow_kept hO.2 (Kept.setCell (S := fun b => b = r + 1) (Kept.refl _ wS) (p := ⟨r + 1, 0, none⟩) (.inl rfl) (.slice A7 (j + 1) c7)) (fun y hy => hne y hy)
        have hB9 := blk_set hB.2 0 (.slice A7 (j + 1) c7)
        simp at hB9
        exact runs_skip (by go_simp <;> rfl) ⟨trivial, (Kept.refl _ _).setCell (.inl hB.1) _, A7, c7, ⟨.inl hB.1, hB9⟩, ⟨fun y hy => .inl (hO.1 y hy), hO9⟩⟩
      (go_simp; refine hK _ ?_; clear hK K)
      repeat (first | (refine wx_quietU (by rfl) (by rfl) (by rfl) (fun K hK => ?_); go_big_quiet_op; refine hK _ ?_; clear hK K) | (refine wx_quietG (by rfl) (by rfl) (by rfl) (by rfl) (by rfl) (fun K hK => ?_); go_big_quiet_op; refine hK _ ?_; clear hK K) | (refine wx_skipG (by rfl) (by rfl) (by rfl) (fun K hK => ?_); go_simp; refine hK _ ?_; clear hK K) | (refine wx_skipN (by rfl) (by rfl) (by rfl) (fun K hK => ?_); go_simp; refine hK _ ?_; clear hK K))
      refine wx_nil fun w9 hsat => ?_
      obtain ⟨S, hS, hfin⟩ := sat_get hsat 11
      obtain ⟨A9, c9, hb9, ho9⟩ := (hfin : ∃ A1 c1, BlkF (r + 1) 51 #[.slice A1 (j + 1) c1, .slice none 0 0, .map (some r), .bool false, .int .i64 (-1)] S w9 ∧ OwnF r 9 1 (j + 1) (STd (List.replicate (j + 1) zero64)) (.slice A1 (j + 1) c1) S w9)
      have hkk := hsat.1
      obtain ⟨es, clk, hmap, he⟩ := hE.map
      have hrm : ¬ ((False ∨ r = r + 1) ∨ Value.ownBlock (.slice As j cs) = some r) := by
        rintro ((h | h) | h)
        · exact h
        · omega
        · exact hE.sr (by rw [newD_len, h])
      have hmap9 := blk_kept hmap hkk hrm
      have hw9 := Below.trans hb ((hkk.below_of hsz (fun b hb => by
        rcases hb with (h | h) | h
        · exact h.elim
        · omega
        · exact (hst.lt b h).1)))
      have hne9 := own_ne_blk ho9.2 hb9.2 (by decide)
      have hE9 : RkAt r w9 (newD (j + 1)) (r + 1) A9 c9 r none 0 := by
        have e1 : (newD (j + 1)).stay.length = j + 1 := newD_len _
        refine ⟨?_, ?_, ⟨es, clk, hmap9, he⟩, own_nilE _ _ _ _, ?_, by omega, ?_, by simp [Value.ownBlock], by simp [Value.ownBlock], by simp [Value.ownBlock], by omega, by omega, by simp [newD]⟩
        · unfold rkC; rw [e1]; exact hb9.2
        · rw [e1]; exact ho9.2
        · rw [e1]; exact fun e => hne9 _ e rfl
        · rw [e1]
          exact own_ne_map ho9.2 hmap9
      clear hsat hS hE hkk hmap hmap9 hb9 ho9 hst hblk
      go_wp2_with fail
      go_light
      exact ⟨⟨j + 1, A9, c9, by omega, by go_num, hE9, hw9⟩, by simp [intOf]; omega⟩
    · obtain rfl : j = n := by omega
      have hpl := (Array.getElem?_eq_some_iff.1 hE.blk).1
      go_wp2_with fail
      go_ret
      exact ⟨r + 1, As, cs, r, rfl, hE, hpl, hb⟩
end Go.Proofs.Ytfhlidlmipleaaa
