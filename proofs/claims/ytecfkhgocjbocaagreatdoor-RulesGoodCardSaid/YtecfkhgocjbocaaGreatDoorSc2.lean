/-
  Contracts of layer 4's reference: Parts, Addr, Net.
-/
import Derived.Test.YtecfkhgocjbocaaGreatDoorSc1
namespace Go.Proofs.YtecfkhgocjbocaaGreatDoor
set_option linter.unusedVariables false
set_option linter.unusedSimpArgs false
open Go Go.RowKit

theorem ext_one (s : ByteArray) (k : Nat) (h : k < s.size) : s.extract k (k + 1) = S8 [(bl s).getD k 0] := by
  rw [S8_bl (s.extract k (k + 1)), bl_ext, show k + 1 - k = 1 by omega]
  congr 1
  have hl : k < (bl s).length := by rw [bl_len]; exact h
  rw [List.drop_eq_getElem_cons hl, List.getD_eq_getElem?_getD, List.getElem?_eq_getElem hl]
  rfl
theorem take_one (s : ByteArray) (k : Nat) (h : k < s.size) : (bl s).take (k + 1) = (bl s).take k ++ [(bl s).getD k 0] := by
  have hl : k < (bl s).length := by rw [bl_len]; exact h
  rw [List.take_succ_eq_append_getElem hl, List.getD_eq_getElem?_getD, List.getElem?_eq_getElem hl]
  rfl
theorem STR_last (d : List (List UInt8)) (h x : List UInt8) : (STR (d ++ [h])).set d.length (.string (S8 (h ++ x))) = STR (d ++ [h ++ x]) := by
  simp [STR, S8]
theorem own_last {w : World} {base g c : Nat} {d : List (List UInt8)} {h : List UInt8} {n : Nat} (ho : w.ownsRow base 9 1 (.slice (some ⟨g, 0, none⟩) n c) n (STR (d ++ [h]))) (hn : n = d.length + 1) :
    w.cell? ⟨g, d.length, none⟩ = some (.string (S8 h)) ∧ w.frozen? ⟨g, d.length, none⟩ = false := by
  have h1 := own_cell ho d.length (by omega)
  refine ⟨h1.1.trans ?_, h1.2⟩
  simp [STR, S8]
set_option maxRecDepth 100000 in
set_option maxHeartbeats 3200000 in
theorem refParts_any (s : ByteArray) (at_ : UInt8) (w : World) (hs : s.size ≤ 2000000) : Calls Tryz.prog 96 #[.string s, .int .u8 (at_.toNat : Int)] w fun e w' => ∃ A c, e = .returned (.slice A (SC.cut at_ (bl s)).length c) ∧
      w'.ownsRow w.heap.size 9 1 (.slice A (SC.cut at_ (bl s)).length c) (SC.cut at_ (bl s)).length (STR (SC.cut at_ (bl s))) ∧ Below w.heap.size w w' := by
  have HL := hid (bl_len s)
  have ho0 : (w.alloc (.cells #[.string ⟨#[]⟩] 9)).ownsRow w.heap.size 9 1 (.slice (some ⟨w.heap.size, 0, none⟩) 1 1) 1 (STR [[]]) := own_made w w.heap.size 9 1 1 #[.string ⟨#[]⟩] (STR [[]]) (Nat.le_refl _) rfl rfl (by omega) (by omega)
  have hb0 := (Below.refl w.heap.size w).alloc (Nat.le_refl _) (.cells #[.string ⟨#[]⟩] 9)
  go_enter Tryz.func96, Tryz.ntmps96
  go_wp2_with fail
  go_loopw [5, 6] (fun v i wr => ∃ (k n : Nat) (A : Option Addr) (c : Nat) (L : List (List UInt8)), k ≤ s.size ∧ v = .slice A n c ∧ i = .int .i64 k ∧ wr.ownsRow w.heap.size 9 1 (.slice A n c) n (STR L) ∧ n ≤ k + 1 ∧ Hid (L = SC.cut at_ ((bl s).take k)) ∧ Below w.heap.size w wr) (fun _ i _ => s.size - (intOf i).toNat)
  case atStart => exact ⟨0, 1, _, 1, [[]], Nat.zero_le _, rfl, rfl, ho0, by omega, rfl, hb0⟩
  case round =>
    obtain ⟨k, n, A, c, L, hk, rfl, rfl, ho, hn, HLL, hb⟩ := hrel
    clear ho0 hb0
    have hln : L.length = n := by have := ho.1; rw [STR_length] at this; omega
    by_cases hlt : k < s.size
    · have hg := bl_get s k hlt
      have HX := hid (ext_one s k hlt)
      have HT := hid (take_one s k hlt)
      by_cases hx : (bl s).getD k 0 = at_
      · have t0 : (((s[k]'hlt).toNat : Int) == (at_.toNat : Int)) = true := by rw [hg.out, hx]; simp
        have HN : Hid (L ++ [[]] = SC.cut at_ ((bl s).take (k + 1))) := by show _ = _; rw [HT.out, hx, SC.cut_snoc, HLL.out]
        have hba := (Below.refl wr.heap.size wr).alloc (Nat.le_refl _) (.cells #[.string ⟨#[]⟩] 9)
        have hsl : Sl (wr.alloc (.cells #[.string ⟨#[]⟩] 9)) 1 (.slice (some ⟨wr.heap.size, 0, none⟩) 1 1) (STR [[]]) := own_sl (own_made wr 0 9 1 1 #[.string ⟨#[]⟩] (STR [[]]) (Nat.zero_le _) rfl rfl (by omega) (by omega))
        have ho2 := own_below ho hba
        have hbw2 := hb.trans (hba.mono hb.size)
        clear hba ho hb hg hx HT HX HLL hln
        as_aux_lemma =>
          go_wp2_with (at_builtin; refine wpList_app rfl (.tmp 19) (.tmp 20) st_strs rfl w.heap.size rfl ho2 rfl hsl (STR_one _) (by simp [maxLen]; omega) (by omega) hbw2.size ?_)
          intro A9 c9 w5 ho9 hg9 _
          have hb9 := hbw2.trans ((grown_below ho2 hg9 hbw2.size).mono (Nat.le_refl _))
          clear ho2 hbw2 hsl hg9
          rw [show STR L ++ STR [[]] = STR (L ++ [[]]) by simp [STR]] at ho9
          go_wp2_with fail
          go_light
          exact ⟨⟨k + 1, n + 1, A9, c9, L ++ [[]], by omega, rfl, by go_num, ho9, by omega, HN, hb9⟩, by simp [intOf]; omega⟩
      · have t0 : (((s[k]'hlt).toNat : Int) == (at_.toNat : Int)) = false := by
          rw [hg.out, beq_eq_false_iff_ne]
          intro h5
          exact hx (UInt8.toNat_inj.1 (by omega))
        obtain ⟨d, h, q1, q2⟩ := SC.cut_snoc_ne at_ ((bl s).getD k 0) ((bl s).take k) hx
        rw [← HLL.out] at q1
        rw [← HT.out] at q2
        subst q1
        have HN := hid q2.symm
        have hdn : n = d.length + 1 := by simp at hln; omega
        have hhs : h.length ≤ s.size := by
          have h5 := SC.cut_part at_ ((bl s).take k) h (by rw [← HLL.out]; simp)
          rw [List.length_take, HL.out] at h5
          omega
        have hadd := fun w' : World => run_string_add_sum (P := Tryz.prog) (w := w') (S8 h) (s.extract k (k + 1)) (by rw [HX.out, S8_size, S8_size]; simp; omega)
        have HV : Hid (S8 h ++ s.extract k (k + 1) = S8 (h ++ [(bl s).getD k 0])) := by show _ = _; rw [HX.out, S8_add]
        clear hg hx HT HX HLL hln q2
        generalize (bl s).getD k 0 = x at *
        obtain ⟨g, rfl, hg1, hg2⟩ := own_some ho (by omega)
        subst hdn
        as_aux_lemma =>
          go_upto_region 7 with fail
          refine wp_region_loud (fun b => Value.ownBlock (.slice (some ⟨g, 0, none⟩) (d.length + 1) c) = some b)
            [(9, loadL [100] (.string (S8 h)) (OwnF w.heap.size 9 1 (d.length + 1) (STR (d ++ [h])) (.slice (some ⟨g, 0, none⟩) (d.length + 1) c))), (17, keepL [9] (OwnF w.heap.size 9 1 (d.length + 1) (STR (d ++ [h ++ [x]])) (.slice (some ⟨g, 0, none⟩) (d.length + 1) c)))]
            (labelled 100 (OwnF w.heap.size 9 1 (d.length + 1) (STR (d ++ [h])) (.slice (some ⟨g, 0, none⟩) (d.length + 1) c))) (by kernel_rfl) (by kernel_rfl)
            (.cons (loadL_ok _ _ (good_own _ _ _ _ _ _)) (.cons (keepL_ok _ (good_own _ _ _ _ _ _)) .nil)) (good_one 100 (good_own _ _ _ _ _ _)) (sat_one 100 _ (ownF_lt ho) (ownF_in ho)) (WX.out ?_)
          repeat (first | ((first | refine wx_quietU (by rfl) (by rfl) (by rfl) (fun K hK => ?_) | refine wx_quietG (by rfl) (by rfl) (by rfl) (by rfl) (by rfl) (fun K hK => ?_)); go_big_quiet_op; refine hK _ ?_; clear hK K) | ((first | refine wx_skipG (by rfl) (by rfl) (by rfl) (fun K hK => ?_) | refine wx_skipN (by rfl) (by rfl) (by rfl) (fun K hK => ?_)); go_simp; refine hK _ ?_; clear hK K))
          refine wx_loudU (us := [100]) (by rfl) (by rfl) (fun S wS hC hS hU => ?_) (fun v hv K hK => ?_)
          · have k1 : OwnF w.heap.size 9 1 (d.length + 1) (STR (d ++ [h])) (.slice (some ⟨g, 0, none⟩) (d.length + 1) c) S wS := hU 100 (by simp)
            obtain ⟨p0, p1⟩ := own_last k1.2 rfl
            exact load_x (by go_simp <;> rfl) (good_own _ _ _ _ _ _) k1
          obtain rfl := hv; (go_simp; refine hK _ ?_; clear hK K)
          repeat (first | ((first | refine wx_quietU (by rfl) (by rfl) (by rfl) (fun K hK => ?_) | refine wx_quietG (by rfl) (by rfl) (by rfl) (by rfl) (by rfl) (fun K hK => ?_)); go_big_quiet_op; refine hK _ ?_; clear hK K) | ((first | refine wx_skipG (by rfl) (by rfl) (by rfl) (fun K hK => ?_) | refine wx_skipN (by rfl) (by rfl) (by rfl) (fun K hK => ?_)); go_simp; refine hK _ ?_; clear hK K))
          refine wx_loudU (us := [9]) (by rfl) (by rfl) (fun S wS hC hS hU => ?_) (fun v hv K hK => ?_)
          · have k3 : OwnF w.heap.size 9 1 (d.length + 1) (STR (d ++ [h])) (.slice (some ⟨g, 0, none⟩) (d.length + 1) c) S wS := hU 9 (by simp)
            obtain ⟨p0, p1⟩ := own_last k3.2 rfl
            refine runs_skip (by go_simp <;> rfl) ⟨trivial, ?_, ?_⟩
            · exact (Kept.refl S wS).setCell (p := ⟨g, d.length, none⟩) (.inl (k3.1 g rfl)) _
            · have hst := (k3.2.stored d.length (.string (S8 h ++ s.extract k (k + 1)))).1
              rw [HV.out, STR_last] at hst
              rw [HV.out]
              exact ⟨fun y hy => Or.inl (k3.1 y hy), hst⟩
          (go_simp; refine hK _ ?_; clear hK K)
          repeat (first | ((first | refine wx_quietU (by rfl) (by rfl) (by rfl) (fun K hK => ?_) | refine wx_quietG (by rfl) (by rfl) (by rfl) (by rfl) (by rfl) (fun K hK => ?_)); go_big_quiet_op; refine hK _ ?_; clear hK K) | ((first | refine wx_skipG (by rfl) (by rfl) (by rfl) (fun K hK => ?_) | refine wx_skipN (by rfl) (by rfl) (by rfl) (fun K hK => ?_)); go_simp; refine hK _ ?_; clear hK K))
          refine wx_nil fun wd hsat => ?_
          obtain ⟨hkd, own, hdis, hin, hfact⟩ := hsat
          have hz9 := (hfact 17 : OwnF w.heap.size 9 1 (d.length + 1) (STR (d ++ [h ++ [x]])) (.slice (some ⟨g, 0, none⟩) (d.length + 1) c) (own 17) wd)
          have hbd := hb.trans ((hkd.below_of (B := w.heap.size) hb.size (fun b hb => by simp [Value.ownBlock] at hb; omega)))
          have hzo := hz9.2
          clear hkd hdis hin hfact hz9
          go_wp2_with fail
          go_light
          exact ⟨⟨k + 1, d.length + 1, _, c, d ++ [h ++ [x]], by omega, rfl, by go_num, hzo, by omega, HN, hbd⟩, by simp [intOf]; omega⟩
    · obtain rfl : k = s.size := by omega
      have ht : (bl s).take s.size = bl s := List.take_of_length_le (by rw [HL.out]; exact Nat.le_refl _)
      have hq := HLL.out
      rw [ht] at hq
      have HQ := hid hq
      have HLN := hid hln
      clear hq ht HLL hln
      go_wp2_with fail
      go_ret
      refine ⟨A, c, ?_, ?_, hb⟩
      · rw [← HQ.out, HLN.out]; rfl
      · rw [← HQ.out, HLN.out]; exact ho
end Go.Proofs.YtecfkhgocjbocaaGreatDoor
