/-
  Contract of the reference's Words.
-/
import Derived.Test.YtecfkhgocjbocaaGreatDoorSx3
namespace Go.Proofs.YtecfkhgocjbocaaGreatDoor
set_option linter.unusedVariables false
set_option linter.unusedSimpArgs false
open Go Go.RowKit

theorem tw_step (p : UInt8 → Bool) (l : List UInt8) (k : Nat) (hk : k < l.length) (h : k ≤ (l.takeWhile p).length) : (p (l.getD k 0) = true → k + 1 ≤ (l.takeWhile p).length) ∧ (p (l.getD k 0) = false → (l.takeWhile p).length = k) := by
  induction l generalizing k with
  | nil => simp at hk
  | cons c r ih =>
    cases hc : p c with
    | true =>
      simp only [List.takeWhile_cons, hc, if_true, List.length_cons] at h ⊢
      cases k with
      | zero => simp [hc]
      | succ k =>
        have := ih k (by simpa using hk) (by omega)
        simp only [List.getD_cons_succ]
        exact ⟨fun h => by have := this.1 h; omega, fun h => by have := this.2 h; omega⟩
    | false =>
      simp only [List.takeWhile_cons, hc, Bool.false_eq_true, if_false, List.length_nil] at h ⊢
      obtain rfl : k = 0 := by omega
      simp [hc]
/-- at a place of a text, by what is left from k on -/
theorem tw_at (p : UInt8 → Bool) (s : ByteArray) (k j : Nat) (h : k + j < s.size) (hj : j ≤ (((bl s).drop k).takeWhile p).length) :
    (p (s[k + j]) = true → j + 1 ≤ (((bl s).drop k).takeWhile p).length) ∧ (p (s[k + j]) = false → (((bl s).drop k).takeWhile p).length = j) := by
  have h1 := tw_step p ((bl s).drop k) j (by rw [List.length_drop, bl_len]; omega) hj
  have h2 : ((bl s).drop k).getD j 0 = s[k + j] := by
    rw [(bl_get s (k + j) h).out, List.getD_eq_getElem?_getD, List.getD_eq_getElem?_getD, List.getElem?_drop]
  rw [h2] at h1
  exact h1
set_option maxRecDepth 100000 in
set_option maxHeartbeats 3200000 in
theorem refWords_any (s : ByteArray) (w : World) (hs : s.size ≤ 2000000) : Calls Tryz.prog 81 #[.string s] w fun e w' => ∃ A c, e = .returned (.tuple #[.slice A (LX.run (bl s) 0 []).1.length c, .int .i64 (LX.run (bl s) 0 []).2.1, .int .i64 (LX.run (bl s) 0 []).2.2]) ∧
      w'.ownsRow w.heap.size 9 1 (.slice A (LX.run (bl s) 0 []).1.length c) (LX.run (bl s) 0 []).1.length (STR (LX.run (bl s) 0 []).1) ∧ Below w.heap.size w w' := by
  obtain ⟨R, hR⟩ : ∃ R, LX.run (bl s) 0 [] = R := ⟨_, rfl⟩
  rw [hR]
  have HR := hid hR
  clear hR
  go_enter Tryz.func81, Tryz.ntmps81
  go_wp2_with fail
  go_loopw [5, 6] (fun v i wr => ∃ (k : Nat) (L : List (List UInt8)) (A : Option Addr) (c : Nat), k ≤ s.size ∧ L.length ≤ k ∧ i = .int .i64 k ∧ v = .slice A L.length c ∧ LX.run ((bl s).drop k) k L = R ∧ wr.ownsRow w.heap.size 9 1 (.slice A L.length c) L.length (STR L) ∧ Below w.heap.size w wr) (fun _ i _ => s.size - (intOf i).toNat)
  case atStart => exact ⟨0, [], none, 0, Nat.zero_le _, by simp, rfl, rfl, HR.out, own_nilE _ _ _ _, Below.refl _ _⟩
  case round =>
    obtain ⟨k, L, A, c, hk, hLk, rfl, rfl, hrun, ho, hb⟩ := hrel
    have HX := hid hrun
    clear hrun HR
    by_cases hlt : k < s.size
    · have HG := bl_get s k hlt
      have HDR : Hid ((bl s).drop k = s[k] :: (bl s).drop (k + 1)) := by
        show _ = _
        rw [HG.out]
        exact LX.drop_step (bl s) k (by rw [bl_len]; exact hlt)
      by_cases e32 : (s[k]'hlt).toNat = 32
      ·
        have t0 : ((s[k]'hlt).toNat : Int) = 32 := by omega
        have HN : Hid (LX.run ((bl s).drop (k + 1)) (k + 1) L = R) := by
          show _ = _
          rw [← HX.out, HDR.out]
          exact (LX.run_blk _ _ k L (by simp [LX.blk, e32])).symm
        clear HX HDR HG e32
        go_wp2_with fail
        go_light
        exact ⟨⟨k + 1, L, A, c, by omega, by omega, by go_num, rfl, HN.out, ho, hb⟩, by simp [intOf]; omega⟩
      by_cases e9 : (s[k]'hlt).toNat = 9
      ·
        have t0 : ((s[k]'hlt).toNat : Int) = 9 := by omega
        have HN : Hid (LX.run ((bl s).drop (k + 1)) (k + 1) L = R) := by
          show _ = _
          rw [← HX.out, HDR.out]
          exact (LX.run_blk _ _ k L (by simp [LX.blk, e9])).symm
        clear HX HDR HG e9
        go_wp2_with fail
        go_light
        exact ⟨⟨k + 1, L, A, c, by omega, by omega, by go_num, rfl, HN.out, ho, hb⟩, by simp [intOf]; omega⟩
      by_cases e10 : (s[k]'hlt).toNat = 10
      ·
        have t0 : ((s[k]'hlt).toNat : Int) = 10 := by omega
        have HN : Hid (LX.run ((bl s).drop (k + 1)) (k + 1) L = R) := by
          show _ = _
          rw [← HX.out, HDR.out]
          exact (LX.run_blk _ _ k L (by simp [LX.blk, e10])).symm
        clear HX HDR HG e10
        go_wp2_with fail
        go_light
        exact ⟨⟨k + 1, L, A, c, by omega, by omega, by go_num, rfl, HN.out, ho, hb⟩, by simp [intOf]; omega⟩
      have t32 : (((s[k]'hlt).toNat : Int) == 32) = false := by rw [beq_eq_false_iff_ne]; omega
      have t9 : (((s[k]'hlt).toNat : Int) == 9) = false := by rw [beq_eq_false_iff_ne]; omega
      have t10 : (((s[k]'hlt).toNat : Int) == 10) = false := by rw [beq_eq_false_iff_ne]; omega
      have HB : Hid (LX.blk (s[k]'hlt) = false) := by show _ = _; simp [LX.blk, e32, e9, e10]
      clear e32 e9 e10
      by_cases e35 : (s[k]'hlt).toNat = 35
      · have t0 : ((s[k]'hlt).toNat : Int) = 35 := by omega
        clear t32 t9 t10
        have hN : 0 < LX.noteLen ((bl s).drop k) ∧ k + LX.noteLen ((bl s).drop k) ≤ s.size := by
          refine ⟨by rw [HDR.out]; simp [LX.noteLen, LX.nl, List.takeWhile_cons, e35], ?_⟩
          have := LX.tw_len_le (fun c => !LX.nl c) ((bl s).drop k)
          rw [List.length_drop, bl_len] at this
          unfold LX.noteLen
          omega
        have HN : Hid (LX.run ((bl s).drop (k + LX.noteLen ((bl s).drop k))) (k + LX.noteLen ((bl s).drop k)) L = R) := by
          show _ = _
          have h1 := LX.run_note (s[k]'hlt) ((bl s).drop (k + 1)) k L e35
          rw [← HDR.out, List.drop_drop] at h1
          rw [← HX.out]
          exact h1.symm
        have HS := fun j h => hid (tw_at (fun c => !LX.nl c) s k j h)
        have hdef : (((bl s).drop k).takeWhile fun c => !LX.nl c).length = LX.noteLen ((bl s).drop k) := rfl
        rw [hdef] at HS
        generalize LX.noteLen ((bl s).drop k) = n at *
        clear hdef HX HDR HG e35 HB
        go_wp2_with fail
        go_loop [6] (fun i => ∃ j : Nat, j ≤ n ∧ i = .int .i64 (k + j : Nat)) (fun i => s.size - (intOf i).toNat)
        case atStart => exact ⟨0, by omega, by simp⟩
        case round =>
          obtain ⟨j, hj, rfl⟩ := hrel
          by_cases hlt2 : k + j < s.size
          · have hst := (HS j hlt2).out hj
            by_cases e10 : (s[k + j]'hlt2).toNat = 10
            · have t1 : (((s[k + j]'hlt2).toNat : Int) != 10) = false := by simp [e10]
              have hjn : n = j := hst.2 (by simp [LX.nl, e10])
              subst hjn
              clear hst HS e10
              go_wp2_with fail
              go_light
              exact ⟨⟨k + n, L, A, c, by omega, by omega, rfl, rfl, HN.out, ho, hb⟩, by simp [intOf]; omega⟩
            · have t1 : (((s[k + j]'hlt2).toNat : Int) != 10) = true := by rw [bne_iff_ne]; omega
              have hjn : j + 1 ≤ n := hst.1 (by simp [LX.nl, e10])
              clear hst HS e10
              go_wp2_with fail
              go_light
              exact ⟨⟨j + 1, hjn, by go_num⟩, by simp [intOf]; omega⟩
          · have hjn : j = n := by omega
            subst hjn
            clear HS
            go_wp2_with fail
            go_light
            exact ⟨⟨k + j, L, A, c, by omega, by omega, rfl, rfl, HN.out, ho, hb⟩, by simp [intOf]; omega⟩
      have t35 : (((s[k]'hlt).toNat : Int) == 35) = false := by rw [beq_eq_false_iff_ne]; omega
      have hsgn : LX.sgn (s[k]'hlt) = (decide ((s[k]'hlt).toNat = 123) || decide ((s[k]'hlt).toNat = 125) || decide ((s[k]'hlt).toNat = 59)) := rfl
      by_cases e123 : (s[k]'hlt).toNat = 123
      ·
        have hbb := (Below.refl wr.heap.size wr).alloc (Nat.le_refl _) (.cells #[.int .u8 ((s[k]'hlt).toNat : Int)] 5)
        have hsb : Sl (wr.alloc (.cells #[.int .u8 ((s[k]'hlt).toNat : Int)] 5)) 1 (.slice (some ⟨wr.heap.size, 0, none⟩) 1 1) (B8 [s[k]'hlt]) := sl_new wr [s[k]'hlt] 5 _ 1 _ rfl rfl rfl (by simp)
        have st := str_of (P := Tryz.prog) hsb 38 9 5 Tryz.underlying38 Tryz.underlying5 Tryz.underlying9
        have hba := hbb.alloc (by simp) (.cells #[.string (S8 [s[k]'hlt])] 9)
        have hsl : Sl ((wr.alloc (.cells #[.int .u8 ((s[k]'hlt).toNat : Int)] 5)).alloc (.cells #[.string (S8 [s[k]'hlt])] 9)) 1 (.slice (some ⟨wr.heap.size + 1, 0, none⟩) 1 1) (STR [[s[k]'hlt]]) := by
          have := own_sl (own_made (wr.alloc (.cells #[.int .u8 ((s[k]'hlt).toNat : Int)] 5)) 0 9 1 1 #[.string (S8 [s[k]'hlt])] (STR [[s[k]'hlt]]) (Nat.zero_le _) rfl rfl (by omega) (by omega))
          simpa using this
        have ho2 := own_below ho hba
        have hbw2 := hb.trans (hba.mono hb.size)
        have HNX : Hid (LX.run ((bl s).drop (k + 1)) (k + 1) (L ++ [[s[k]'hlt]]) = R) := by
          show _ = _
          rw [← HX.out, HDR.out]
          exact (LX.run_sgn _ _ k L (by rw [hsgn]; simp [e123])).symm
        have t0 : (((s[k]'hlt).toNat : Int) == 123) = true := by simp [e123]
        have t1 := fun (z : Int) (hz : z ≠ 123) => (show (((s[k]'hlt).toNat : Int) == z) = false by rw [beq_eq_false_iff_ne, e123]; omega)
        have t2 := t1 32 (by omega)
        have t3 := t1 9 (by omega)
        have t4 := t1 10 (by omega)
        have t5 := t1 35 (by omega)
        clear hba hbb hsb HX HDR HG ho hsgn t1 hb HB e123
        go_wp2_with (at_builtin; refine wpList_app rfl (.tmp 56) (.tmp 60) st_strs rfl w.heap.size rfl ho2 rfl hsl (STR_one _) (by simp [maxLen]; omega) (by omega) hbw2.size ?_)
        intro A9 c9 w5 ho9 hg9 _
        have hb9 := hbw2.trans ((grown_below ho2 hg9 hbw2.size).mono (Nat.le_refl _))
        clear ho2 hbw2 hsl hg9 st
        rw [show STR L ++ STR [[s[k]'hlt]] = STR (L ++ [[s[k]'hlt]]) by simp [STR], show L.length + 1 = (L ++ [[s[k]'hlt]]).length by simp] at ho9
        go_wp2_with fail
        go_light
        refine ⟨⟨k + 1, L ++ [[s[k]'hlt]], A9, c9, by omega, by simp; omega, by go_num, by simp, HNX.out, ho9, hb9⟩, by simp [intOf]; omega⟩
      by_cases e125 : (s[k]'hlt).toNat = 125
      ·
        have hbb := (Below.refl wr.heap.size wr).alloc (Nat.le_refl _) (.cells #[.int .u8 ((s[k]'hlt).toNat : Int)] 5)
        have hsb : Sl (wr.alloc (.cells #[.int .u8 ((s[k]'hlt).toNat : Int)] 5)) 1 (.slice (some ⟨wr.heap.size, 0, none⟩) 1 1) (B8 [s[k]'hlt]) := sl_new wr [s[k]'hlt] 5 _ 1 _ rfl rfl rfl (by simp)
        have st := str_of (P := Tryz.prog) hsb 38 9 5 Tryz.underlying38 Tryz.underlying5 Tryz.underlying9
        have hba := hbb.alloc (by simp) (.cells #[.string (S8 [s[k]'hlt])] 9)
        have hsl : Sl ((wr.alloc (.cells #[.int .u8 ((s[k]'hlt).toNat : Int)] 5)).alloc (.cells #[.string (S8 [s[k]'hlt])] 9)) 1 (.slice (some ⟨wr.heap.size + 1, 0, none⟩) 1 1) (STR [[s[k]'hlt]]) := by
          have := own_sl (own_made (wr.alloc (.cells #[.int .u8 ((s[k]'hlt).toNat : Int)] 5)) 0 9 1 1 #[.string (S8 [s[k]'hlt])] (STR [[s[k]'hlt]]) (Nat.zero_le _) rfl rfl (by omega) (by omega))
          simpa using this
        have ho2 := own_below ho hba
        have hbw2 := hb.trans (hba.mono hb.size)
        have HNX : Hid (LX.run ((bl s).drop (k + 1)) (k + 1) (L ++ [[s[k]'hlt]]) = R) := by
          show _ = _
          rw [← HX.out, HDR.out]
          exact (LX.run_sgn _ _ k L (by rw [hsgn]; simp [e125])).symm
        have t0 : (((s[k]'hlt).toNat : Int) == 125) = true := by simp [e125]
        have t1 := fun (z : Int) (hz : z ≠ 125) => (show (((s[k]'hlt).toNat : Int) == z) = false by rw [beq_eq_false_iff_ne, e125]; omega)
        have t2 := t1 32 (by omega)
        have t3 := t1 9 (by omega)
        have t4 := t1 10 (by omega)
        have t5 := t1 35 (by omega)
        clear hba hbb hsb HX HDR HG ho hsgn t1 hb HB e125
        go_wp2_with (at_builtin; refine wpList_app rfl (.tmp 56) (.tmp 60) st_strs rfl w.heap.size rfl ho2 rfl hsl (STR_one _) (by simp [maxLen]; omega) (by omega) hbw2.size ?_)
        intro A9 c9 w5 ho9 hg9 _
        have hb9 := hbw2.trans ((grown_below ho2 hg9 hbw2.size).mono (Nat.le_refl _))
        clear ho2 hbw2 hsl hg9 st
        rw [show STR L ++ STR [[s[k]'hlt]] = STR (L ++ [[s[k]'hlt]]) by simp [STR], show L.length + 1 = (L ++ [[s[k]'hlt]]).length by simp] at ho9
        go_wp2_with fail
        go_light
        refine ⟨⟨k + 1, L ++ [[s[k]'hlt]], A9, c9, by omega, by simp; omega, by go_num, by simp, HNX.out, ho9, hb9⟩, by simp [intOf]; omega⟩
      by_cases e59 : (s[k]'hlt).toNat = 59
      ·
        have hbb := (Below.refl wr.heap.size wr).alloc (Nat.le_refl _) (.cells #[.int .u8 ((s[k]'hlt).toNat : Int)] 5)
        have hsb : Sl (wr.alloc (.cells #[.int .u8 ((s[k]'hlt).toNat : Int)] 5)) 1 (.slice (some ⟨wr.heap.size, 0, none⟩) 1 1) (B8 [s[k]'hlt]) := sl_new wr [s[k]'hlt] 5 _ 1 _ rfl rfl rfl (by simp)
        have st := str_of (P := Tryz.prog) hsb 38 9 5 Tryz.underlying38 Tryz.underlying5 Tryz.underlying9
        have hba := hbb.alloc (by simp) (.cells #[.string (S8 [s[k]'hlt])] 9)
        have hsl : Sl ((wr.alloc (.cells #[.int .u8 ((s[k]'hlt).toNat : Int)] 5)).alloc (.cells #[.string (S8 [s[k]'hlt])] 9)) 1 (.slice (some ⟨wr.heap.size + 1, 0, none⟩) 1 1) (STR [[s[k]'hlt]]) := by
          have := own_sl (own_made (wr.alloc (.cells #[.int .u8 ((s[k]'hlt).toNat : Int)] 5)) 0 9 1 1 #[.string (S8 [s[k]'hlt])] (STR [[s[k]'hlt]]) (Nat.zero_le _) rfl rfl (by omega) (by omega))
          simpa using this
        have ho2 := own_below ho hba
        have hbw2 := hb.trans (hba.mono hb.size)
        have HNX : Hid (LX.run ((bl s).drop (k + 1)) (k + 1) (L ++ [[s[k]'hlt]]) = R) := by
          show _ = _
          rw [← HX.out, HDR.out]
          exact (LX.run_sgn _ _ k L (by rw [hsgn]; simp [e59])).symm
        have t0 : (((s[k]'hlt).toNat : Int) == 59) = true := by simp [e59]
        have t1 := fun (z : Int) (hz : z ≠ 59) => (show (((s[k]'hlt).toNat : Int) == z) = false by rw [beq_eq_false_iff_ne, e59]; omega)
        have t2 := t1 32 (by omega)
        have t3 := t1 9 (by omega)
        have t4 := t1 10 (by omega)
        have t5 := t1 35 (by omega)
        clear hba hbb hsb HX HDR HG ho hsgn t1 hb HB e59
        go_wp2_with (at_builtin; refine wpList_app rfl (.tmp 56) (.tmp 60) st_strs rfl w.heap.size rfl ho2 rfl hsl (STR_one _) (by simp [maxLen]; omega) (by omega) hbw2.size ?_)
        intro A9 c9 w5 ho9 hg9 _
        have hb9 := hbw2.trans ((grown_below ho2 hg9 hbw2.size).mono (Nat.le_refl _))
        clear ho2 hbw2 hsl hg9 st
        rw [show STR L ++ STR [[s[k]'hlt]] = STR (L ++ [[s[k]'hlt]]) by simp [STR], show L.length + 1 = (L ++ [[s[k]'hlt]]).length by simp] at ho9
        go_wp2_with fail
        go_light
        refine ⟨⟨k + 1, L ++ [[s[k]'hlt]], A9, c9, by omega, by simp; omega, by go_num, by simp, HNX.out, ho9, hb9⟩, by simp [intOf]; omega⟩
      have t123 : (((s[k]'hlt).toNat : Int) == 123) = false := by rw [beq_eq_false_iff_ne]; omega
      have t125 : (((s[k]'hlt).toNat : Int) == 125) = false := by rw [beq_eq_false_iff_ne]; omega
      have t59 : (((s[k]'hlt).toNat : Int) == 59) = false := by rw [beq_eq_false_iff_ne]; omega
      have HSG : Hid (LX.sgn (s[k]'hlt) = false) := by show _ = _; rw [hsgn]; simp [e123, e125, e59]
      clear hsgn e123 e125 e59
      go_wp2_with fail
      refine (refIn_any _ wr).mono ?_
      rintro e w1 ⟨rfl, rfl⟩
      cases hin : LX.inW (s[k]'hlt) with
      | false =>
        have HE : Hid (R = ([], k, 3)) := by
          show _ = _
          rw [← HX.out, HDR.out]
          exact LX.run_bad _ _ k L HB.out e35 HSG.out hin
        go_wp2_with fail
        refine bodyPost_ret (v := .tuple #[.slice none 0 0, .int .i64 k, .int .i64 3]) (by simp [results, Tryz.results81, go_sem]) rfl ⟨none, 0, ?_⟩
        rw [HE.out]
        exact ⟨rfl, own_nilE _ _ _ _, hb⟩
      | true =>
        have hN : 0 < LX.wordLen ((bl s).drop k) ∧ k + LX.wordLen ((bl s).drop k) ≤ s.size := by
          refine ⟨by rw [HDR.out, LX.wordLen_cons _ _ hin]; omega, ?_⟩
          have := wl_le ((bl s).drop k)
          rw [List.length_drop, bl_len] at this
          omega
        have HS := fun j h => hid (tw_at LX.inW s k j h)
        have hdef : (((bl s).drop k).takeWhile LX.inW).length = LX.wordLen ((bl s).drop k) := rfl
        rw [hdef] at HS
        have HW : Hid (LX.wordLen ((bl s).drop k) ≤ 31 → LX.run ((bl s).drop (k + LX.wordLen ((bl s).drop k))) (k + LX.wordLen ((bl s).drop k)) (L ++ [((bl s).drop k).take (LX.wordLen ((bl s).drop k))]) = R) := by
          show _ → _
          intro h31
          have h1 := LX.run_word (s[k]'hlt) ((bl s).drop (k + 1)) k L hin (by rw [← HDR.out]; exact h31)
          rw [← HDR.out, List.drop_drop] at h1
          rw [← HX.out]
          exact h1.symm
        have HB3 : Hid (31 < LX.wordLen ((bl s).drop k) → R = ([], k, 3)) := by
          show _ → _
          intro h31
          have h1 := LX.run_long (s[k]'hlt) ((bl s).drop (k + 1)) k L hin (by rw [← HDR.out]; exact h31)
          rw [← HDR.out] at h1
          rw [← HX.out]
          exact h1
        generalize LX.wordLen ((bl s).drop k) = n at *
        clear hdef HX HDR HG HB HSG hin
        go_wp2_with fail
        go_loop [8] (fun i => ∃ j : Nat, j ≤ n ∧ i = .int .i64 (k + j : Nat)) (fun i => s.size - (intOf i).toNat)
        case atStart => exact ⟨0, by omega, by simp⟩
        case round =>
          obtain ⟨j, hj, rfl⟩ := hrel
          by_cases hlt2 : k + j < s.size
          · have hst := (HS j hlt2).out hj
            go_wp2_with fail
            refine (refIn_any _ w1).mono ?_
            rintro e w2 ⟨rfl, rfl⟩
            cases hin2 : LX.inW (s[k + j]'hlt2) with
            | true =>
              have hjn := hst.1 hin2
              clear hst HS
              go_wp2_with fail
              go_light
              exact ⟨⟨j + 1, hjn, by go_num⟩, by simp [intOf]; omega⟩
            | false =>
              obtain rfl : n = j := hst.2 hin2
              clear hst HS hin2
              by_cases h31 : n ≤ 31
              · have HNX := hid (HW.out h31)
                have hxe : s.extract k (k + n) = ⟨(((bl s).drop k).take n).toArray⟩ := by
                  conv => lhs; rw [bl_eq (s.extract k (k + n))]
                  rw [bl_ext, show k + n - k = n by omega]
                generalize ((bl s).drop k).take n = X at *
                have hba := (Below.refl w2.heap.size w2).alloc (Nat.le_refl _) (.cells #[.string (s.extract k (k + n))] 9)
                have hsl : Sl (w2.alloc (.cells #[.string (s.extract k (k + n))] 9)) 1 (.slice (some ⟨w2.heap.size, 0, none⟩) 1 1) (STR [X]) := own_sl (own_made w2 0 9 1 1 #[.string (s.extract k (k + n))] (STR [X]) (Nat.zero_le _) (by rw [hxe]; rfl) rfl (by omega) (by omega))
                have ho2 := own_below ho hba
                have hbw2 := hb.trans (hba.mono hb.size)
                clear hba ho hb hxe HW HB3
                go_wp2_with (at_builtin; refine wpList_app rfl (.tmp 85) (.tmp 90) st_strs rfl w.heap.size rfl ho2 rfl hsl (STR_one _) (by simp [maxLen]; omega) (by omega) hbw2.size ?_)
                intro A9 c9 w5 ho9 hg9 _
                have hb9 := hbw2.trans ((grown_below ho2 hg9 hbw2.size).mono (Nat.le_refl _))
                clear ho2 hbw2 hsl hg9
                rw [show STR L ++ STR [X] = STR (L ++ [X]) by simp [STR], show L.length + 1 = (L ++ [X]).length by simp] at ho9
                go_wp2_with fail
                go_light
                refine ⟨⟨k + n, L ++ [X], A9, c9, by omega, by simp; omega, by go_num, by simp, HNX.out, ho9, hb9⟩, by simp [intOf]; omega⟩
              · have HE := hid (HB3.out (by omega))
                clear HW HB3
                go_wp2_with fail
                refine bodyPost_ret (v := .tuple #[.slice none 0 0, .int .i64 k, .int .i64 3]) (by simp [results, Tryz.results81, go_sem]) rfl ⟨none, 0, ?_⟩
                rw [HE.out]
                exact ⟨rfl, own_nilE _ _ _ _, hb⟩
          · obtain rfl : n = j := by omega
            clear HS
            by_cases h31 : n ≤ 31
            · have HNX := hid (HW.out h31)
              have hxe : s.extract k (k + n) = ⟨(((bl s).drop k).take n).toArray⟩ := by
                conv => lhs; rw [bl_eq (s.extract k (k + n))]
                rw [bl_ext, show k + n - k = n by omega]
              generalize ((bl s).drop k).take n = X at *
              have hba := (Below.refl w1.heap.size w1).alloc (Nat.le_refl _) (.cells #[.string (s.extract k (k + n))] 9)
              have hsl : Sl (w1.alloc (.cells #[.string (s.extract k (k + n))] 9)) 1 (.slice (some ⟨w1.heap.size, 0, none⟩) 1 1) (STR [X]) := own_sl (own_made w1 0 9 1 1 #[.string (s.extract k (k + n))] (STR [X]) (Nat.zero_le _) (by rw [hxe]; rfl) rfl (by omega) (by omega))
              have ho2 := own_below ho hba
              have hbw2 := hb.trans (hba.mono hb.size)
              clear hba ho hb hxe HW HB3
              go_wp2_with (at_builtin; refine wpList_app rfl (.tmp 85) (.tmp 90) st_strs rfl w.heap.size rfl ho2 rfl hsl (STR_one _) (by simp [maxLen]; omega) (by omega) hbw2.size ?_)
              intro A9 c9 w5 ho9 hg9 _
              have hb9 := hbw2.trans ((grown_below ho2 hg9 hbw2.size).mono (Nat.le_refl _))
              clear ho2 hbw2 hsl hg9
              rw [show STR L ++ STR [X] = STR (L ++ [X]) by simp [STR], show L.length + 1 = (L ++ [X]).length by simp] at ho9
              go_wp2_with fail
              go_light
              refine ⟨⟨k + n, L ++ [X], A9, c9, by omega, by simp; omega, by go_num, by simp, HNX.out, ho9, hb9⟩, by simp [intOf]; omega⟩
            · have HE := hid (HB3.out (by omega))
              clear HW HB3
              go_wp2_with fail
              refine bodyPost_ret (v := .tuple #[.slice none 0 0, .int .i64 k, .int .i64 3]) (by simp [results, Tryz.results81, go_sem]) rfl ⟨none, 0, ?_⟩
              rw [HE.out]
              exact ⟨rfl, own_nilE _ _ _ _, hb⟩
    · obtain rfl : k = s.size := by omega
      have HE : Hid (R = (L, s.size, 0)) := by
        show _ = _
        rw [← HX.out, List.drop_of_length_le (by rw [bl_len]; omega), LX.run_nil]
      go_wp2_with fail
      refine bodyPost_ret (v := .tuple #[.slice A L.length c, .int .i64 s.size, .int .i64 0]) (by simp [results, Tryz.results81, go_sem]) rfl ⟨A, c, ?_⟩
      rw [HE.out]
      exact ⟨rfl, ho, hb⟩
end Go.Proofs.YtecfkhgocjbocaaGreatDoor
