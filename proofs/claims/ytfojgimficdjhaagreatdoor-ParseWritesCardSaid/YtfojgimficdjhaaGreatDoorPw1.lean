/-
  Contract of lex.Words (beside XSx1 .. XSx5: a seat with schema AND lex.Words).
-/
import Derived.Test.YtfojgimficdjhaaGreatDoorSx5
import Derived.Test.YtfojgimficdjhaaGreatDoorSc0
namespace Go.Proofs.YtfojgimficdjhaaGreatDoor
set_option linter.unusedVariables false
set_option linter.unusedSimpArgs false
open Go Go.RowKit

theorem trimLeft_any (s : ByteArray) (w : World) : Calls Tryz.prog 95 #[.string s, .string ⟨#[32, 9, 10]⟩] w fun e w' => e = .returned (.string ⟨(Lib.trimLeftS s.data.toList [32, 9, 10]).toArray⟩) ∧ Below w.heap.size w w' :=
  Any.strings_TrimLeft_laid Tryz.lays161 (by kernel_rfl) s ⟨#[32, 9, 10]⟩ w (by decide) (ascii_of_all (by decide))
theorem trimLeft_blk (l : List UInt8) : Lib.trimLeftS l [32, 9, 10] = l.dropWhile LX.blk := by
  unfold Lib.trimLeftS
  congr 1
  funext c
  have h := fun (n : Nat) (hn : n < 256) (k : UInt8) (hk : k.toNat = n) => (show c = k ↔ c.toNat = n by rw [← UInt8.toNat_inj, hk])
  have h1 := h 32 (by omega) 32 rfl
  have h2 := h 9 (by omega) 9 rfl
  have h3 := h 10 (by omega) 10 rfl
  rw [Bool.eq_iff_iff]
  simp [LX.blk, h1, h2, h3, or_assoc]
set_option maxRecDepth 100000 in
set_option maxHeartbeats 400000 in
theorem skip_any (s : ByteArray) (w : World) (hs : s.size ≤ 9223372036854775807) (h0 : 0 < s.size) : Calls Tryz.prog 67 #[.string s] w fun e w' => e = .returned (.int .i64 (skipN (bl s) : Nat)) ∧ Below w.heap.size w w' := by
  have hg := bl_get s 0 h0
  have HN := hid (noteLen_eq (bl s))
  have HL := hid (bl_len s)
  by_cases h35 : s[0].toNat = 35
  · have t : ((s[0].toNat : Int) != 35) = false := by simp [h35]
    have HK : Hid (skipN (bl s) = LX.noteLen (bl s)) := by show _ = _; unfold skipN; rw [← hg.out, if_pos h35]
    go_enter Tryz.func67, Tryz.ntmps67
    go_wp2_with fail
    refine (ix_any s 10 w).mono ?_
    rintro e w' ⟨rfl, rfl⟩
    generalize hz : Lib.indexByte s.data.toList 10 = z at *
    go_wp2_with fail
    all_goals
      go_ret
      refine ⟨ret_int ?_, Below.refl _ _⟩
      rw [HK.out, HN.out]
    · rw [if_pos (by assumption)]
    · rw [if_neg (by omega), HL.out]
  · have t : ((s[0].toNat : Int) != 35) = true := by rw [bne_iff_ne]; omega
    have HK : Hid (skipN (bl s) = ((bl s).takeWhile LX.blk).length) := by show _ = _; unfold skipN; rw [← hg.out, if_neg h35]
    have HT := hid (trimLeft_blk (bl s))
    have HD : Hid (s.size = ((bl s).takeWhile LX.blk).length + ((bl s).dropWhile LX.blk).length) := by
      show _ = _
      rw [← bl_len, ← List.length_append, List.takeWhile_append_dropWhile]
    go_enter Tryz.func67, Tryz.ntmps67
    go_wp2_with fail
    refine (trimLeft_any s w).mono ?_
    rintro e w' ⟨rfl, hb⟩
    rw [HT.out]
    generalize hx : (bl s).dropWhile LX.blk = x at *
    have hd := HD.out
    have hxs : (ByteArray.mk x.toArray).size = x.length := by show x.toArray.size = _; simp
    go_wp2_with fail
    go_ret
    refine ⟨ret_int ?_, hb⟩
    rw [HK.out]
set_option maxRecDepth 100000 in
set_option maxHeartbeats 1600000 in
theorem words_any (s : ByteArray) (w : World) (hs : s.size ≤ 100000) : Calls Tryz.prog 36 #[.string s] w fun e w' => ∃ A c, e = .returned (.tuple #[.slice A (LX.run (bl s) 0 []).1.length c, .int .i64 (LX.run (bl s) 0 []).2.1, .int .i64 (LX.run (bl s) 0 []).2.2]) ∧
      w'.ownsRow w.heap.size 9 1 (.slice A (LX.run (bl s) 0 []).1.length c) (LX.run (bl s) 0 []).1.length (STR (LX.run (bl s) 0 []).1) ∧ Below w.heap.size w w' := by
  obtain ⟨R, hR⟩ : ∃ R, LX.run (bl s) 0 [] = R := ⟨_, rfl⟩
  rw [hR]
  have HR := hid hR
  clear hR
  go_enter Tryz.func36, Tryz.ntmps36
  go_wp2_with fail
  go_loopw [5, 6] (fun v i wr => ∃ (k : Nat) (L : List (List UInt8)) (A : Option Addr) (c : Nat), k ≤ s.size ∧ L.length ≤ k ∧ i = .int .i64 k ∧ v = .slice A L.length c ∧ LX.run ((bl s).drop k) k L = R ∧ wr.ownsRow w.heap.size 9 1 (.slice A L.length c) L.length (STR L) ∧ Below w.heap.size w wr) (fun _ i _ => s.size - (intOf i).toNat)
  case atStart => exact ⟨0, [], none, 0, Nat.zero_le _, by simp, rfl, rfl, HR.out, own_nilE _ _ _ _, Below.refl _ _⟩
  case round =>
    obtain ⟨k, L, A, c, hk, hLk, rfl, rfl, hrun, ho, hb⟩ := hrel
    have HX := hid hrun
    clear hrun HR
    by_cases hlt : k < s.size
    · have hxs : (s.extract k s.size).size = s.size - k := by rw [← bl_len, bl_ext, List.length_take, List.length_drop, bl_len]; omega
      have HXB : Hid (bl (s.extract k s.size) = (bl s).drop k) := by
        show _ = _
        rw [bl_ext]
        exact List.take_of_length_le (by rw [List.length_drop, bl_len]; omega)
      go_wp2_with fail
      generalize s.extract k s.size = x at *
      have HL := hid (bl_len x)
      rw [← HXB.out] at HX
      have hsk := skipN_le (bl x)
      rw [HL.out] at hsk
      have hsrun := skip_run (bl x) k L
      have hsz := skip_zero
      refine (skip_any x wr (by omega) (by omega)).mono ?_
      rintro e w1 ⟨rfl, hb1⟩
      have ho1 := own_below ho hb1
      have hbw1 := hb.trans (hb1.mono hb.size)
      clear ho hb hb1
      have HD : Hid (∀ n, (bl x).drop n = (bl s).drop (k + n)) := by
        show ∀ n, _
        intro n
        rw [HXB.out, List.drop_drop]
      by_cases h0 : 0 < skipN (bl x)
      · rw [HX.out, HD.out] at hsrun
        have HS := hid hsrun
        clear hsrun hsz HX HXB HD
        generalize hn : skipN (bl x) = n at *
        clear hn
        go_wp2_with fail
        go_light
        exact ⟨⟨k + n, L, A, c, by omega, by omega, by go_num, rfl, HS.out.symm, ho1, hbw1⟩, by simp [intOf]; omega⟩
      · have h00 : skipN (bl x) = 0 := by omega
        rw [h00]
        obtain ⟨c0, r0, hcr⟩ : ∃ c0 r0, bl x = c0 :: r0 := by
          cases hbx : bl x with
          | nil => have := HL.out; rw [hbx] at this; simp at this; omega
          | cons c0 r0 => exact ⟨c0, r0, rfl⟩
        have hx0 := bl_get x 0 (by omega)
        have hx00 : x[0] = c0 := by rw [hx0.out, hcr]; rfl
        have HX0 := hid hx00
        rw [hcr] at h00
        obtain ⟨hblk, h35⟩ := hsz c0 r0 h00
        rw [hcr] at hsk
        have HI := hid (sgn_ix c0)
        have HCR := hid hcr
        have hw1 := wl_le (bl x)
        rw [HL.out] at hw1
        clear hsrun hsz hx0 hx00 hcr h0 hsk h00
        go_wp2_with fail
        refine (word_any x w1 (by omega)).mono ?_
        rintro e w2 ⟨rfl, rfl⟩
        go_wp2_with fail
        rw [HX0.out]
        refine (ix_any _ c0 w2).mono ?_
        rintro e w3 ⟨rfl, rfl⟩
        cases hsg : LX.sgn c0 with
        | true =>
          rw [hsg] at HI
          have h2 : 0 ≤ Lib.indexByte [123, 125, 59] c0 := by simpa using HI.out
          generalize Lib.indexByte [123, 125, 59] c0 = z at *
          have HNX : Hid (LX.run ((bl s).drop (k + 1)) (k + 1) (L ++ [(bl x).take 1]) = R) := by
            show _ = _
            rw [← HX.out, ← HD.out, HCR.out]
            exact (LX.run_sgn c0 r0 k L hsg).symm
          have hxe : x.extract 0 1 = ⟨((bl x).take 1).toArray⟩ := by
            conv => lhs; rw [bl_eq (x.extract 0 1)]
            rw [bl_ext]
            rfl
          have hsl : Sl (w3.alloc (.cells #[.string (x.extract 0 1)] 9)) 1 (.slice (some ⟨w3.heap.size, 0, none⟩) 1 1) (STR [(bl x).take 1]) := own_sl (own_made w3 0 9 1 1 #[.string (x.extract 0 1)] (STR [(bl x).take 1]) (Nat.zero_le _) (by rw [hxe]; rfl) rfl (by omega) (by omega))
          have hba := (Below.refl w3.heap.size w3).alloc (Nat.le_refl _) (.cells #[.string (x.extract 0 1)] 9)
          have ho2 := own_below ho1 hba
          have hbw2 := hbw1.trans (hba.mono hbw1.size)
          clear hba ho1 hbw1 hxe
          go_wp2_with (at_builtin; refine wpList_app rfl (.tmp 37) (.tmp 41) st_strs rfl w.heap.size rfl ho2 rfl hsl (STR_one _) (by simp [maxLen]; omega) (by omega) hbw2.size ?_)
          intro A9 c9 w5 ho9 hg9 _
          have hb9 := hbw2.trans ((grown_below ho2 hg9 hbw2.size).mono (Nat.le_refl _))
          clear ho2 hbw2 hsl hg9
          rw [show STR L ++ STR [(bl x).take 1] = STR (L ++ [(bl x).take 1]) by simp [STR], show L.length + 1 = (L ++ [(bl x).take 1]).length by simp] at ho9
          go_wp2_with fail
          go_light
          refine ⟨⟨k + 1, L ++ [(bl x).take 1], A9, c9, by omega, by simp; omega, by go_num, by simp, HNX.out, ho9, hb9⟩, by simp [intOf]; omega⟩
        | false =>
          rw [hsg] at HI
          have h2 : Lib.indexByte [123, 125, 59] c0 < 0 := by simpa using HI.out
          generalize Lib.indexByte [123, 125, 59] c0 = z at *
          cases hin : LX.inW c0 with
          | true =>
            have hw2 : 0 < LX.wordLen (bl x) := by rw [HCR.out, LX.wordLen_cons c0 r0 hin]; omega
            by_cases h31 : LX.wordLen (bl x) ≤ 31
            · have HNX : Hid (LX.run ((bl s).drop (k + LX.wordLen (bl x))) (k + LX.wordLen (bl x)) (L ++ [(bl x).take (LX.wordLen (bl x))]) = R) := by
                show _ = _
                rw [← HX.out, ← HD.out, HCR.out]
                exact (LX.run_word c0 r0 k L hin (by rw [← HCR.out]; exact h31)).symm
              generalize LX.wordLen (bl x) = n at *
              have t0 : ((n : Int) == 0) = false := by rw [beq_eq_false_iff_ne]; omega
              have hxe : x.extract 0 n = ⟨((bl x).take n).toArray⟩ := by
                conv => lhs; rw [bl_eq (x.extract 0 n)]
                rw [bl_ext]
                rfl
              have hsl : Sl (w3.alloc (.cells #[.string (x.extract 0 n)] 9)) 1 (.slice (some ⟨w3.heap.size, 0, none⟩) 1 1) (STR [(bl x).take n]) := own_sl (own_made w3 0 9 1 1 #[.string (x.extract 0 n)] (STR [(bl x).take n]) (Nat.zero_le _) (by rw [hxe]; rfl) rfl (by omega) (by omega))
              have hba := (Below.refl w3.heap.size w3).alloc (Nat.le_refl _) (.cells #[.string (x.extract 0 n)] 9)
              have ho2 := own_below ho1 hba
              have hbw2 := hbw1.trans (hba.mono hbw1.size)
              clear hba ho1 hbw1 hxe
              go_wp2_with (at_builtin; refine wpList_app rfl (.tmp 37) (.tmp 41) st_strs rfl w.heap.size rfl ho2 rfl hsl (STR_one _) (by simp [maxLen]; omega) (by omega) hbw2.size ?_)
              intro A9 c9 w5 ho9 hg9 _
              have hb9 := hbw2.trans ((grown_below ho2 hg9 hbw2.size).mono (Nat.le_refl _))
              clear ho2 hbw2 hsl hg9
              rw [show STR L ++ STR [(bl x).take n] = STR (L ++ [(bl x).take n]) by simp [STR], show L.length + 1 = (L ++ [(bl x).take n]).length by simp] at ho9
              go_wp2_with fail
              go_light
              refine ⟨⟨k + n, L ++ [(bl x).take n], A9, c9, by omega, by simp; omega, by go_num, by simp, HNX.out, ho9, hb9⟩, by simp [intOf]; omega⟩
            · have HE : Hid (R = ([], k, 3)) := by
                show _ = _
                rw [← HX.out, HCR.out]
                exact LX.run_long c0 r0 k L hin (by rw [← HCR.out]; omega)
              generalize LX.wordLen (bl x) = n at *
              have t0 : ((n : Int) == 0) = false := by rw [beq_eq_false_iff_ne]; omega
              go_wp2_with fail
              refine bodyPost_ret (v := .tuple #[.slice none 0 0, .int .i64 k, .int .i64 3]) (by simp [results, Tryz.results36, go_sem]) rfl ⟨none, 0, ?_⟩
              rw [HE.out]
              exact ⟨rfl, own_nilE _ _ _ _, hbw1⟩
          | false =>
            have hw2 : LX.wordLen (bl x) = 0 := by rw [HCR.out, LX.wordLen_no c0 r0 hin]
            have HE : Hid (R = ([], k, 3)) := by
              show _ = _
              rw [← HX.out, HCR.out]
              exact LX.run_bad c0 r0 k L hblk h35 hsg hin
            rw [hw2]
            go_wp2_with fail
            refine bodyPost_ret (v := .tuple #[.slice none 0 0, .int .i64 k, .int .i64 3]) (by simp [results, Tryz.results36, go_sem]) rfl ⟨none, 0, ?_⟩
            rw [HE.out]
            exact ⟨rfl, own_nilE _ _ _ _, hbw1⟩
    · obtain rfl : k = s.size := by omega
      have HE : Hid (R = (L, s.size, 0)) := by
        show _ = _
        rw [← HX.out, List.drop_of_length_le (by rw [bl_len]; omega), LX.run_nil]
      go_wp2_with fail
      refine bodyPost_ret (v := .tuple #[.slice A L.length c, .int .i64 s.size, .int .i64 0]) (by simp [results, Tryz.results36, go_sem]) rfl ⟨A, c, ?_⟩
      rw [HE.out]
      exact ⟨rfl, ho, hb⟩
end Go.Proofs.YtfojgimficdjhaaGreatDoor
