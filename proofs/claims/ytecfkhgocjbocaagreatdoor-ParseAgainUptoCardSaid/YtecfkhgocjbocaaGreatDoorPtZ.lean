/-
  Contract of lex.Words (beside XSx1 .. XSx5: a seat with schema AND lex.Words).
  Contracts of package parse: line, path.
  Contracts of package parse: counted, read, Read.
  Contract of package parse: Read.
  Contract of package parse: Read.
  A region that draws its order, walked once (XReg), with loud operations that READ a label's facts without taking the label over.
  The reader of a whole text: plain.
  The reader of a whole text, in memory; contract of package parse: sees.
  Contracts of package parse: begin.
  Contract of package parse: set.
  Contract of package parse: step.
  Contract of package parse: Text.
  The reader as the reference has it (plain); contract of layer 6's law: reads.
  Contract of layer 6's reference: Text.
-/
import Derived.Test.YtecfkhgocjbocaaGreatDoorSx5
import Derived.Test.YtecfkhgocjbocaaGreatDoorSc0
import Derived.Test.YtecfkhgocjbocaaGreatDoorPr2
import Derived.Test.YtecfkhgocjbocaaGreatDoorWb
import Derived.Test.YtecfkhgocjbocaaGreatDoorWh
import Derived.Test.YtecfkhgocjbocaaGreatDoorCzA
import Derived.Deep.MidRow
import Derived.Deep.RegionWith
namespace Go.Proofs.YtecfkhgocjbocaaGreatDoor
set_option linter.unusedVariables false
set_option linter.unusedSimpArgs false
open Go Go.RowKit

theorem trimLeft_any (s : ByteArray) (w : World) : Calls Tryz.prog 128 #[.string s, .string ⟨#[32, 9, 10]⟩] w fun e w' => e = .returned (.string ⟨(Lib.trimLeftS s.data.toList [32, 9, 10]).toArray⟩) ∧ Below w.heap.size w w' :=
  Any.strings_TrimLeft_laid Tryz.lays161 (by kernel_rfl) s ⟨#[32, 9, 10]⟩ w (by decide) (ascii_of_all (by decide))
theorem trimLeft_blk (l : List UInt8) : Lib.trimLeftS l [32, 9, 10] = l.dropWhile LX.blk := by
  unfold Lib.trimLeftS
  congr 1
  funext c
  have h := fun (n : Nat) (hn : n < 256) (k : UInt8) (hk : k.toNat = n) => (show c = k ↔ c.toNat = n by rw [← UInt8.toNat_inj, hk])
  have h1 := h 32 (by omega) 32 rfl
  have h2 := h 9 (by omega) 9 rfl
  have h3 := h 10 (by omega) 10 rfl
  rw [Bool.eq_iff_iff]
  simp [LX.blk, h1, h2, h3, or_assoc]
set_option maxRecDepth 100000 in
set_option maxHeartbeats 400000 in
theorem skip_any (s : ByteArray) (w : World) (hs : s.size ≤ 9223372036854775807) (h0 : 0 < s.size) : Calls Tryz.prog 105 #[.string s] w fun e w' => e = .returned (.int .i64 (skipN (bl s) : Nat)) ∧ Below w.heap.size w w' := by
  have hg := bl_get s 0 h0
  have HN := hid (noteLen_eq (bl s))
  have HL := hid (bl_len s)
  by_cases h35 : s[0].toNat = 35
  · have t : ((s[0].toNat : Int) != 35) = false := by simp [h35]
    have HK : Hid (skipN (bl s) = LX.noteLen (bl s)) := by show _ = _; unfold skipN; rw [← hg.out, if_pos h35]
    go_enter Tryz.func105, Tryz.ntmps105
    go_wp2_with fail
    refine (ix_any s 10 w).mono ?_
    rintro e w' ⟨rfl, rfl⟩
    generalize hz : Lib.indexByte s.data.toList 10 = z at *
    go_wp2_with fail
    all_goals
      go_ret
      refine ⟨ret_int ?_, Below.refl _ _⟩
      rw [HK.out, HN.out]
    · rw [if_pos (by assumption)]
    · rw [if_neg (by omega), HL.out]
  · have t : ((s[0].toNat : Int) != 35) = true := by rw [bne_iff_ne]; omega
    have HK : Hid (skipN (bl s) = ((bl s).takeWhile LX.blk).length) := by show _ = _; unfold skipN; rw [← hg.out, if_neg h35]
    have HT := hid (trimLeft_blk (bl s))
    have HD : Hid (s.size = ((bl s).takeWhile LX.blk).length + ((bl s).dropWhile LX.blk).length) := by
      show _ = _
      rw [← bl_len, ← List.length_append, List.takeWhile_append_dropWhile]
    go_enter Tryz.func105, Tryz.ntmps105
    go_wp2_with fail
    refine (trimLeft_any s w).mono ?_
    rintro e w' ⟨rfl, hb⟩
    rw [HT.out]
    generalize hx : (bl s).dropWhile LX.blk = x at *
    have hd := HD.out
    have hxs : (ByteArray.mk x.toArray).size = x.length := by show x.toArray.size = _; simp
    go_wp2_with fail
    go_ret
    refine ⟨ret_int ?_, hb⟩
    rw [HK.out]
set_option maxRecDepth 100000 in
set_option maxHeartbeats 1600000 in
theorem words_any (s : ByteArray) (w : World) (hs : s.size ≤ 2000000) : Calls Tryz.prog 79 #[.string s] w fun e w' => ∃ A c, e = .returned (.tuple #[.slice A (LX.run (bl s) 0 []).1.length c, .int .i64 (LX.run (bl s) 0 []).2.1, .int .i64 (LX.run (bl s) 0 []).2.2]) ∧
      w'.ownsRow w.heap.size 9 1 (.slice A (LX.run (bl s) 0 []).1.length c) (LX.run (bl s) 0 []).1.length (STR (LX.run (bl s) 0 []).1) ∧ Below w.heap.size w w' := by
  obtain ⟨R, hR⟩ : ∃ R, LX.run (bl s) 0 [] = R := ⟨_, rfl⟩
  rw [hR]
  have HR := hid hR
  clear hR
  go_enter Tryz.func79, Tryz.ntmps79
  go_wp2_with fail
  go_loopw [5, 6] (fun v i wr => ∃ (k : Nat) (L : List (List UInt8)) (A : Option Addr) (c : Nat), k ≤ s.size ∧ L.length ≤ k ∧ i = .int .i64 k ∧ v = .slice A L.length c ∧ LX.run ((bl s).drop k) k L = R ∧ wr.ownsRow w.heap.size 9 1 (.slice A L.length c) L.length (STR L) ∧ Below w.heap.size w wr) (fun _ i _ => s.size - (intOf i).toNat)
  case atStart => exact ⟨0, [], none, 0, Nat.zero_le _, by simp, rfl, rfl, HR.out, own_nilE _ _ _ _, Below.refl _ _⟩
  case round =>
    obtain ⟨k, L, A, c, hk, hLk, rfl, rfl, hrun, ho, hb⟩ := hrel
    have HX := hid hrun
    clear hrun HR
    by_cases hlt : k < s.size
    · have hxs : (s.extract k s.size).size = s.size - k := by rw [← bl_len, bl_ext, List.length_take, List.length_drop, bl_len]; omega
      have HXB : Hid (bl (s.extract k s.size) = (bl s).drop k) := by
        show _ = _
        rw [bl_ext]
        exact List.take_of_length_le (by rw [List.length_drop, bl_len]; omega)
      go_wp2_with fail
      generalize s.extract k s.size = x at *
      have HL := hid (bl_len x)
      rw [← HXB.out] at HX
      have hsk := skipN_le (bl x)
      rw [HL.out] at hsk
      have hsrun := skip_run (bl x) k L
      have hsz := skip_zero
      refine (skip_any x wr (by omega) (by omega)).mono ?_
      rintro e w1 ⟨rfl, hb1⟩
      have ho1 := own_below ho hb1
      have hbw1 := hb.trans (hb1.mono hb.size)
      clear ho hb hb1
      have HD : Hid (∀ n, (bl x).drop n = (bl s).drop (k + n)) := by
        show ∀ n, _
        intro n
        rw [HXB.out, List.drop_drop]
      by_cases h0 : 0 < skipN (bl x)
      · rw [HX.out, HD.out] at hsrun
        have HS := hid hsrun
        clear hsrun hsz HX HXB HD
        generalize hn : skipN (bl x) = n at *
        clear hn
        go_wp2_with fail
        go_light
        exact ⟨⟨k + n, L, A, c, by omega, by omega, by go_num, rfl, HS.out.symm, ho1, hbw1⟩, by simp [intOf]; omega⟩
      · have h00 : skipN (bl x) = 0 := by omega
        rw [h00]
        obtain ⟨c0, r0, hcr⟩ : ∃ c0 r0, bl x = c0 :: r0 := by
          cases hbx : bl x with
          | nil => have := HL.out; rw [hbx] at this; simp at this; omega
          | cons c0 r0 => exact ⟨c0, r0, rfl⟩
        have hx0 := bl_get x 0 (by omega)
        have hx00 : x[0] = c0 := by rw [hx0.out, hcr]; rfl
        have HX0 := hid hx00
        rw [hcr] at h00
        obtain ⟨hblk, h35⟩ := hsz c0 r0 h00
        rw [hcr] at hsk
        have HI := hid (sgn_ix c0)
        have HCR := hid hcr
        have hw1 := wl_le (bl x)
        rw [HL.out] at hw1
        clear hsrun hsz hx0 hx00 hcr h0 hsk h00
        go_wp2_with fail
        refine (word_any x w1 (by omega)).mono ?_
        rintro e w2 ⟨rfl, rfl⟩
        go_wp2_with fail
        rw [HX0.out]
        refine (ix_any _ c0 w2).mono ?_
        rintro e w3 ⟨rfl, rfl⟩
        cases hsg : LX.sgn c0 with
        | true =>
          rw [hsg] at HI
          have h2 : 0 ≤ Lib.indexByte [123, 125, 59] c0 := by simpa using HI.out
          generalize Lib.indexByte [123, 125, 59] c0 = z at *
          have HNX : Hid (LX.run ((bl s).drop (k + 1)) (k + 1) (L ++ [(bl x).take 1]) = R) := by
            show _ = _
            rw [← HX.out, ← HD.out, HCR.out]
            exact (LX.run_sgn c0 r0 k L hsg).symm
          have hxe : x.extract 0 1 = ⟨((bl x).take 1).toArray⟩ := by
            conv => lhs; rw [bl_eq (x.extract 0 1)]
            rw [bl_ext]
            rfl
          have hsl : Sl (w3.alloc (.cells #[.string (x.extract 0 1)] 9)) 1 (.slice (some ⟨w3.heap.size, 0, none⟩) 1 1) (STR [(bl x).take 1]) := own_sl (own_made w3 0 9 1 1 #[.string (x.extract 0 1)] (STR [(bl x).take 1]) (Nat.zero_le _) (by rw [hxe]; rfl) rfl (by omega) (by omega))
          have hba := (Below.refl w3.heap.size w3).alloc (Nat.le_refl _) (.cells #[.string (x.extract 0 1)] 9)
          have ho2 := own_below ho1 hba
          have hbw2 := hbw1.trans (hba.mono hbw1.size)
          clear hba ho1 hbw1 hxe
          go_wp2_with (at_builtin; refine wpList_app rfl (.tmp 37) (.tmp 41) st_strs rfl w.heap.size rfl ho2 rfl hsl (STR_one _) (by simp [maxLen]; omega) (by omega) hbw2.size ?_)
          intro A9 c9 w5 ho9 hg9 _
          have hb9 := hbw2.trans ((grown_below ho2 hg9 hbw2.size).mono (Nat.le_refl _))
          clear ho2 hbw2 hsl hg9
          rw [show STR L ++ STR [(bl x).take 1] = STR (L ++ [(bl x).take 1]) by simp [STR], show L.length + 1 = (L ++ [(bl x).take 1]).length by simp] at ho9
          go_wp2_with fail
          go_light
          refine ⟨⟨k + 1, L ++ [(bl x).take 1], A9, c9, by omega, by simp; omega, by go_num, by simp, HNX.out, ho9, hb9⟩, by simp [intOf]; omega⟩
        | false =>
          rw [hsg] at HI
          have h2 : Lib.indexByte [123, 125, 59] c0 < 0 := by simpa using HI.out
          generalize Lib.indexByte [123, 125, 59] c0 = z at *
          cases hin : LX.inW c0 with
          | true =>
            have hw2 : 0 < LX.wordLen (bl x) := by rw [HCR.out, LX.wordLen_cons c0 r0 hin]; omega
            by_cases h31 : LX.wordLen (bl x) ≤ 31
            · have HNX : Hid (LX.run ((bl s).drop (k + LX.wordLen (bl x))) (k + LX.wordLen (bl x)) (L ++ [(bl x).take (LX.wordLen (bl x))]) = R) := by
                show _ = _
                rw [← HX.out, ← HD.out, HCR.out]
                exact (LX.run_word c0 r0 k L hin (by rw [← HCR.out]; exact h31)).symm
              generalize LX.wordLen (bl x) = n at *
              have t0 : ((n : Int) == 0) = false := by rw [beq_eq_false_iff_ne]; omega
              have hxe : x.extract 0 n = ⟨((bl x).take n).toArray⟩ := by
                conv => lhs; rw [bl_eq (x.extract 0 n)]
                rw [bl_ext]
                rfl
              have hsl : Sl (w3.alloc (.cells #[.string (x.extract 0 n)] 9)) 1 (.slice (some ⟨w3.heap.size, 0, none⟩) 1 1) (STR [(bl x).take n]) := own_sl (own_made w3 0 9 1 1 #[.string (x.extract 0 n)] (STR [(bl x).take n]) (Nat.zero_le _) (by rw [hxe]; rfl) rfl (by omega) (by omega))
              have hba := (Below.refl w3.heap.size w3).alloc (Nat.le_refl _) (.cells #[.string (x.extract 0 n)] 9)
              have ho2 := own_below ho1 hba
              have hbw2 := hbw1.trans (hba.mono hbw1.size)
              clear hba ho1 hbw1 hxe
              go_wp2_with (at_builtin; refine wpList_app rfl (.tmp 37) (.tmp 41) st_strs rfl w.heap.size rfl ho2 rfl hsl (STR_one _) (by simp [maxLen]; omega) (by omega) hbw2.size ?_)
              intro A9 c9 w5 ho9 hg9 _
              have hb9 := hbw2.trans ((grown_below ho2 hg9 hbw2.size).mono (Nat.le_refl _))
              clear ho2 hbw2 hsl hg9
              rw [show STR L ++ STR [(bl x).take n] = STR (L ++ [(bl x).take n]) by simp [STR], show L.length + 1 = (L ++ [(bl x).take n]).length by simp] at ho9
              go_wp2_with fail
              go_light
              refine ⟨⟨k + n, L ++ [(bl x).take n], A9, c9, by omega, by simp; omega, by go_num, by simp, HNX.out, ho9, hb9⟩, by simp [intOf]; omega⟩
            · have HE : Hid (R = ([], k, 3)) := by
                show _ = _
                rw [← HX.out, HCR.out]
                exact LX.run_long c0 r0 k L hin (by rw [← HCR.out]; omega)
              generalize LX.wordLen (bl x) = n at *
              have t0 : ((n : Int) == 0) = false := by rw [beq_eq_false_iff_ne]; omega
              go_wp2_with fail
              refine bodyPost_ret (v := .tuple #[.slice none 0 0, .int .i64 k, .int .i64 3]) (by simp [results, Tryz.results79, go_sem]) rfl ⟨none, 0, ?_⟩
              rw [HE.out]
              exact ⟨rfl, own_nilE _ _ _ _, hbw1⟩
          | false =>
            have hw2 : LX.wordLen (bl x) = 0 := by rw [HCR.out, LX.wordLen_no c0 r0 hin]
            have HE : Hid (R = ([], k, 3)) := by
              show _ = _
              rw [← HX.out, HCR.out]
              exact LX.run_bad c0 r0 k L hblk h35 hsg hin
            rw [hw2]
            go_wp2_with fail
            refine bodyPost_ret (v := .tuple #[.slice none 0 0, .int .i64 k, .int .i64 3]) (by simp [results, Tryz.results79, go_sem]) rfl ⟨none, 0, ?_⟩
            rw [HE.out]
            exact ⟨rfl, own_nilE _ _ _ _, hbw1⟩
    · obtain rfl : k = s.size := by omega
      have HE : Hid (R = (L, s.size, 0)) := by
        show _ = _
        rw [← HX.out, List.drop_of_length_le (by rw [bl_len]; omega), LX.run_nil]
      go_wp2_with fail
      refine bodyPost_ret (v := .tuple #[.slice A L.length c, .int .i64 s.size, .int .i64 0]) (by simp [results, Tryz.results79, go_sem]) rfl ⟨A, c, ?_⟩
      rw [HE.out]
      exact ⟨rfl, ho, hb⟩
end Go.Proofs.YtecfkhgocjbocaaGreatDoor
namespace Go.Proofs.YtecfkhgocjbocaaGreatDoor
set_option linter.unusedVariables false
set_option linter.unusedSimpArgs false
open Go Go.RowKit

/-- a line and whether it can be -/
def LinePost (x : Option Ln) (e : Ending) : Prop := ∃ l b, e = .returned (.tuple #[.agg (lnV l), .bool b]) ∧ (if b = true then some l else none) = x
theorem i4 : (Tryz.prog.info? 29).map (·.size) = some 4 := by kernel_rfl
theorem i8 : (Tryz.prog.info? 93).map (·.size) = some 8 := by kernel_rfl
theorem grown1 {w w0 wz : World} {g : Nat} (hb : Below w.heap.size w w0) (hg : w0.grownBy wz (some g)) (h : w.heap.size ≤ g) : Below w.heap.size w wz := hb.trans ((Below.refl w.heap.size w0).grown hg hb.size (by intro k hk; injection hk with hk; omega))
theorem findR_kind (head : Int) (name : List UInt8) : (findR head name).1.kind = 0 ∨ (findR head name).1.kind = 1 ∨ (findR head name).1.kind = 2 ∨ (findR head name).1.kind = 3 ∨ (findR head name).1.kind = 4 := by
  unfold findR
  cases hf : TAB.find? (isR head name) with
  | none => exact .inl rfl
  | some r =>
    obtain ⟨j, hj, he⟩ := List.getElem_of_mem (List.mem_of_find?_eq_some hf)
    have := tab_kind j
    unfold tabAt at this
    rw [List.getD_eq_getElem?_getD, List.getElem?_eq_getElem hj, he] at this
    exact this
theorem namedW_sub (L : List (List UInt8)) (l : Ln) (r : List (List UInt8)) (h : namedW L = some (l, r)) : ∀ x ∈ r, x ∈ L := by
  unfold namedW at h
  split at h
  · injection h with h; injection h with _ h; subst h; intro x hx; exact hx
  · split at h
    · injection h with h; injection h with _ h; subst h; intro x hx; exact hx
    · split at h
      · cases h
      · split at h
        · injection h with h; injection h with _ h; subst h; intro x hx; exact List.mem_cons_of_mem _ (List.mem_cons_of_mem _ hx)
        · cases h
-- the line lies in a block of its own: w2, block g
set_option maxRecDepth 100000 in
set_option maxHeartbeats 1600000 in
theorem line_none (L : List (List UInt8)) (A : Option Addr) (n c : Nat) (w : World) (h : Sl w 1 (.slice A n c) (STR L)) (hL : ∀ x ∈ L, x.length ≤ 2000000) (hen : Env w) (hN : namedW L = none) :
    Calls Tryz.prog 134 #[.slice A n c] w fun e w' => LinePost none e ∧ Below w.heap.size w w' := by
  have HNM : Hid (∀ w', Below w.heap.size w w' → Calls Tryz.prog 131 #[.slice A n c] w' fun e w'' => NamedPost L e w'' ∧ Below w'.heap.size w' w'') := fun w' hb => pnamed_any L A n c w' (h.below hb) hL (hen.below hb)
  have HN := hid hN
  have HEN := hid hen
  clear hN h hL hen
  obtain ⟨hb0, hx0, hl0⟩ := box1 w (.cells #[.int .i64 0, .string ⟨#[]⟩, .string ⟨#[]⟩, .string ⟨#[]⟩] 29)
  go_enter Tryz.func134, Tryz.ntmps134
  go_upto_region 1 with fail
  generalize w.alloc (.cells #[.int .i64 0, .string ⟨#[]⟩, .string ⟨#[]⟩, .string ⟨#[]⟩] 29) = w0 at *
  go_wp2_with fail
  refine (HNM.out w0 hb0).mono ?_
  rintro e w1 ⟨hnp, hb1⟩
  unfold NamedPost at hnp
  rw [HN.out] at hnp
  replace hx0 := blk_below hx0 hb1 hl0
  replace hb0 := hb0.trans (hb1.mono hb0.size)
  clear hb1 HNM HN hl0
  subst hnp
  obtain ⟨hb2, hg2, hl2⟩ := box1 w1 (.cells (lnV ln0) 29)
  have hx2 := blk_below hx0 hb2 (blk_lt hx0)
  have hbw2 := hb0.trans (hb2.mono hb0.size)
  have hlt0 := blk_lt hx0
  have hge := hb0.size
  go_upto_region 2 with (refine wpList_store_last rfl 29 (.tmp 4) (.tmp 12) rfl (lnV ln0) rfl rfl i4 rfl (lnV_one _) ?_)
  generalize w1.alloc (.cells (lnV ln0) 29) = w2 at *
  clear hx0 hb0
  go_wp2_with (refine wpList_store_whole rfl 29 (.tmp 2) (.tmp 22) rfl (lnV ln0) rfl rfl hx2 i4 rfl (lnV_one _) ?_)
  intro wz hgz hgrz
  have hbz := grown1 hbw2 hgrz (Nat.le_refl _)
  go_wp2_with fail
  exact ret_row2 (fn := Tryz.f134) (x := .bool false) (cs := lnV ln0) rfl rfl rfl hgz Tryz.underlying29 rfl i4 rfl ⟨⟨ln0, false, rfl, rfl⟩, hbz⟩
set_option maxRecDepth 100000 in
set_option maxHeartbeats 1600000 in
theorem line_odd (L : List (List UInt8)) (A : Option Addr) (n c : Nat) (w : World) (h : Sl w 1 (.slice A n c) (STR L)) (hL : ∀ x ∈ L, x.length ≤ 2000000) (hen : Env w) (l : Ln) (r : List (List UInt8)) (hN : namedW L = some (l, r)) (hr : r.length ≠ 2) :
    Calls Tryz.prog 134 #[.slice A n c] w fun e w' => LinePost none e ∧ Below w.heap.size w w' := by
  have t2 : ((r.length : Int) != 2) = true := by rw [bne_iff_ne]; omega
  clear hr
  have HNM : Hid (∀ w', Below w.heap.size w w' → Calls Tryz.prog 131 #[.slice A n c] w' fun e w'' => NamedPost L e w'' ∧ Below w'.heap.size w' w'') := fun w' hb => pnamed_any L A n c w' (h.below hb) hL (hen.below hb)
  have HN := hid hN
  have HEN := hid hen
  clear hN h hL hen
  obtain ⟨hb0, hx0, hl0⟩ := box1 w (.cells #[.int .i64 0, .string ⟨#[]⟩, .string ⟨#[]⟩, .string ⟨#[]⟩] 29)
  go_enter Tryz.func134, Tryz.ntmps134
  go_upto_region 1 with fail
  generalize w.alloc (.cells #[.int .i64 0, .string ⟨#[]⟩, .string ⟨#[]⟩, .string ⟨#[]⟩] 29) = w0 at *
  go_wp2_with fail
  refine (HNM.out w0 hb0).mono ?_
  rintro e w1 ⟨hnp, hb1⟩
  unfold NamedPost at hnp
  rw [HN.out] at hnp
  replace hx0 := blk_below hx0 hb1 hl0
  replace hb0 := hb0.trans (hb1.mono hb0.size)
  clear hb1 HNM HN hl0
  obtain ⟨A', c', rfl, hs⟩ := hnp
  obtain ⟨hb2, hg2, hl2⟩ := box1 w1 (.cells (lnV l) 29)
  have hx2 := blk_below hx0 hb2 (blk_lt hx0)
  have hbw2 := hb0.trans (hb2.mono hb0.size)
  have hlt0 := blk_lt hx0
  have hge := hb0.size
  go_upto_region 2 with (refine wpList_store_last rfl 29 (.tmp 4) (.tmp 12) rfl (lnV l) rfl rfl i4 rfl (lnV_one _) ?_)
  generalize w1.alloc (.cells (lnV l) 29) = w2 at *
  clear hx0 hb0
  go_wp2_with (refine wpList_store_whole rfl 29 (.tmp 2) (.tmp 22) rfl (lnV ln0) rfl rfl hx2 i4 rfl (lnV_one _) ?_)
  intro wz hgz hgrz
  have hbz := grown1 hbw2 hgrz (Nat.le_refl _)
  go_wp2_with fail
  exact ret_row2 (fn := Tryz.f134) (x := .bool false) (cs := lnV ln0) rfl rfl rfl hgz Tryz.underlying29 rfl i4 rfl ⟨⟨ln0, false, rfl, rfl⟩, hbz⟩
set_option maxRecDepth 100000 in
set_option maxHeartbeats 3200000 in
theorem line_two (L : List (List UInt8)) (A : Option Addr) (n c : Nat) (w : World) (h : Sl w 1 (.slice A n c) (STR L)) (hL : ∀ x ∈ L, x.length ≤ 2000000) (hen : Env w) (l : Ln) (leaf value : List UInt8) (hN : namedW L = some (l, [leaf, value])) (hlf : leaf.length ≤ 2000000) (hvl : value.length ≤ 2000000) :
    Calls Tryz.prog 134 #[.slice A n c] w fun e w' => LinePost (lineW L) e ∧ Below w.heap.size w w' := by
  have HLW : Hid (lineW L = if ((findR l.head leaf).2 && rightR (findR l.head leaf).1 value) = true then some ⟨l.head, l.name, leaf, value⟩ else none) := by
    show _ = _
    unfold lineW
    rw [hN]
  have HNM : Hid (∀ w', Below w.heap.size w w' → Calls Tryz.prog 131 #[.slice A n c] w' fun e w'' => NamedPost L e w'' ∧ Below w'.heap.size w' w'') := fun w' hb => pnamed_any L A n c w' (h.below hb) hL (hen.below hb)
  have HN := hid hN
  have HEN := hid hen
  clear hN h hL hen
  obtain ⟨hb0, hx0, hl0⟩ := box1 w (.cells #[.int .i64 0, .string ⟨#[]⟩, .string ⟨#[]⟩, .string ⟨#[]⟩] 29)
  go_enter Tryz.func134, Tryz.ntmps134
  go_upto_region 1 with fail
  generalize w.alloc (.cells #[.int .i64 0, .string ⟨#[]⟩, .string ⟨#[]⟩, .string ⟨#[]⟩] 29) = w0 at *
  go_wp2_with fail
  refine (HNM.out w0 hb0).mono ?_
  rintro e w1 ⟨hnp, hb1⟩
  unfold NamedPost at hnp
  rw [HN.out] at hnp
  replace hx0 := blk_below hx0 hb1 hl0
  replace hb0 := hb0.trans (hb1.mono hb0.size)
  clear hb1 HNM HN hl0
  obtain ⟨A', c', rfl, hs⟩ := hnp
  have hlen2 : [leaf, value].length = 2 := rfl
  rw [hlen2] at hs
  rw [hlen2]
  clear hlen2
  obtain ⟨b, off, rfl, hbl, p0⟩ := STR_cell hs (k := 0) (by omega)
  obtain ⟨b1, off1, he1, -, p1⟩ := STR_cell hs (k := 1) (by omega)
  injection he1 with he1
  injection he1 with he1 he2
  subst he1
  subst he2
  simp only [List.getD_cons_zero, List.getD_cons_succ, Nat.add_zero] at p0 p1
  clear hs
  obtain ⟨hb2, hg2, hl2⟩ := box1 w1 (.cells (lnV l) 29)
  have hx2 := blk_below hx0 hb2 (blk_lt hx0)
  have hbw2 := hb0.trans (hb2.mono hb0.size)
  have hlt0 := blk_lt hx0
  have hge := hb0.size
  go_upto_region 2 with (refine wpList_store_last rfl 29 (.tmp 4) (.tmp 12) rfl (lnV l) rfl rfl i4 rfl (lnV_one _) ?_)
  generalize w1.alloc (.cells (lnV l) 29) = w2 at *
  clear hx0 hb0
  have q0 := (hb2.cell (p := ⟨b, off, none⟩) hbl).trans p0
  have q1 := (hb2.cell (p := ⟨b, off + 1, none⟩) hbl).trans p1
  clear p0 p1 hb2
  have hbl2 : b < w2.heap.size := by omega
  go_wp2_with fail
  have y0 := fun (z : WK (fun b => b = w1.heap.size) w2) => (wat_cell (p := ⟨b, off, none⟩) hbl2 (fun e => by have e2 : b = w1.heap.size := e; omega) z).trans q0
  have y1 := fun (z : WK (fun b => b = w1.heap.size) w2) => (wat_cell (p := ⟨b, off + 1, none⟩) hbl2 (fun e => by have e2 : b = w1.heap.size := e; omega) z).trans q1
  clear q0 q1
  refine wp_region_loud (fun b => b = w1.heap.size) [(7, keepL [100] (BlkF w1.heap.size 29 (lnV ⟨l.head, l.name, leaf, l.value⟩))), (9, keepL [7] (BlkF w1.heap.size 29 (lnV ⟨l.head, l.name, leaf, value⟩)))] (labelled 100 (BlkF w1.heap.size 29 (lnV l))) (by kernel_rfl) (by kernel_rfl)
    (.cons (keepL_ok _ (good_blk _ _ _)) (.cons (keepL_ok _ (good_blk _ _ _)) .nil)) (good_one 100 (good_blk _ _ _)) (sat_one 100 _ (fun g hg => by have e2 : g = w1.heap.size := hg; omega) ⟨rfl, hg2⟩) (WX.out ?_)
  repeat (first | (refine wx_quietU (by rfl) (by rfl) (by rfl) (fun K hK => ?_); go_big_quiet_op; refine hK _ ?_; clear hK K) | (refine wx_quietG (by rfl) (by rfl) (by rfl) (by rfl) (by rfl) (fun K hK => ?_); go_big_quiet_op; refine hK _ ?_; clear hK K) | (refine wx_skipG (by rfl) (by rfl) (by rfl) (fun K hK => ?_); go_simp; refine hK _ ?_; clear hK K) | (refine wx_skipN (by rfl) (by rfl) (by rfl) (fun K hK => ?_); go_simp; refine hK _ ?_; clear hK K))
  refine wx_loudU (us := [100]) (by rfl) (by rfl) (fun S wS hC hS hU => ?_) (fun v hv K hK => ?_)
  · have hB : BlkF w1.heap.size 29 (lnV l) S wS := hU 100 (by simp)
    obtain ⟨hc, hf⟩ := blkF_cells hB
    exact runs_skip (by go_simp <;> rfl) ⟨trivial, (blkF_set (i := 2) hB (.string (S8 leaf))).1, (blkF_set (i := 2) hB (.string (S8 leaf))).2⟩
  (go_simp; refine hK _ ?_; clear hK K)
  repeat (first | (refine wx_quietU (by rfl) (by rfl) (by rfl) (fun K hK => ?_); go_big_quiet_op; refine hK _ ?_; clear hK K) | (refine wx_quietG (by rfl) (by rfl) (by rfl) (by rfl) (by rfl) (fun K hK => ?_); go_big_quiet_op; refine hK _ ?_; clear hK K) | (refine wx_skipG (by rfl) (by rfl) (by rfl) (fun K hK => ?_); go_simp; refine hK _ ?_; clear hK K) | (refine wx_skipN (by rfl) (by rfl) (by rfl) (fun K hK => ?_); go_simp; refine hK _ ?_; clear hK K))
  refine wx_loudU (us := [7]) (by rfl) (by rfl) (fun S wS hC hS hU => ?_) (fun v hv K hK => ?_)
  · have hB : BlkF w1.heap.size 29 (lnV ⟨l.head, l.name, leaf, l.value⟩) S wS := hU 7 (by simp)
    obtain ⟨hc, hf⟩ := blkF_cells hB
    exact runs_skip (by go_simp <;> rfl) ⟨trivial, (blkF_set (i := 3) hB (.string (S8 value))).1, (blkF_set (i := 3) hB (.string (S8 value))).2⟩
  (go_simp; refine hK _ ?_; clear hK K)
  repeat (first | (refine wx_quietU (by rfl) (by rfl) (by rfl) (fun K hK => ?_); go_big_quiet_op; refine hK _ ?_; clear hK K) | (refine wx_quietG (by rfl) (by rfl) (by rfl) (by rfl) (by rfl) (fun K hK => ?_); go_big_quiet_op; refine hK _ ?_; clear hK K) | (refine wx_skipG (by rfl) (by rfl) (by rfl) (fun K hK => ?_); go_simp; refine hK _ ?_; clear hK K) | (refine wx_skipN (by rfl) (by rfl) (by rfl) (fun K hK => ?_); go_simp; refine hK _ ?_; clear hK K))
  refine wx_nil fun w3 hsat => ?_
  obtain ⟨S9, hS9, hF9⟩ := sat_get hsat 9
  have hg3 := (show BlkF w1.heap.size 29 (lnV ⟨l.head, l.name, leaf, value⟩) S9 w3 from hF9).2
  have hx3 := (hsat.1.block w.heap.size (by omega) (fun e => by have e2 : w.heap.size = w1.heap.size := e; omega)).trans hx2
  have hbw3 := hbw2.trans (hsat.1.below_of (B := w.heap.size) (by omega) (fun g hg => by have e2 : g = w1.heap.size := hg; omega))
  have hs13 := hsat.1.size
  clear hsat hF9 hS9 y0 y1 hg2 hx2 hbw2 hbl2
  have c0 : w3.cell? ⟨w1.heap.size, 0, none⟩ = some (.int .i64 l.head) := blkCell hg3 0
  have c2 : w3.cell? ⟨w1.heap.size, 2, none⟩ = some (.string (S8 leaf)) := blkCell hg3 2
  have hF := find_new l.head (S8 leaf) w3
  rw [bl_S8] at hF
  have hfk := findR_kind l.head leaf
  have hfc := findR_cho l.head leaf
  generalize findR l.head leaf = FR at *
  obtain ⟨row, fb⟩ := FR
  simp only at hF HLW hfk hfc
  have HF := hid hF
  clear hF
  go_wp2_with fail
  refine HF.out.mono ?_
  rintro e w4 ⟨Aq, rfl, hb4, hch, hcf⟩
  clear HF c0 c2
  have hg4 := blk_below hg3 hb4 (by omega)
  have hx4 := blk_below hx3 hb4 (by omega)
  have hbw4 := hbw3.trans (hb4.mono hbw3.size)
  have hs34 := hb4.size
  clear hg3 hx3 hbw3 hb4
  have hi8 : (Tryz.prog.info? 93).map (·.size) = some (rwV row Aq).size := i8
  obtain ⟨hb5, hr5, hl5⟩ := box1 w4 (.cells (rwV row Aq) 93)
  have hg5 := blk_below hg4 hb5 (by omega)
  have hx5 := blk_below hx4 hb5 (by omega)
  have hbw5 := hbw4.trans (hb5.mono hbw4.size)
  replace hch := hch.below hb5
  go_upto_region 6 with (refine wpList_store_last rfl 93 (.tmp 7) (.tmp 37) rfl (rwV row Aq) rfl rfl hi8 rfl (rwV_one _ _) ?_)
  generalize w4.alloc (.cells (rwV row Aq) 93) = w5 at *
  clear hg4 hx4 hbw4 hb5
  have hen5 := HEN.out.below hbw5
  have c3 : w5.cell? ⟨w1.heap.size, 3, none⟩ = some (.string (S8 value)) := blkCell hg5 3
  have y3 := fun (z : WK (fun b => b = w.heap.size) w5) => (wat_cell (p := ⟨w1.heap.size, 3, none⟩) (by show w1.heap.size < _; omega) (fun e => by have e2 : w1.heap.size = w.heap.size := e; omega) z).trans c3
  clear c3
  have hgl : ∀ wS, Kept (fun b => b = w.heap.size) w5 wS → wS.heap[w1.heap.size]? = some (.cells (lnV ⟨l.head, l.name, leaf, value⟩) 29 (0, 0)) := fun wS hC => (hC.block w1.heap.size (by omega) (fun e => by have e2 : w1.heap.size = w.heap.size := e; omega)).trans hg5
  have hrl : ∀ wS, Kept (fun b => b = w.heap.size) w5 wS → wS.heap[w4.heap.size]? = some (.cells (rwV row Aq) 93 (0, 0)) := fun wS hC => (hC.block w4.heap.size (by omega) (fun e => by have e2 : w4.heap.size = w.heap.size := e; omega)).trans hr5
  have HGL := hid hgl
  have HRL := hid hrl
  clear hgl hrl hg5 hr5
  have HRT : Hid (∀ wS, Kept (fun b => b = w.heap.size) w5 wS → Calls Tryz.prog 86 #[.agg (rwV row Aq), .string (S8 value)] wS fun e w' => e = .returned (.bool (rightR row value)) ∧ Below wS.heap.size wS w') := by
    intro wS hC
    have := right_any row Aq (S8 value) wS (by rw [S8_size]; omega) (HEN.out.below (hbw5.trans (hC.below_of (B := w.heap.size) (by omega) (fun g hg => by have e2 : g = w.heap.size := hg; omega)))) (sl_kept hch hC (fun ad had e => by have := hcf ad had; have e2 : ad.block = w.heap.size := e; omega)) (by omega) hfk
    rw [bl_S8] at this
    exact this
  clear hen5 hch hcf hfk hfc
  have hx9 := (hid hx5)
  have hl0 : w.heap.size < w5.heap.size := by omega
  have HL2 : Hid (l.head = l.head) := rfl
  generalize rightR row value = rb at *
  cases fb with
  | false =>
    have HF : Hid (lineW L = none) := by show _ = _; rw [HLW.out]; rfl
    clear HLW HRT HRL
    refine wp_region_loud (fun b => b = w.heap.size) [(0, plainL [] (.agg (lnV ⟨l.head, l.name, leaf, value⟩))), (8, keepL [100] (BlkF w.heap.size 29 (lnV ⟨l.head, l.name, leaf, value⟩)))] (labelled 100 (BlkF w.heap.size 29 #[.int .i64 0, .string ⟨#[]⟩, .string ⟨#[]⟩, .string ⟨#[]⟩])) (by kernel_rfl) (by kernel_rfl)
      (.cons (plainL_ok _ _) (.cons (keepL_ok _ (good_blk _ _ _)) .nil)) (good_one 100 (good_blk _ _ _)) (sat_one 100 _ (fun g hg => by have e2 : g = w.heap.size := hg; omega) ⟨rfl, hx5⟩) (WX.out ?_)
    clear hx5 hx9
    repeat (first | (refine wx_quietU (by rfl) (by rfl) (by rfl) (fun K hK => ?_); go_big_quiet_op; refine hK _ ?_; clear hK K) | (refine wx_quietG (by rfl) (by rfl) (by rfl) (by rfl) (by rfl) (fun K hK => ?_); go_big_quiet_op; refine hK _ ?_; clear hK K) | (refine wx_skipG (by rfl) (by rfl) (by rfl) (fun K hK => ?_); go_simp; refine hK _ ?_; clear hK K) | (refine wx_skipN (by rfl) (by rfl) (by rfl) (fun K hK => ?_); go_simp; refine hK _ ?_; clear hK K))
    refine wx_loudU (us := []) (by rfl) (by rfl) (fun S wS hC hS hU => ?_) (fun v hv K hK => ?_)
    · exact runs_load_whole 29 (.tmp 4) rfl w1.heap.size rfl 29 (lnV ⟨l.head, l.name, leaf, value⟩) (0, 0) _ (HGL.out wS hC) Tryz.underlying29 rfl i4 ⟨rfl, Kept.refl _ _, trivial⟩
    obtain rfl := hv; (go_simp; refine hK _ ?_; clear hK K)
    repeat (first | (refine wx_quietU (by rfl) (by rfl) (by rfl) (fun K hK => ?_); go_big_quiet_op; refine hK _ ?_; clear hK K) | (refine wx_quietG (by rfl) (by rfl) (by rfl) (by rfl) (by rfl) (fun K hK => ?_); go_big_quiet_op; refine hK _ ?_; clear hK K) | (refine wx_skipG (by rfl) (by rfl) (by rfl) (fun K hK => ?_); go_simp; refine hK _ ?_; clear hK K) | (refine wx_skipN (by rfl) (by rfl) (by rfl) (fun K hK => ?_); go_simp; refine hK _ ?_; clear hK K))
    refine wx_loudU (us := [100]) (by rfl) (by rfl) (fun S wS hC hS hU => ?_) (fun v hv K hK => ?_)
    · have hB : BlkF w.heap.size 29 #[.int .i64 0, .string ⟨#[]⟩, .string ⟨#[]⟩, .string ⟨#[]⟩] S wS := hU 100 (by simp)
      exact runs_store_whole 29 (.tmp 2) (.tmp 39) rfl (lnV ⟨l.head, l.name, leaf, value⟩) rfl rfl hB.2 i4 rfl (lnV_one _) ⟨trivial, kept_setRow wS w.heap.size _ hB.1, .inl hB.1, setRow_heap _ _ _ _ _ _ hB.2⟩
    (go_simp; refine hK _ ?_; clear hK K)
    repeat (first | (refine wx_quietU (by rfl) (by rfl) (by rfl) (fun K hK => ?_); go_big_quiet_op; refine hK _ ?_; clear hK K) | (refine wx_quietG (by rfl) (by rfl) (by rfl) (by rfl) (by rfl) (fun K hK => ?_); go_big_quiet_op; refine hK _ ?_; clear hK K) | (refine wx_skipG (by rfl) (by rfl) (by rfl) (fun K hK => ?_); go_simp; refine hK _ ?_; clear hK K) | (refine wx_skipN (by rfl) (by rfl) (by rfl) (fun K hK => ?_); go_simp; refine hK _ ?_; clear hK K))
    refine wx_nil fun wz hsat => ?_
    obtain ⟨S9, hS9, hF9⟩ := sat_get hsat 8
    have hgz := (show BlkF w.heap.size 29 (lnV ⟨l.head, l.name, leaf, value⟩) S9 wz from hF9).2
    have hbz := hbw5.trans (hsat.1.below_of (B := w.heap.size) (by omega) (fun g hg => by have e2 : g = w.heap.size := hg; omega))
    clear hsat hF9 hS9 y3
    go_wp2_with fail
    refine ret_row2 (fn := Tryz.f134) (cs := lnV ⟨l.head, l.name, leaf, value⟩) rfl rfl rfl hgz Tryz.underlying29 rfl i4 rfl ?_
    exact ⟨⟨_, _, rfl, HF.out.symm⟩, hbz⟩
  | true =>
    have HF : Hid (lineW L = if rb = true then some ⟨l.head, l.name, leaf, value⟩ else none) := by show _ = _; rw [HLW.out]; rfl
    clear HLW
    refine wp_region_loud (fun b => b = w.heap.size) [(0, plainL [] (.agg (lnV ⟨l.head, l.name, leaf, value⟩))), (3, plainL [] (.agg (rwV row Aq))), (6, plainL [] (.bool rb)), (8, keepL [100] (BlkF w.heap.size 29 (lnV ⟨l.head, l.name, leaf, value⟩)))] (labelled 100 (BlkF w.heap.size 29 #[.int .i64 0, .string ⟨#[]⟩, .string ⟨#[]⟩, .string ⟨#[]⟩])) (by kernel_rfl) (by kernel_rfl)
      (.cons (plainL_ok _ _) (.cons (plainL_ok _ _) (.cons (plainL_ok _ _) (.cons (keepL_ok _ (good_blk _ _ _)) .nil)))) (good_one 100 (good_blk _ _ _)) (sat_one 100 _ (fun g hg => by have e2 : g = w.heap.size := hg; omega) ⟨rfl, hx5⟩) (WX.out ?_)
    clear hx5 hx9
    repeat (first | (refine wx_quietU (by rfl) (by rfl) (by rfl) (fun K hK => ?_); go_big_quiet_op; refine hK _ ?_; clear hK K) | (refine wx_quietG (by rfl) (by rfl) (by rfl) (by rfl) (by rfl) (fun K hK => ?_); go_big_quiet_op; refine hK _ ?_; clear hK K) | (refine wx_skipG (by rfl) (by rfl) (by rfl) (fun K hK => ?_); go_simp; refine hK _ ?_; clear hK K) | (refine wx_skipN (by rfl) (by rfl) (by rfl) (fun K hK => ?_); go_simp; refine hK _ ?_; clear hK K))
    refine wx_loudU (us := []) (by rfl) (by rfl) (fun S wS hC hS hU => ?_) (fun v hv K hK => ?_)
    · exact runs_load_whole 29 (.tmp 4) rfl w1.heap.size rfl 29 (lnV ⟨l.head, l.name, leaf, value⟩) (0, 0) _ (HGL.out wS hC) Tryz.underlying29 rfl i4 ⟨rfl, Kept.refl _ _, trivial⟩
    obtain rfl := hv; (go_simp; refine hK _ ?_; clear hK K)
    repeat (first | (refine wx_quietU (by rfl) (by rfl) (by rfl) (fun K hK => ?_); go_big_quiet_op; refine hK _ ?_; clear hK K) | (refine wx_quietG (by rfl) (by rfl) (by rfl) (by rfl) (by rfl) (fun K hK => ?_); go_big_quiet_op; refine hK _ ?_; clear hK K) | (refine wx_skipG (by rfl) (by rfl) (by rfl) (fun K hK => ?_); go_simp; refine hK _ ?_; clear hK K) | (refine wx_skipN (by rfl) (by rfl) (by rfl) (fun K hK => ?_); go_simp; refine hK _ ?_; clear hK K))
    refine wx_loudG (us := []) (by rfl) (by rfl) (by rfl) (by rfl) (fun S wS hC hS hU => ?_) (fun v hv K hK => ?_)
    · exact runs_load_whole 93 (.tmp 7) rfl w4.heap.size rfl 93 (rwV row Aq) (0, 0) _ (HRL.out wS hC) Tryz.underlying93 rfl i8 ⟨rfl, Kept.refl _ _, trivial⟩
    obtain rfl := hv; (go_simp; refine hK _ ?_; clear hK K)
    repeat (first | (refine wx_quietU (by rfl) (by rfl) (by rfl) (fun K hK => ?_); go_big_quiet_op; refine hK _ ?_; clear hK K) | (refine wx_quietG (by rfl) (by rfl) (by rfl) (by rfl) (by rfl) (fun K hK => ?_); go_big_quiet_op; refine hK _ ?_; clear hK K) | (refine wx_skipG (by rfl) (by rfl) (by rfl) (fun K hK => ?_); go_simp; refine hK _ ?_; clear hK K) | (refine wx_skipN (by rfl) (by rfl) (by rfl) (fun K hK => ?_); go_simp; refine hK _ ?_; clear hK K))
    refine wx_loudG (us := []) (by rfl) (by rfl) (by rfl) (by rfl) (fun S wS hC hS hU => runs_enter (f := 86) (by go_simp <;> rfl) ?_) (fun v hv K hK => ?_)
    · refine (HRT.out wS hC).mono ?_
      rintro e w' ⟨rfl, hb⟩
      exact ⟨_, rfl, rfl, Kept.of_below hb, trivial⟩
    obtain rfl := hv; (go_simp; refine hK _ ?_; clear hK K)
    repeat (first | (refine wx_quietU (by rfl) (by rfl) (by rfl) (fun K hK => ?_); go_big_quiet_op; refine hK _ ?_; clear hK K) | (refine wx_quietG (by rfl) (by rfl) (by rfl) (by rfl) (by rfl) (fun K hK => ?_); go_big_quiet_op; refine hK _ ?_; clear hK K) | (refine wx_skipG (by rfl) (by rfl) (by rfl) (fun K hK => ?_); go_simp; refine hK _ ?_; clear hK K) | (refine wx_skipN (by rfl) (by rfl) (by rfl) (fun K hK => ?_); go_simp; refine hK _ ?_; clear hK K))
    refine wx_loudU (us := [100]) (by rfl) (by rfl) (fun S wS hC hS hU => ?_) (fun v hv K hK => ?_)
    · have hB : BlkF w.heap.size 29 #[.int .i64 0, .string ⟨#[]⟩, .string ⟨#[]⟩, .string ⟨#[]⟩] S wS := hU 100 (by simp)
      exact runs_store_whole 29 (.tmp 2) (.tmp 39) rfl (lnV ⟨l.head, l.name, leaf, value⟩) rfl rfl hB.2 i4 rfl (lnV_one _) ⟨trivial, kept_setRow wS w.heap.size _ hB.1, .inl hB.1, setRow_heap _ _ _ _ _ _ hB.2⟩
    (go_simp; refine hK _ ?_; clear hK K)
    repeat (first | (refine wx_quietU (by rfl) (by rfl) (by rfl) (fun K hK => ?_); go_big_quiet_op; refine hK _ ?_; clear hK K) | (refine wx_quietG (by rfl) (by rfl) (by rfl) (by rfl) (by rfl) (fun K hK => ?_); go_big_quiet_op; refine hK _ ?_; clear hK K) | (refine wx_skipG (by rfl) (by rfl) (by rfl) (fun K hK => ?_); go_simp; refine hK _ ?_; clear hK K) | (refine wx_skipN (by rfl) (by rfl) (by rfl) (fun K hK => ?_); go_simp; refine hK _ ?_; clear hK K))
    refine wx_nil fun wz hsat => ?_
    obtain ⟨S9, hS9, hF9⟩ := sat_get hsat 8
    have hgz := (show BlkF w.heap.size 29 (lnV ⟨l.head, l.name, leaf, value⟩) S9 wz from hF9).2
    have hbz := hbw5.trans (hsat.1.below_of (B := w.heap.size) (by omega) (fun g hg => by have e2 : g = w.heap.size := hg; omega))
    clear hsat hF9 hS9 y3
    go_wp2_with fail
    refine ret_row2 (fn := Tryz.f134) (cs := lnV ⟨l.head, l.name, leaf, value⟩) rfl rfl rfl hgz Tryz.underlying29 rfl i4 rfl ?_
    exact ⟨⟨_, _, rfl, HF.out.symm⟩, hbz⟩
theorem line_any (L : List (List UInt8)) (A : Option Addr) (n c : Nat) (w : World) (h : Sl w 1 (.slice A n c) (STR L)) (hL : ∀ x ∈ L, x.length ≤ 2000000) (hen : Env w) :
    Calls Tryz.prog 134 #[.slice A n c] w fun e w' => LinePost (lineW L) e ∧ Below w.heap.size w w' := by
  cases hN : namedW L with
  | none =>
    have := line_none L A n c w h hL hen hN
    unfold lineW
    rw [hN]
    exact this
  | some p =>
    obtain ⟨l, r⟩ := p
    have hsub := namedW_sub L l r hN
    match r, hsub with
    | [leaf, value], hsub => exact line_two L A n c w h hL hen l leaf value hN (hL _ (hsub _ (by simp))) (hL _ (hsub _ (by simp)))
    | [], hsub =>
      have := line_odd L A n c w h hL hen l [] hN (by simp)
      unfold lineW
      rw [hN]
      exact this
    | [x], hsub =>
      have := line_odd L A n c w h hL hen l [x] hN (by simp)
      unfold lineW
      rw [hN]
      exact this
    | x :: y :: z :: r, hsub =>
      have := line_odd L A n c w h hL hen l (x :: y :: z :: r) hN (by simp)
      unfold lineW
      rw [hN]
      exact this
set_option maxRecDepth 100000 in
set_option maxHeartbeats 1600000 in
theorem path_none (L : List (List UInt8)) (A : Option Addr) (n c : Nat) (w : World) (h : Sl w 1 (.slice A n c) (STR L)) (hL : ∀ x ∈ L, x.length ≤ 2000000) (hen : Env w) (hN : namedW L = none) :
    Calls Tryz.prog 135 #[.slice A n c] w fun e w' => LinePost none e ∧ Below w.heap.size w w' := by
  have HNM : Hid (∀ w', Below w.heap.size w w' → Calls Tryz.prog 131 #[.slice A n c] w' fun e w'' => NamedPost L e w'' ∧ Below w'.heap.size w' w'') := fun w' hb => pnamed_any L A n c w' (h.below hb) hL (hen.below hb)
  have HN := hid hN
  have HEN := hid hen
  clear hN h hL hen
  obtain ⟨hb0, hx0, hl0⟩ := box1 w (.cells #[.int .i64 0, .string ⟨#[]⟩, .string ⟨#[]⟩, .string ⟨#[]⟩] 29)
  go_enter Tryz.func135, Tryz.ntmps135
  go_upto_region 1 with fail
  generalize w.alloc (.cells #[.int .i64 0, .string ⟨#[]⟩, .string ⟨#[]⟩, .string ⟨#[]⟩] 29) = w0 at *
  go_wp2_with fail
  refine (HNM.out w0 hb0).mono ?_
  rintro e w1 ⟨hnp, hb1⟩
  unfold NamedPost at hnp
  rw [HN.out] at hnp
  replace hx0 := blk_below hx0 hb1 hl0
  replace hb0 := hb0.trans (hb1.mono hb0.size)
  clear hb1 HNM HN hl0
  subst hnp
  obtain ⟨hb2, hg2, hl2⟩ := box1 w1 (.cells (lnV ln0) 29)
  have hx2 := blk_below hx0 hb2 (blk_lt hx0)
  have hbw2 := hb0.trans (hb2.mono hb0.size)
  have hlt0 := blk_lt hx0
  have hge := hb0.size
  go_upto_region 2 with (refine wpList_store_last rfl 29 (.tmp 4) (.tmp 12) rfl (lnV ln0) rfl rfl i4 rfl (lnV_one _) ?_)
  generalize w1.alloc (.cells (lnV ln0) 29) = w2 at *
  clear hx0 hb0
  go_wp2_with (refine wpList_store_whole rfl 29 (.tmp 2) (.tmp 18) rfl (lnV ln0) rfl rfl hx2 i4 rfl (lnV_one _) ?_)
  intro wz hgz hgrz
  have hbz := grown1 hbw2 hgrz (Nat.le_refl _)
  go_wp2_with fail
  exact ret_row2 (fn := Tryz.f135) (x := .bool false) (cs := lnV ln0) rfl rfl rfl hgz Tryz.underlying29 rfl i4 rfl ⟨⟨ln0, false, rfl, rfl⟩, hbz⟩
set_option maxRecDepth 100000 in
set_option maxHeartbeats 1600000 in
theorem path_more (L : List (List UInt8)) (A : Option Addr) (n c : Nat) (w : World) (h : Sl w 1 (.slice A n c) (STR L)) (hL : ∀ x ∈ L, x.length ≤ 2000000) (hen : Env w) (l : Ln) (r : List (List UInt8)) (hN : namedW L = some (l, r)) (hr : 1 < r.length) :
    Calls Tryz.prog 135 #[.slice A n c] w fun e w' => LinePost none e ∧ Below w.heap.size w w' := by
  have t2 : ((r.length : Int) == 0) = false := by rw [beq_eq_false_iff_ne]; omega
  have t3 : decide ((1 : Int) < (r.length : Int)) = true := by rw [decide_eq_true_iff]; omega
  clear hr
  have HNM : Hid (∀ w', Below w.heap.size w w' → Calls Tryz.prog 131 #[.slice A n c] w' fun e w'' => NamedPost L e w'' ∧ Below w'.heap.size w' w'') := fun w' hb => pnamed_any L A n c w' (h.below hb) hL (hen.below hb)
  have HN := hid hN
  have HEN := hid hen
  clear hN h hL hen
  obtain ⟨hb0, hx0, hl0⟩ := box1 w (.cells #[.int .i64 0, .string ⟨#[]⟩, .string ⟨#[]⟩, .string ⟨#[]⟩] 29)
  go_enter Tryz.func135, Tryz.ntmps135
  go_upto_region 1 with fail
  generalize w.alloc (.cells #[.int .i64 0, .string ⟨#[]⟩, .string ⟨#[]⟩, .string ⟨#[]⟩] 29) = w0 at *
  go_wp2_with fail
  refine (HNM.out w0 hb0).mono ?_
  rintro e w1 ⟨hnp, hb1⟩
  unfold NamedPost at hnp
  rw [HN.out] at hnp
  replace hx0 := blk_below hx0 hb1 hl0
  replace hb0 := hb0.trans (hb1.mono hb0.size)
  clear hb1 HNM HN hl0
  obtain ⟨A', c', rfl, hs⟩ := hnp
  generalize r.length = m at *
  obtain ⟨hb2, hg2, hl2⟩ := box1 w1 (.cells (lnV l) 29)
  have hx2 := blk_below hx0 hb2 (blk_lt hx0)
  have hbw2 := hb0.trans (hb2.mono hb0.size)
  have hlt0 := blk_lt hx0
  have hge := hb0.size
  go_upto_region 2 with (refine wpList_store_last rfl 29 (.tmp 4) (.tmp 12) rfl (lnV l) rfl rfl i4 rfl (lnV_one _) ?_)
  generalize w1.alloc (.cells (lnV l) 29) = w2 at *
  clear hx0 hb0
  go_wp2_with (refine wpList_store_whole rfl 29 (.tmp 2) (.tmp 31) rfl (lnV ln0) rfl rfl hx2 i4 rfl (lnV_one _) ?_)
  intro wz hgz hgrz
  have hbz := grown1 hbw2 hgrz (Nat.le_refl _)
  go_wp2_with fail
  exact ret_row2 (fn := Tryz.f135) (x := .bool false) (cs := lnV ln0) rfl rfl rfl hgz Tryz.underlying29 rfl i4 rfl ⟨⟨ln0, false, rfl, rfl⟩, hbz⟩
set_option maxRecDepth 100000 in
set_option maxHeartbeats 1600000 in
theorem path_zero (L : List (List UInt8)) (A : Option Addr) (n c : Nat) (w : World) (h : Sl w 1 (.slice A n c) (STR L)) (hL : ∀ x ∈ L, x.length ≤ 2000000) (hen : Env w) (l : Ln) (hN : namedW L = some (l, [])) :
    Calls Tryz.prog 135 #[.slice A n c] w fun e w' => LinePost (pathW L) e ∧ Below w.heap.size w w' := by
  obtain ⟨nb, hnb⟩ : ∃ nb, (l.head != 0) = nb := ⟨_, rfl⟩
  have HP : Hid (pathW L = if nb = true then some l else none) := by
    show _ = _
    unfold pathW
    rw [hN, ← hnb]
    by_cases h0 : l.head = 0 <;> simp [h0]
  have HNM : Hid (∀ w', Below w.heap.size w w' → Calls Tryz.prog 131 #[.slice A n c] w' fun e w'' => NamedPost L e w'' ∧ Below w'.heap.size w' w'') := fun w' hb => pnamed_any L A n c w' (h.below hb) hL (hen.below hb)
  have HN := hid hN
  have HEN := hid hen
  clear hN h hL hen
  obtain ⟨hb0, hx0, hl0⟩ := box1 w (.cells #[.int .i64 0, .string ⟨#[]⟩, .string ⟨#[]⟩, .string ⟨#[]⟩] 29)
  go_enter Tryz.func135, Tryz.ntmps135
  go_upto_region 1 with fail
  generalize w.alloc (.cells #[.int .i64 0, .string ⟨#[]⟩, .string ⟨#[]⟩, .string ⟨#[]⟩] 29) = w0 at *
  go_wp2_with fail
  refine (HNM.out w0 hb0).mono ?_
  rintro e w1 ⟨hnp, hb1⟩
  unfold NamedPost at hnp
  rw [HN.out] at hnp
  replace hx0 := blk_below hx0 hb1 hl0
  replace hb0 := hb0.trans (hb1.mono hb0.size)
  clear hb1 HNM HN hl0
  obtain ⟨A', c', rfl, hs⟩ := hnp
  obtain ⟨hb2, hg2, hl2⟩ := box1 w1 (.cells (lnV l) 29)
  have hx2 := blk_below hx0 hb2 (blk_lt hx0)
  have hbw2 := hb0.trans (hb2.mono hb0.size)
  have hlt0 := blk_lt hx0
  have hge := hb0.size
  go_upto_region 2 with (refine wpList_store_last rfl 29 (.tmp 4) (.tmp 12) rfl (lnV l) rfl rfl i4 rfl (lnV_one _) ?_)
  generalize w1.alloc (.cells (lnV l) 29) = w2 at *
  clear hx0 hb0
  have c0 : w2.cell? ⟨w1.heap.size, 0, none⟩ = some (.int .i64 l.head) := blkCell hg2 0
  have y0 := fun (z : WK (fun b => b = w.heap.size) w2) => (wat_cell (p := ⟨w1.heap.size, 0, none⟩) (by show w1.heap.size < _; omega) (fun e => by have e2 : w1.heap.size = w.heap.size := e; omega) z).trans c0
  clear c0
  have HGL : Hid (∀ wS, Kept (fun b => b = w.heap.size) w2 wS → wS.heap[w1.heap.size]? = some (.cells (lnV l) 29 (0, 0))) := fun wS hC => (hC.block w1.heap.size (by omega) (fun e => by have e2 : w1.heap.size = w.heap.size := e; omega)).trans hg2
  have hx9 := hid hx2
  clear hg2 hs
  generalize l.head = h9 at *
  go_wp2_with fail
  refine wp_region_loud (fun b => b = w.heap.size) [(0, plainL [] (.agg (lnV l))), (4, keepL [100] (BlkF w.heap.size 29 (lnV l)))] (labelled 100 (BlkF w.heap.size 29 #[.int .i64 0, .string ⟨#[]⟩, .string ⟨#[]⟩, .string ⟨#[]⟩])) (by kernel_rfl) (by kernel_rfl)
    (.cons (plainL_ok _ _) (.cons (keepL_ok _ (good_blk _ _ _)) .nil)) (good_one 100 (good_blk _ _ _)) (sat_one 100 _ (fun g hg => by have e2 : g = w.heap.size := hg; omega) ⟨rfl, hx2⟩) (WX.out ?_)
  clear hx2 hx9
  repeat (first | (refine wx_quietU (by rfl) (by rfl) (by rfl) (fun K hK => ?_); go_big_quiet_op; refine hK _ ?_; clear hK K) | (refine wx_quietG (by rfl) (by rfl) (by rfl) (by rfl) (by rfl) (fun K hK => ?_); go_big_quiet_op; refine hK _ ?_; clear hK K) | (refine wx_skipG (by rfl) (by rfl) (by rfl) (fun K hK => ?_); go_simp; refine hK _ ?_; clear hK K) | (refine wx_skipN (by rfl) (by rfl) (by rfl) (fun K hK => ?_); go_simp; refine hK _ ?_; clear hK K))
  refine wx_loudU (us := []) (by rfl) (by rfl) (fun S wS hC hS hU => ?_) (fun v hv K hK => ?_)
  · exact runs_load_whole 29 (.tmp 4) rfl w1.heap.size rfl 29 (lnV l) (0, 0) _ (HGL.out wS hC) Tryz.underlying29 rfl i4 ⟨rfl, Kept.refl _ _, trivial⟩
  obtain rfl := hv; (go_simp; refine hK _ ?_; clear hK K)
  repeat (first | (refine wx_quietU (by rfl) (by rfl) (by rfl) (fun K hK => ?_); go_big_quiet_op; refine hK _ ?_; clear hK K) | (refine wx_quietG (by rfl) (by rfl) (by rfl) (by rfl) (by rfl) (fun K hK => ?_); go_big_quiet_op; refine hK _ ?_; clear hK K) | (refine wx_skipG (by rfl) (by rfl) (by rfl) (fun K hK => ?_); go_simp; refine hK _ ?_; clear hK K) | (refine wx_skipN (by rfl) (by rfl) (by rfl) (fun K hK => ?_); go_simp; refine hK _ ?_; clear hK K))
  refine wx_loudU (us := [100]) (by rfl) (by rfl) (fun S wS hC hS hU => ?_) (fun v hv K hK => ?_)
  · have hB : BlkF w.heap.size 29 #[.int .i64 0, .string ⟨#[]⟩, .string ⟨#[]⟩, .string ⟨#[]⟩] S wS := hU 100 (by simp)
    exact runs_store_whole 29 (.tmp 2) (.tmp 23) rfl (lnV l) rfl rfl hB.2 i4 rfl (lnV_one _) ⟨trivial, kept_setRow wS w.heap.size _ hB.1, .inl hB.1, setRow_heap _ _ _ _ _ _ hB.2⟩
  (go_simp; refine hK _ ?_; clear hK K)
  repeat (first | (refine wx_quietU (by rfl) (by rfl) (by rfl) (fun K hK => ?_); go_big_quiet_op; refine hK _ ?_; clear hK K) | (refine wx_quietG (by rfl) (by rfl) (by rfl) (by rfl) (by rfl) (fun K hK => ?_); go_big_quiet_op; refine hK _ ?_; clear hK K) | (refine wx_skipG (by rfl) (by rfl) (by rfl) (fun K hK => ?_); go_simp; refine hK _ ?_; clear hK K) | (refine wx_skipN (by rfl) (by rfl) (by rfl) (fun K hK => ?_); go_simp; refine hK _ ?_; clear hK K))
  refine wx_nil fun wz hsat => ?_
  obtain ⟨S9, hS9, hF9⟩ := sat_get hsat 4
  have hgz := (show BlkF w.heap.size 29 (lnV l) S9 wz from hF9).2
  have hbz := hbw2.trans (hsat.1.below_of (B := w.heap.size) (by omega) (fun g hg => by have e2 : g = w.heap.size := hg; omega))
  clear hsat hF9 hS9 y0
  go_wp2_with fail
  exact ret_row2 (fn := Tryz.f135) (x := .bool nb) (cs := lnV l) rfl rfl rfl hgz Tryz.underlying29 rfl i4 rfl ⟨⟨_, _, rfl, HP.out.symm⟩, hbz⟩
set_option maxRecDepth 100000 in
set_option maxHeartbeats 1600000 in
theorem path_one (L : List (List UInt8)) (A : Option Addr) (n c : Nat) (w : World) (h : Sl w 1 (.slice A n c) (STR L)) (hL : ∀ x ∈ L, x.length ≤ 2000000) (hen : Env w) (l : Ln) (leaf : List UInt8) (hN : namedW L = some (l, [leaf])) (hlv : l.leaf = [] ∧ l.value = []) :
    Calls Tryz.prog 135 #[.slice A n c] w fun e w' => LinePost (pathW L) e ∧ Below w.heap.size w w' := by
  obtain ⟨head, name, lf0, vl0⟩ := l
  obtain ⟨e1, e2⟩ := hlv
  simp only at e1 e2
  subst e1
  subst e2
  have HP : Hid (pathW L = if (findR head leaf).2 = true then some ⟨head, name, leaf, []⟩ else none) := by
    show _ = _
    unfold pathW
    rw [hN]
  have HNM : Hid (∀ w', Below w.heap.size w w' → Calls Tryz.prog 131 #[.slice A n c] w' fun e w'' => NamedPost L e w'' ∧ Below w'.heap.size w' w'') := fun w' hb => pnamed_any L A n c w' (h.below hb) hL (hen.below hb)
  have HN := hid hN
  have HEN := hid hen
  clear hN h hL hen
  obtain ⟨hb0, hx0, hl0⟩ := box1 w (.cells #[.int .i64 0, .string ⟨#[]⟩, .string ⟨#[]⟩, .string ⟨#[]⟩] 29)
  go_enter Tryz.func135, Tryz.ntmps135
  go_upto_region 1 with fail
  generalize w.alloc (.cells #[.int .i64 0, .string ⟨#[]⟩, .string ⟨#[]⟩, .string ⟨#[]⟩] 29) = w0 at *
  go_wp2_with fail
  refine (HNM.out w0 hb0).mono ?_
  rintro e w1 ⟨hnp, hb1⟩
  unfold NamedPost at hnp
  rw [HN.out] at hnp
  replace hx0 := blk_below hx0 hb1 hl0
  replace hb0 := hb0.trans (hb1.mono hb0.size)
  clear hb1 HNM HN hl0
  obtain ⟨A', c', rfl, hs⟩ := hnp
  have hlen2 : [leaf].length = 1 := rfl
  rw [hlen2] at hs
  rw [hlen2]
  clear hlen2
  obtain ⟨b, off, rfl, hbl, p0⟩ := STR_cell hs (k := 0) (by omega)
  simp only [List.getD_cons_zero, Nat.add_zero] at p0
  clear hs
  obtain ⟨hb2, hg2, hl2⟩ := box1 w1 (.cells (lnV ⟨head, name, [], []⟩) 29)
  have hx2 := blk_below hx0 hb2 (blk_lt hx0)
  have hbw2 := hb0.trans (hb2.mono hb0.size)
  have hlt0 := blk_lt hx0
  have hge := hb0.size
  go_upto_region 2 with (refine wpList_store_last rfl 29 (.tmp 4) (.tmp 12) rfl (lnV ⟨head, name, [], []⟩) rfl rfl i4 rfl (lnV_one _) ?_)
  generalize w1.alloc (.cells (lnV ⟨head, name, [], []⟩) 29) = w2 at *
  clear hx0 hb0
  have q0 := (hb2.cell (p := ⟨b, off, none⟩) hbl).trans p0
  clear p0 hb2
  have f2 : w2.frozen? ⟨w1.heap.size, 2, none⟩ = false := by simp [World.frozen?, hg2]
  have c2 : w2.cell? ⟨w1.heap.size, 2, none⟩ = some (.string ⟨#[]⟩) := blkCell hg2 2
  have HG2 := hid hg2
  have HX2 := hid hx2
  clear hg2 hx2
  go_upto_region 9 with fail
  have hg3 : (w2.setCell ⟨w1.heap.size, 2, none⟩ (.string (S8 leaf))).heap[w1.heap.size]? = some (.cells (lnV ⟨head, name, leaf, []⟩) 29 (0, 0)) := blk_set HG2.out 2 _
  have hx3 : (w2.setCell ⟨w1.heap.size, 2, none⟩ (.string (S8 leaf))).heap[w.heap.size]? = some (.cells #[.int .i64 0, .string ⟨#[]⟩, .string ⟨#[]⟩, .string ⟨#[]⟩] 29 (0, 0)) := blk_set_far HX2.out (by show w.heap.size ≠ w1.heap.size; omega) _
  have hbw3 := hbw2.setCell (p := ⟨w1.heap.size, 2, none⟩) (by show w.heap.size ≤ w1.heap.size; omega) (.string (S8 leaf))
  have hs3 : (w2.setCell ⟨w1.heap.size, 2, none⟩ (.string (S8 leaf))).heap.size = w2.heap.size := by simp [World.setCell]
  generalize w2.setCell ⟨w1.heap.size, 2, none⟩ (.string (S8 leaf)) = w3 at *
  clear f2 c2 q0 HG2 HX2 hbw2
  have c0 : w3.cell? ⟨w1.heap.size, 0, none⟩ = some (.int .i64 head) := blkCell hg3 0
  have c2 : w3.cell? ⟨w1.heap.size, 2, none⟩ = some (.string (S8 leaf)) := blkCell hg3 2
  have hl3 : w1.heap.size < w3.heap.size := by omega
  have hw3 : w.heap.size < w3.heap.size := by omega
  clear hs3
  have hF := find_new head (S8 leaf) w3
  rw [bl_S8] at hF
  generalize findR head leaf = FR at *
  obtain ⟨row, fb⟩ := FR
  simp only at hF HP
  have HF := hid hF
  clear hF
  go_wp2_with fail
  refine HF.out.mono ?_
  rintro e w4 ⟨Aq, rfl, hb4, -, -⟩
  clear HF c0 c2
  have hg4 := blk_below hg3 hb4 hl3
  have hx4 := blk_below hx3 hb4 hw3
  have hbw4 := hbw3.trans (hb4.mono hbw3.size)
  have hs34 := hb4.size
  clear hg3 hx3 hbw3 hb4
  have hi8 : (Tryz.prog.info? 93).map (·.size) = some (rwV row Aq).size := i8
  obtain ⟨hb5, hr5, hl5⟩ := box1 w4 (.cells (rwV row Aq) 93)
  have hg5 := blk_below hg4 hb5 (by omega)
  have hx5 := blk_below hx4 hb5 (by omega)
  have hbw5 := hbw4.trans (hb5.mono hbw4.size)
  go_upto_region 10 with (refine wpList_store_last rfl 93 (.tmp 7) (.tmp 42) rfl (rwV row Aq) rfl rfl hi8 rfl (rwV_one _ _) ?_)
  generalize w4.alloc (.cells (rwV row Aq) 93) = w5 at *
  clear hg4 hx4 hbw4 hb5 hr5
  go_wp2_with (first | refine wpList_load_row rfl 29 (.tmp 4) rfl w1.heap.size rfl 29 (lnV ⟨head, name, leaf, []⟩) (0, 0) _ hg5 Tryz.underlying29 rfl i4 ?_ | refine wpList_store_whole rfl 29 (.tmp 2) (.tmp 44) rfl (lnV ⟨head, name, leaf, []⟩) rfl rfl hx5 i4 rfl (lnV_one _) ?_)
  intro wz hgz hgrz
  have hbz := grown1 hbw5 hgrz (Nat.le_refl _)
  clear hg5 hx5
  go_wp2_with fail
  exact ret_row2 (fn := Tryz.f135) (x := .bool fb) (cs := lnV ⟨head, name, leaf, []⟩) rfl rfl rfl hgz Tryz.underlying29 rfl i4 rfl ⟨⟨_, _, rfl, HP.out.symm⟩, hbz⟩
theorem namedW_bare (L : List (List UInt8)) (l : Ln) (r : List (List UInt8)) (h : namedW L = some (l, r)) : l.leaf = [] ∧ l.value = [] := by
  unfold namedW at h
  split at h
  · injection h with h; injection h with h _; subst h; exact ⟨rfl, rfl⟩
  · split at h
    · injection h with h; injection h with h _; subst h; exact ⟨rfl, rfl⟩
    · split at h
      · cases h
      · split at h
        · injection h with h; injection h with h _; subst h; exact ⟨rfl, rfl⟩
        · cases h
theorem path_any (L : List (List UInt8)) (A : Option Addr) (n c : Nat) (w : World) (h : Sl w 1 (.slice A n c) (STR L)) (hL : ∀ x ∈ L, x.length ≤ 2000000) (hen : Env w) :
    Calls Tryz.prog 135 #[.slice A n c] w fun e w' => LinePost (pathW L) e ∧ Below w.heap.size w w' := by
  cases hN : namedW L with
  | none =>
    have := path_none L A n c w h hL hen hN
    unfold pathW
    rw [hN]
    exact this
  | some p =>
    obtain ⟨l, r⟩ := p
    match r with
    | [] => exact path_zero L A n c w h hL hen l hN
    | [leaf] => exact path_one L A n c w h hL hen l leaf hN (namedW_bare L l _ hN)
    | x :: y :: r =>
      have := path_more L A n c w h hL hen l (x :: y :: r) hN (by simp)
      unfold pathW
      rw [hN]
      exact this
end Go.Proofs.YtecfkhgocjbocaaGreatDoor
namespace Go.Proofs.YtecfkhgocjbocaaGreatDoor
set_option linter.unusedVariables false
set_option linter.unusedSimpArgs false
open Go Go.RowKit

def cmC (c : Cmd) : List Value := [.int .i64 c.what, .int .i64 c.line.head, .string (S8 c.line.name), .string (S8 c.line.leaf), .string (S8 c.line.value), .int .i64 c.n]
abbrev cmV (c : Cmd) : Array Value := (cmC c).toArray
theorem cmV_one (c : Cmd) : (cmV c).all (·.oneCell') = true := by simp [cmC, Value.oneCell']
theorem i6 : (Tryz.prog.info? 141).map (·.size) = some 6 := by kernel_rfl
/-- a command and whether it can be -/
def CmdPost (x : Option Cmd) (e : Ending) : Prop := ∃ c b, e = .returned (.tuple #[.agg (cmV c), .bool b]) ∧ (if b = true then some c else none) = x
theorem cm_built (k : Int) (l : Ln) : (Tryz.prog).built 141 [(0, .int .i64 k), (1, .agg (lnV l))] = some (cmV ⟨k, l, 0⟩) := by kernel_rfl
set_option maxRecDepth 100000 in
set_option maxHeartbeats 1600000 in
theorem counted_any (what : Int) (x : List UInt8) (lo hi : Nat) (hlo : lo ≤ 65535) (hhi : hi ≤ 65535) (hx : x.length ≤ 2000000) (w : World) :
    Calls Tryz.prog 133 #[.int .i64 what, .string (S8 x), .int .i64 lo, .int .i64 hi] w fun e w' => CmdPost (countW what x lo hi) e ∧ Below w.heap.size w w' := by
  have hD := fun w => decimal_any (S8 x) w (by rw [S8_size]; omega)
  rw [bl_S8] at hD
  have HCW : Hid (countW what x lo hi = if SC.decB x = true ∧ lo ≤ SC.decV x ∧ SC.decV x ≤ hi then some ⟨what, ln0, (SC.decV x : Nat)⟩ else none) := rfl
  have hdl := SC.decV_lt x
  generalize SC.decV x = d at *
  generalize SC.decB x = db at *
  have HD := hid hD
  clear hD
  obtain ⟨hb0, hx0, hl0⟩ := box1 w (.cells #[.int .i64 0, .int .i64 0, .string ⟨#[]⟩, .string ⟨#[]⟩, .string ⟨#[]⟩, .int .i64 0] 141)
  go_enter Tryz.func133, Tryz.ntmps133
  go_upto_region 1 with fail
  generalize w.alloc (.cells #[.int .i64 0, .int .i64 0, .string ⟨#[]⟩, .string ⟨#[]⟩, .string ⟨#[]⟩, .int .i64 0] 141) = w0 at *
  go_wp2_with fail
  refine (HD.out w0).mono ?_
  rintro e w1 ⟨rfl, hb1⟩
  replace hx0 := blk_below hx0 hb1 hl0
  replace hb0 := hb0.trans (hb1.mono hb0.size)
  clear hb1 HD hl0
  cases db with
  | false =>
    have HP : Hid (countW what x lo hi = none) := by show _ = _; rw [HCW.out]; simp
    go_wp2_with (refine wpList_store_whole rfl 141 (.tmp 8) (.tmp 19) rfl (cmV ⟨what, ln0, (d : Nat)⟩) rfl rfl hx0 i6 rfl (cmV_one _) ?_)
    intro wz hgz hgrz
    have hbz := grown1 hb0 hgrz (Nat.le_refl _)
    go_wp2_with fail
    exact ret_row2 (fn := Tryz.f133) (x := .bool false) (cs := cmV ⟨what, ln0, (d : Nat)⟩) rfl rfl rfl hgz Tryz.underlying141 rfl i6 rfl ⟨⟨_, _, rfl, HP.out.symm⟩, hbz⟩
  | true =>
    by_cases h1 : lo ≤ d
    · have t1 : decide ((lo : Int) ≤ (d : Int)) = true := by rw [decide_eq_true_iff]; omega
      by_cases h2 : d ≤ hi
      · have t2 : decide ((d : Int) ≤ (hi : Int)) = true := by rw [decide_eq_true_iff]; omega
        have HP : Hid (countW what x lo hi = some ⟨what, ln0, (d : Nat)⟩) := by show _ = _; rw [HCW.out, if_pos ⟨rfl, h1, h2⟩]
        go_wp2_with (refine wpList_store_whole rfl 141 (.tmp 8) (.tmp 19) rfl (cmV ⟨what, ln0, (d : Nat)⟩) rfl rfl hx0 i6 rfl (cmV_one _) ?_)
        intro wz hgz hgrz
        have hbz := grown1 hb0 hgrz (Nat.le_refl _)
        go_wp2_with fail
        exact ret_row2 (fn := Tryz.f133) (x := .bool true) (cs := cmV ⟨what, ln0, (d : Nat)⟩) rfl rfl rfl hgz Tryz.underlying141 rfl i6 rfl ⟨⟨_, _, rfl, HP.out.symm⟩, hbz⟩
      · have t2 : decide ((d : Int) ≤ (hi : Int)) = false := by rw [decide_eq_false_iff_not]; omega
        have HP : Hid (countW what x lo hi = none) := by show _ = _; rw [HCW.out, if_neg (fun h => h2 h.2.2)]
        go_wp2_with (refine wpList_store_whole rfl 141 (.tmp 8) (.tmp 19) rfl (cmV ⟨what, ln0, (d : Nat)⟩) rfl rfl hx0 i6 rfl (cmV_one _) ?_)
        intro wz hgz hgrz
        have hbz := grown1 hb0 hgrz (Nat.le_refl _)
        go_wp2_with fail
        exact ret_row2 (fn := Tryz.f133) (x := .bool false) (cs := cmV ⟨what, ln0, (d : Nat)⟩) rfl rfl rfl hgz Tryz.underlying141 rfl i6 rfl ⟨⟨_, _, rfl, HP.out.symm⟩, hbz⟩
    · have t1 : decide ((lo : Int) ≤ (d : Int)) = false := by rw [decide_eq_false_iff_not]; omega
      have HP : Hid (countW what x lo hi = none) := by show _ = _; rw [HCW.out, if_neg (fun h => h1 h.2.1)]
      go_wp2_with (refine wpList_store_whole rfl 141 (.tmp 8) (.tmp 19) rfl (cmV ⟨what, ln0, (d : Nat)⟩) rfl rfl hx0 i6 rfl (cmV_one _) ?_)
      intro wz hgz hgrz
      have hbz := grown1 hb0 hgrz (Nat.le_refl _)
      go_wp2_with fail
      exact ret_row2 (fn := Tryz.f133) (x := .bool false) (cs := cmV ⟨what, ln0, (d : Nat)⟩) rfl rfl rfl hgz Tryz.underlying141 rfl i6 rfl ⟨⟨_, _, rfl, HP.out.symm⟩, hbz⟩
set_option maxRecDepth 100000 in
set_option maxHeartbeats 1600000 in
theorem read_plain (x : List UInt8) (r : List (List UInt8)) (A : Option Addr) (n c : Nat) (w : World) (h : Sl w 1 (.slice A n c) (STR r)) (hx : plainW x ≠ 0) :
    Calls Tryz.prog 114 #[.string (S8 x), .slice A n c] w fun e w' => CmdPost (readL x r) e ∧ Below w.heap.size w w' := by
  have hP := fun w => plain_any (S8 x) w
  rw [bl_S8] at hP
  have HL := hid (sl_lensS h).1
  obtain ⟨nb, hnb⟩ : ∃ nb, ((n : Int) == 0) = nb := ⟨_, rfl⟩
  have HQ : Hid (readL x r = if nb = true then some ⟨plainW x, ln0, 0⟩ else none) := by
    show _ = _
    unfold readL
    rw [if_pos hx, ← hnb, ← HL.out]
    cases r with
    | nil => rfl
    | cons a b => rw [if_neg (by simp), if_neg (by simp; omega)]
  have HP := hid hP
  have t0 : (plainW x != 0) = true := by rw [bne_iff_ne]; exact hx
  clear hP hx h
  generalize plainW x = pw at *
  obtain ⟨hb0, hx0, hl0⟩ := box1 w (.cells #[.int .i64 0, .int .i64 0, .string ⟨#[]⟩, .string ⟨#[]⟩, .string ⟨#[]⟩, .int .i64 0] 141)
  go_enter Tryz.func114, Tryz.ntmps114
  go_upto_region 1 with fail
  generalize w.alloc (.cells #[.int .i64 0, .int .i64 0, .string ⟨#[]⟩, .string ⟨#[]⟩, .string ⟨#[]⟩, .int .i64 0] 141) = w0 at *
  go_wp2_with fail
  refine (HP.out w0).mono ?_
  rintro e w0 ⟨rfl, rfl⟩
  go_wp2_with fail
  refine (HP.out w0).mono ?_
  rintro e w0 ⟨rfl, rfl⟩
  go_wp2_with (refine wpList_store_whole rfl 141 (.tmp 4) (.tmp 16) rfl (cmV ⟨pw, ln0, 0⟩) rfl rfl hx0 i6 rfl (cmV_one _) ?_)
  clear HP
  have HP := HQ
  intro wz hgz hgrz
  have hbz := grown1 hb0 hgrz (Nat.le_refl _)
  go_wp2_with fail
  exact ret_row2 (fn := Tryz.f114) (x := .bool nb) (cs := cmV ⟨pw, ln0, 0⟩) rfl rfl rfl hgz Tryz.underlying141 rfl i6 rfl ⟨⟨_, _, rfl, HP.out.symm⟩, hbz⟩
set_option maxRecDepth 100000 in
set_option maxHeartbeats 1600000 in
theorem read_odd (x : List UInt8) (r : List (List UInt8)) (A : Option Addr) (n c : Nat) (w : World) (h : Sl w 1 (.slice A n c) (STR r)) (hx : plainW x = 0) (b1 b2 : Bool) (e1 : ((S8 x).toList == wCC) = b1) (e2 : ((S8 x).toList == wRoll) = b2) (e3 : ((S8 x).toList == wSet) = false) (e4 : ((S8 x).toList == wDelete) = false)
    (hb : (b1 || b2) = true → n ≠ 1) (HP : Hid (readL x r = none)) :
    Calls Tryz.prog 114 #[.string (S8 x), .slice A n c] w fun e w' => CmdPost (readL x r) e ∧ Below w.heap.size w w' := by
  have HQ := HP
  clear HP
  simp only [wCC, wRoll, wSet, wDelete] at e1 e2 e3 e4
  cases b1 <;> cases b2
  · clear hb
    have hP := fun w => plain_any (S8 x) w
    rw [bl_S8] at hP
    have HL := hid (sl_lensS h).1
    rw [hx] at hP
    have HP := hid hP
    clear hP hx
    obtain ⟨hb0, hx0, hl0⟩ := box1 w (.cells #[.int .i64 0, .int .i64 0, .string ⟨#[]⟩, .string ⟨#[]⟩, .string ⟨#[]⟩, .int .i64 0] 141)
    go_enter Tryz.func114, Tryz.ntmps114
    go_upto_region 1 with fail
    generalize w.alloc (.cells #[.int .i64 0, .int .i64 0, .string ⟨#[]⟩, .string ⟨#[]⟩, .string ⟨#[]⟩, .int .i64 0] 141) = w0 at *
    go_wp2_with fail
    refine (HP.out w0).mono ?_
    rintro e w0 ⟨rfl, rfl⟩
    clear HP
    have HP := HQ
    go_wp2_with (refine wpList_store_whole rfl 141 (.tmp 4) (.tmp 70) rfl (cmV cmd0) rfl rfl hx0 i6 rfl (cmV_one _) ?_)
    intro wz hgz hgrz
    have hbz := grown1 hb0 hgrz (Nat.le_refl _)
    go_wp2_with fail
    exact ret_row2 (fn := Tryz.f114) (x := .bool false) (cs := cmV cmd0) rfl rfl rfl hgz Tryz.underlying141 rfl i6 rfl ⟨⟨_, _, rfl, HP.out.symm⟩, hbz⟩
  all_goals
    have t1 : ((n : Int) == 1) = false := by rw [beq_eq_false_iff_ne]; have := hb (by simp); omega
    clear hb
    have hP := fun w => plain_any (S8 x) w
    rw [bl_S8] at hP
    have HL := hid (sl_lensS h).1
    rw [hx] at hP
    have HP := hid hP
    clear hP hx
    obtain ⟨hb0, hx0, hl0⟩ := box1 w (.cells #[.int .i64 0, .int .i64 0, .string ⟨#[]⟩, .string ⟨#[]⟩, .string ⟨#[]⟩, .int .i64 0] 141)
    go_enter Tryz.func114, Tryz.ntmps114
    go_upto_region 1 with fail
    generalize w.alloc (.cells #[.int .i64 0, .int .i64 0, .string ⟨#[]⟩, .string ⟨#[]⟩, .string ⟨#[]⟩, .int .i64 0] 141) = w0 at *
    go_wp2_with fail
    refine (HP.out w0).mono ?_
    rintro e w0 ⟨rfl, rfl⟩
    clear HP
    have HP := HQ
    go_wp2_with (refine wpList_store_whole rfl 141 (.tmp 4) (.tmp 70) rfl (cmV cmd0) rfl rfl hx0 i6 rfl (cmV_one _) ?_)
    intro wz hgz hgrz
    have hbz := grown1 hb0 hgrz (Nat.le_refl _)
    go_wp2_with fail
    exact ret_row2 (fn := Tryz.f114) (x := .bool false) (cs := cmV cmd0) rfl rfl rfl hgz Tryz.underlying141 rfl i6 rfl ⟨⟨_, _, rfl, HP.out.symm⟩, hbz⟩
set_option maxRecDepth 100000 in
set_option maxHeartbeats 1600000 in
theorem read_cc (x y : List UInt8) (A : Option Addr) (n c : Nat) (w : World) (h : Sl w 1 (.slice A n c) (STR [y])) (hx : plainW x = 0) (hw : x = wCC) (hy : y.length ≤ 2000000)
    (e1 : ((S8 x).toList == wCC) = true) (e2 : ((S8 x).toList == wCC) = true) :
    Calls Tryz.prog 114 #[.string (S8 x), .slice A n c] w fun e w' => CmdPost (readL x [y]) e ∧ Below w.heap.size w w' := by
  have hN1 : n = 1 := by have := (sl_lensS h).1; simp at this; omega
  subst hN1
  have HQ : Hid (readL x [y] = countW 7 y 1 65535) := by
    show _ = _
    unfold readL
    rw [if_neg (by rw [hx]; simp)]
    rw [if_pos hw]
  have hCN : ∀ w, Calls Tryz.prog 133 #[.int .i64 7, .string (S8 y), .int .i64 1, .int .i64 65535] w fun e w' => CmdPost (readL x [y]) e ∧ Below w.heap.size w w' := fun w => by
    rw [HQ.out]
    exact counted_any 7 y 1 65535 (by omega) (by omega) hy w
  have HCN := hid hCN
  clear hCN HQ hw
  simp only [wCC, wRoll, wSet, wDelete] at e1 e2
  have hP := fun w => plain_any (S8 x) w
  rw [bl_S8] at hP
  have HL := hid (sl_lensS h).1
  rw [hx] at hP
  have HP := hid hP
  clear hP hx
  obtain ⟨hb0, hx0, hl0⟩ := box1 w (.cells #[.int .i64 0, .int .i64 0, .string ⟨#[]⟩, .string ⟨#[]⟩, .string ⟨#[]⟩, .int .i64 0] 141)
  go_enter Tryz.func114, Tryz.ntmps114
  go_upto_region 1 with fail
  generalize w.alloc (.cells #[.int .i64 0, .int .i64 0, .string ⟨#[]⟩, .string ⟨#[]⟩, .string ⟨#[]⟩, .int .i64 0] 141) = w0 at *
  go_wp2_with fail
  refine (HP.out w0).mono ?_
  rintro e w0 ⟨rfl, rfl⟩
  clear HP
  have hh0 := h.below hb0
  obtain ⟨b, off, rfl, hbl, p0⟩ := STR_cell hh0 (k := 0) (by omega)
  simp only [List.getD_cons_zero, Nat.add_zero] at p0
  go_wp2_with fail
  refine (HCN.out w0).mono ?_
  rintro e w1 ⟨hcp, hb1⟩
  replace hx0 := blk_below hx0 hb1 hl0
  replace hb0 := hb0.trans (hb1.mono hb0.size)
  clear hb1 HCN p0 hbl hh0 h
  obtain ⟨cm, cb, rfl, hcb⟩ := hcp
  have HP := hid hcb.symm
  clear hcb
  go_wp2_with (refine wpList_store_whole rfl 141 (.tmp 4) (.tmp 32) rfl (cmV cm) rfl rfl hx0 i6 rfl (cmV_one _) ?_)
  intro wz hgz hgrz
  have hbz := grown1 hb0 hgrz (Nat.le_refl _)
  go_wp2_with fail
  exact ret_row2 (fn := Tryz.f114) (x := .bool cb) (cs := cmV cm) rfl rfl rfl hgz Tryz.underlying141 rfl i6 rfl ⟨⟨_, _, rfl, HP.out.symm⟩, hbz⟩
set_option maxRecDepth 100000 in
set_option maxHeartbeats 1600000 in
theorem read_roll (x y : List UInt8) (A : Option Addr) (n c : Nat) (w : World) (h : Sl w 1 (.slice A n c) (STR [y])) (hx : plainW x = 0) (hw : x = wRoll) (hw2 : x ≠ wCC) (hy : y.length ≤ 2000000)
    (e1 : ((S8 x).toList == wCC) = false) (e2 : ((S8 x).toList == wRoll) = true) :
    Calls Tryz.prog 114 #[.string (S8 x), .slice A n c] w fun e w' => CmdPost (readL x [y]) e ∧ Below w.heap.size w w' := by
  have hN1 : n = 1 := by have := (sl_lensS h).1; simp at this; omega
  subst hN1
  have HQ : Hid (readL x [y] = countW 9 y 0 5) := by
    show _ = _
    unfold readL
    rw [if_neg (by rw [hx]; simp)]
    rw [if_neg hw2, if_pos hw]
  have hCN : ∀ w, Calls Tryz.prog 133 #[.int .i64 9, .string (S8 y), .int .i64 0, .int .i64 5] w fun e w' => CmdPost (readL x [y]) e ∧ Below w.heap.size w w' := fun w => by
    rw [HQ.out]
    exact counted_any 9 y 0 5 (by omega) (by omega) hy w
  have HCN := hid hCN
  clear hCN HQ hw hw2
  simp only [wCC, wRoll, wSet, wDelete] at e1 e2
  have hP := fun w => plain_any (S8 x) w
  rw [bl_S8] at hP
  have HL := hid (sl_lensS h).1
  rw [hx] at hP
  have HP := hid hP
  clear hP hx
  obtain ⟨hb0, hx0, hl0⟩ := box1 w (.cells #[.int .i64 0, .int .i64 0, .string ⟨#[]⟩, .string ⟨#[]⟩, .string ⟨#[]⟩, .int .i64 0] 141)
  go_enter Tryz.func114, Tryz.ntmps114
  go_upto_region 1 with fail
  generalize w.alloc (.cells #[.int .i64 0, .int .i64 0, .string ⟨#[]⟩, .string ⟨#[]⟩, .string ⟨#[]⟩, .int .i64 0] 141) = w0 at *
  go_wp2_with fail
  refine (HP.out w0).mono ?_
  rintro e w0 ⟨rfl, rfl⟩
  clear HP
  have hh0 := h.below hb0
  obtain ⟨b, off, rfl, hbl, p0⟩ := STR_cell hh0 (k := 0) (by omega)
  simp only [List.getD_cons_zero, Nat.add_zero] at p0
  go_wp2_with fail
  refine (HCN.out w0).mono ?_
  rintro e w1 ⟨hcp, hb1⟩
  replace hx0 := blk_below hx0 hb1 hl0
  replace hb0 := hb0.trans (hb1.mono hb0.size)
  clear hb1 HCN p0 hbl hh0 h
  obtain ⟨cm, cb, rfl, hcb⟩ := hcp
  have HP := hid hcb.symm
  clear hcb
  go_wp2_with (refine wpList_store_whole rfl 141 (.tmp 4) (.tmp 46) rfl (cmV cm) rfl rfl hx0 i6 rfl (cmV_one _) ?_)
  intro wz hgz hgrz
  have hbz := grown1 hb0 hgrz (Nat.le_refl _)
  go_wp2_with fail
  exact ret_row2 (fn := Tryz.f114) (x := .bool cb) (cs := cmV cm) rfl rfl rfl hgz Tryz.underlying141 rfl i6 rfl ⟨⟨_, _, rfl, HP.out.symm⟩, hbz⟩
set_option maxRecDepth 100000 in
set_option maxHeartbeats 1600000 in
theorem read_set (x : List UInt8) (r : List (List UInt8)) (A : Option Addr) (n c : Nat) (w : World) (h : Sl w 1 (.slice A n c) (STR r)) (hL : ∀ x ∈ r, x.length ≤ 2000000) (hen : Env w) (hx : plainW x = 0) (hw : x = wSet) (hw1 : x ≠ wCC) (hw2 : x ≠ wRoll)
    (e1 : ((S8 x).toList == wCC) = false) (e2 : ((S8 x).toList == wRoll) = false) (e3 : ((S8 x).toList == wSet) = true) (e4 : ((S8 x).toList == wSet) = true) :
    Calls Tryz.prog 114 #[.string (S8 x), .slice A n c] w fun e w' => CmdPost (readL x r) e ∧ Below w.heap.size w w' := by
  have HQ : Hid (readL x r = (lineW r).map fun l => (⟨1, l, 0⟩ : Cmd)) := by
    show _ = _
    unfold readL
    rw [if_neg (by rw [hx]; simp)]
    rw [if_neg hw1, if_neg hw2, if_pos hw]
  simp only [wCC, wRoll, wSet, wDelete] at e1 e2 e3 e4
  have HCN : Hid (∀ w', Below w.heap.size w w' → Calls Tryz.prog 134 #[.slice A n c] w' fun e w'' => LinePost (lineW r) e ∧ Below w'.heap.size w' w'') := fun w' hb => line_any r A n c w' (h.below hb) hL (hen.below hb)
  clear hL hen hw hw1 hw2
  have hP := fun w => plain_any (S8 x) w
  rw [bl_S8] at hP
  have HL := hid (sl_lensS h).1
  rw [hx] at hP
  have HP := hid hP
  clear hP hx
  obtain ⟨hb0, hx0, hl0⟩ := box1 w (.cells #[.int .i64 0, .int .i64 0, .string ⟨#[]⟩, .string ⟨#[]⟩, .string ⟨#[]⟩, .int .i64 0] 141)
  go_enter Tryz.func114, Tryz.ntmps114
  go_upto_region 1 with fail
  generalize w.alloc (.cells #[.int .i64 0, .int .i64 0, .string ⟨#[]⟩, .string ⟨#[]⟩, .string ⟨#[]⟩, .int .i64 0] 141) = w0 at *
  go_wp2_with fail
  refine (HP.out w0).mono ?_
  rintro e w0 ⟨rfl, rfl⟩
  clear HP
  clear h
  go_wp2_with fail
  refine (HCN.out w0 hb0).mono ?_
  rintro e w1 ⟨hcp, hb1⟩
  replace hx0 := blk_below hx0 hb1 hl0
  replace hb0 := hb0.trans (hb1.mono hb0.size)
  clear hb1 HCN hl0
  obtain ⟨l, cb, rfl, hcb⟩ := hcp
  have HP : Hid (readL x r = if cb = true then some ⟨1, l, 0⟩ else none) := by
    show _ = _
    rw [HQ.out, ← hcb]
    cases cb <;> rfl
  clear hcb HQ
  obtain ⟨hb2, hg2, hl2⟩ := box1 w1 (.cells (lnV l) 29)
  have hlt0 := blk_lt hx0
  have hx2 := blk_below hx0 hb2 hlt0
  have hbw2 := hb0.trans (hb2.mono hb0.size)
  go_upto_region 9 with (refine wpList_store_last rfl 29 (.tmp 6) (.tmp 54) rfl (lnV l) rfl rfl i4 rfl (lnV_one _) ?_)
  generalize w1.alloc (.cells (lnV l) 29) = w2 at *
  clear hb2 hx0 hb0
  have hb0 := hbw2
  clear hbw2
  go_wp2_with (first | refine wpList_load_row rfl 29 (.tmp 6) rfl w1.heap.size rfl 29 (lnV l) (0, 0) _ hg2 Tryz.underlying29 rfl i4 ?_ | refine wpList_buildV rfl 141 [(0, .const (.int .i64 1)), (1, .tmp 56)] rfl (some 57) rfl [(0, .int .i64 1), (1, .agg (lnV l))] rfl _ (cm_built 1 l) ?_ | refine wpList_store_whole rfl 141 (.tmp 4) (.tmp 57) rfl (cmV ⟨1, l, 0⟩) rfl rfl hx2 i6 rfl (cmV_one _) ?_)
  intro wz hgz hgrz
  have hbz := grown1 hb0 hgrz (Nat.le_refl _)
  go_wp2_with fail
  exact ret_row2 (fn := Tryz.f114) (x := .bool cb) (cs := cmV ⟨1, l, 0⟩) rfl rfl rfl hgz Tryz.underlying141 rfl i6 rfl ⟨⟨_, _, rfl, HP.out.symm⟩, hbz⟩
set_option maxRecDepth 100000 in
set_option maxHeartbeats 1600000 in
theorem read_del (x : List UInt8) (r : List (List UInt8)) (A : Option Addr) (n c : Nat) (w : World) (h : Sl w 1 (.slice A n c) (STR r)) (hL : ∀ x ∈ r, x.length ≤ 2000000) (hen : Env w) (hx : plainW x = 0) (hw : x = wDelete) (hw1 : x ≠ wCC) (hw2 : x ≠ wRoll) (hw3 : x ≠ wSet)
    (e1 : ((S8 x).toList == wCC) = false) (e2 : ((S8 x).toList == wRoll) = false) (e3 : ((S8 x).toList == wSet) = false) (e4 : ((S8 x).toList == wDelete) = true) :
    Calls Tryz.prog 114 #[.string (S8 x), .slice A n c] w fun e w' => CmdPost (readL x r) e ∧ Below w.heap.size w w' := by
  have HQ : Hid (readL x r = (pathW r).map fun l => (⟨2, l, 0⟩ : Cmd)) := by
    show _ = _
    unfold readL
    rw [if_neg (by rw [hx]; simp)]
    rw [if_neg hw1, if_neg hw2, if_neg hw3, if_pos hw]
  simp only [wCC, wRoll, wSet, wDelete] at e1 e2 e3 e4
  have HCN : Hid (∀ w', Below w.heap.size w w' → Calls Tryz.prog 135 #[.slice A n c] w' fun e w'' => LinePost (pathW r) e ∧ Below w'.heap.size w' w'') := fun w' hb => path_any r A n c w' (h.below hb) hL (hen.below hb)
  clear hL hen hw hw1 hw2 hw3
  have hP := fun w => plain_any (S8 x) w
  rw [bl_S8] at hP
  have HL := hid (sl_lensS h).1
  rw [hx] at hP
  have HP := hid hP
  clear hP hx
  obtain ⟨hb0, hx0, hl0⟩ := box1 w (.cells #[.int .i64 0, .int .i64 0, .string ⟨#[]⟩, .string ⟨#[]⟩, .string ⟨#[]⟩, .int .i64 0] 141)
  go_enter Tryz.func114, Tryz.ntmps114
  go_upto_region 1 with fail
  generalize w.alloc (.cells #[.int .i64 0, .int .i64 0, .string ⟨#[]⟩, .string ⟨#[]⟩, .string ⟨#[]⟩, .int .i64 0] 141) = w0 at *
  go_wp2_with fail
  refine (HP.out w0).mono ?_
  rintro e w0 ⟨rfl, rfl⟩
  clear HP
  clear h
  go_wp2_with fail
  refine (HCN.out w0 hb0).mono ?_
  rintro e w1 ⟨hcp, hb1⟩
  replace hx0 := blk_below hx0 hb1 hl0
  replace hb0 := hb0.trans (hb1.mono hb0.size)
  clear hb1 HCN hl0
  obtain ⟨l, cb, rfl, hcb⟩ := hcp
  have HP : Hid (readL x r = if cb = true then some ⟨2, l, 0⟩ else none) := by
    show _ = _
    rw [HQ.out, ← hcb]
    cases cb <;> rfl
  clear hcb HQ
  obtain ⟨hb2, hg2, hl2⟩ := box1 w1 (.cells (lnV l) 29)
  have hlt0 := blk_lt hx0
  have hx2 := blk_below hx0 hb2 hlt0
  have hbw2 := hb0.trans (hb2.mono hb0.size)
  go_upto_region 12 with (refine wpList_store_last rfl 29 (.tmp 8) (.tmp 65) rfl (lnV l) rfl rfl i4 rfl (lnV_one _) ?_)
  generalize w1.alloc (.cells (lnV l) 29) = w2 at *
  clear hb2 hx0 hb0
  have hb0 := hbw2
  clear hbw2
  go_wp2_with (first | refine wpList_load_row rfl 29 (.tmp 8) rfl w1.heap.size rfl 29 (lnV l) (0, 0) _ hg2 Tryz.underlying29 rfl i4 ?_ | refine wpList_buildV rfl 141 [(0, .const (.int .i64 2)), (1, .tmp 67)] rfl (some 68) rfl [(0, .int .i64 2), (1, .agg (lnV l))] rfl _ (cm_built 2 l) ?_ | refine wpList_store_whole rfl 141 (.tmp 4) (.tmp 68) rfl (cmV ⟨2, l, 0⟩) rfl rfl hx2 i6 rfl (cmV_one _) ?_)
  intro wz hgz hgrz
  have hbz := grown1 hb0 hgrz (Nat.le_refl _)
  go_wp2_with fail
  exact ret_row2 (fn := Tryz.f114) (x := .bool cb) (cs := cmV ⟨2, l, 0⟩) rfl rfl rfl hgz Tryz.underlying141 rfl i6 rfl ⟨⟨_, _, rfl, HP.out.symm⟩, hbz⟩
end Go.Proofs.YtecfkhgocjbocaaGreatDoor
namespace Go.Proofs.YtecfkhgocjbocaaGreatDoor
set_option linter.unusedVariables false
set_option linter.unusedSimpArgs false
open Go Go.RowKit

theorem read_any (x : List UInt8) (r : List (List UInt8)) (A : Option Addr) (n c : Nat) (w : World) (h : Sl w 1 (.slice A n c) (STR r)) (hL : ∀ x ∈ r, x.length ≤ 2000000) (hen : Env w) :
    Calls Tryz.prog 114 #[.string (S8 x), .slice A n c] w fun e w' => CmdPost (readL x r) e ∧ Below w.heap.size w w' := by
  by_cases h0 : plainW x = 0
  case neg => exact read_plain x r A n c w h h0
  have hl := (sl_lensS h).1
  have e1 := eqS (S8 x) wCC
  have e2 := eqS (S8 x) wRoll
  have e3 := eqS (S8 x) wSet
  have e4 := eqS (S8 x) wDelete
  rw [bl_S8] at e1 e2 e3 e4
  by_cases h1 : x = wCC
  · rw [decide_eq_true h1] at e1
    by_cases hr : ∃ y, r = [y]
    · obtain ⟨y, rfl⟩ := hr
      exact read_cc x y A n c w h h0 h1 (hL y (by simp)) e1 e1
    · have hn : n ≠ 1 := fun e => hr (by
        match r, hl with
        | [y], _ => exact ⟨y, rfl⟩
        | [], hl => simp at hl; omega
        | _ :: _ :: _, hl => simp at hl; omega)
      have h2 : x ≠ wRoll := by rw [h1]; decide
      have h3 : x ≠ wSet := by rw [h1]; decide
      have h4 : x ≠ wDelete := by rw [h1]; decide
      rw [decide_eq_false h2] at e2
      rw [decide_eq_false h3] at e3
      rw [decide_eq_false h4] at e4
      refine read_odd x r A n c w h h0 true false e1 e2 e3 e4 (fun _ => hn) ?_
      show _ = _
      unfold readL
      rw [if_neg (by rw [h0]; simp), if_pos h1]
      split
      · exact absurd ⟨_, rfl⟩ hr
      · rfl
  rw [decide_eq_false h1] at e1
  by_cases h2 : x = wRoll
  · rw [decide_eq_true h2] at e2
    by_cases hr : ∃ y, r = [y]
    · obtain ⟨y, rfl⟩ := hr
      exact read_roll x y A n c w h h0 h2 h1 (hL y (by simp)) e1 e2
    · have hn : n ≠ 1 := fun e => hr (by
        match r, hl with
        | [y], _ => exact ⟨y, rfl⟩
        | [], hl => simp at hl; omega
        | _ :: _ :: _, hl => simp at hl; omega)
      have h3 : x ≠ wSet := by rw [h2]; decide
      have h4 : x ≠ wDelete := by rw [h2]; decide
      rw [decide_eq_false h3] at e3
      rw [decide_eq_false h4] at e4
      refine read_odd x r A n c w h h0 false true e1 e2 e3 e4 (fun _ => hn) ?_
      show _ = _
      unfold readL
      rw [if_neg (by rw [h0]; simp), if_neg h1, if_pos h2]
      split
      · exact absurd ⟨_, rfl⟩ hr
      · rfl
  rw [decide_eq_false h2] at e2
  by_cases h3 : x = wSet
  · rw [decide_eq_true h3] at e3
    exact read_set x r A n c w h hL hen h0 h3 h1 h2 e1 e2 e3 e3
  rw [decide_eq_false h3] at e3
  by_cases h4 : x = wDelete
  · rw [decide_eq_true h4] at e4
    exact read_del x r A n c w h hL hen h0 h4 h1 h2 h3 e1 e2 e3 e4
  rw [decide_eq_false h4] at e4
  refine read_odd x r A n c w h h0 false false e1 e2 e3 e4 (fun h => by simp at h) ?_
  show _ = _
  unfold readL
  rw [if_neg (by rw [h0]; simp), if_neg h1, if_neg h2, if_neg h3, if_neg h4]
set_option maxRecDepth 100000 in
set_option maxHeartbeats 800000 in
theorem signIx_any (A : Option Addr) (n c : Nat) (l : List (List UInt8)) (w : World) (h : Sl w 1 (.slice A n c) (STR l)) :
    Calls Tryz.prog 124 #[.slice A n c, .func (.func 113) #[] #[]] w fun e w' => ∃ r : Int, e = .returned (.int .i64 r) ∧ decide (0 ≤ r) = l.any isSgn ∧ w' = w := by
  obtain ⟨hl1, hl2, hl3⟩ := sl_lensS h
  have HL := hid hl1
  clear hl1
  go_enter Tryz.func124, Tryz.ntmps124
  go_wp2_with fail
  go_loop [8] (fun i => ∃ k : Nat, k ≤ n ∧ i = .int .i64 k ∧ Hid ((l.take k).any isSgn = false)) (fun i => n - (intOf i).toNat)
  case atStart => exact ⟨0, Nat.zero_le _, rfl, hid (by simp)⟩
  case round =>
    obtain ⟨k, hk, rfl, hok⟩ := hrel
    by_cases hlt : k < n
    · obtain ⟨b, off, rfl, hbl, p0⟩ := STR_cell h hlt
      have hS := isSign_any (S8 (l.getD k [])) w
      rw [bl_S8] at hS
      have HS := hid hS
      have HT : Hid ((l.take (k + 1)).any isSgn = isSgn (l.getD k [])) := by
        show _ = _
        have hk2 : k < l.length := by rw [HL.out]; exact hlt
        rw [List.take_succ_eq_append_getElem hk2, List.any_append, hok.out, List.getD_eq_getElem?_getD, List.getElem?_eq_getElem hk2]
        simp
      clear hS
      generalize l.getD k [] = x at *
      generalize isSgn x = bs at *
      go_wp2_with fail
      refine HS.out.mono ?_
      rintro e w' ⟨rfl, rfl⟩
      cases bs with
      | true =>
        go_wp2_with fail
        go_ret
        refine ⟨_, rfl, ?_, rfl⟩
        have h1 := HT.out
        rw [show l.any isSgn = true by rw [← List.take_append_drop (k + 1) l, List.any_append, h1]; rfl]
        rw [decide_eq_true_iff]
        omega
      | false =>
        go_wp2_with fail
        go_light
        exact ⟨⟨k + 1, by omega, by go_num, HT⟩, by simp [intOf]; omega⟩
    · obtain rfl : k = n := by omega
      go_wp2_with fail
      go_ret
      refine ⟨_, rfl, ?_, rfl⟩
      have h1 := hok.out
      rw [← HL.out, List.take_length] at h1
      rw [h1]
      decide
set_option maxRecDepth 100000 in
set_option maxHeartbeats 800000 in
theorem signs_any (A : Option Addr) (n c : Nat) (l : List (List UInt8)) (w : World) (h : Sl w 1 (.slice A n c) (STR l)) :
    Calls Tryz.prog 98 #[.slice A n c, .func (.func 113) #[] #[]] w fun e w' => e = .returned (.bool (l.any isSgn)) ∧ w' = w := by
  go_enter Tryz.func98, Tryz.ntmps98
  go_wp2_with fail
  refine (signIx_any A n c l w h).mono ?_
  rintro e w1 ⟨r, rfl, hr, rfl⟩
  have HR := hid hr
  clear hr
  go_wp2_with fail
  go_ret
  exact ⟨ret_bool HR.out, rfl⟩
end Go.Proofs.YtecfkhgocjbocaaGreatDoor
namespace Go.Proofs.YtecfkhgocjbocaaGreatDoor
set_option linter.unusedVariables false
set_option linter.unusedSimpArgs false
open Go Go.RowKit

def ReadPost (x : Option Cmd) (e : Ending) : Prop := ∃ c er, e = .returned (.tuple #[.agg (cmV c), .int .i64 er]) ∧ ((x = some c ∧ er = 0) ∨ (x = none ∧ c = cmd0 ∧ er = 3))
/-- a command that is stored whole -/
def storeA (us : List Nat) (T : TypeId) : Loud := argL us (fun _ _ => True) (fun xs _ S w => ∃ g cs, xs = [.pointer (some ⟨g, 0, none⟩), .agg cs] ∧ BlkF g T cs S w)
theorem storeA_ok (us : List Nat) (T : TypeId) : (storeA us T).Ok :=
  argL_ok (fun _ => ⟨undef, trivial⟩) (fun xs _ S S' w w' h1 h2 ⟨g, cs, h3, h4⟩ => ⟨g, cs, h3, good_blk _ _ _ S S' w w' h1 h2 h4⟩)
theorem storeA_get {S : Nat → Prop} {w : World} {g : Nat} {T : TypeId} {cs' : Array Value} (h : ∃ g' cs, [Value.pointer (some ⟨g, 0, none⟩), .agg cs'] = [.pointer (some ⟨g', 0, none⟩), .agg cs] ∧ BlkF g' T cs S w) : BlkF g T cs' S w := by
  obtain ⟨g', cs, h1, h2⟩ := h
  injection h1 with h1 h3
  injection h1 with h1
  injection h1 with h1
  injection h1 with h1
  injection h3 with h3
  injection h3 with h3
  subst h1
  subst h3
  exact h2
def CmdV (x : Option Cmd) (v : Value) : Prop := ∃ c b, v = .tuple #[.agg (cmV c), .bool b] ∧ (if b = true then some c else none) = x
theorem CmdPost.val {x : Option Cmd} {e : Ending} (h : CmdPost x e) : ∃ v, e = .returned v ∧ CmdV x v := by
  obtain ⟨c, b, rfl, h⟩ := h
  exact ⟨_, rfl, c, b, rfl, h⟩
theorem cmdV_any (x : Option Cmd) : ∃ v, CmdV x v := by
  cases x with
  | none => exact ⟨_, cmd0, false, rfl, rfl⟩
  | some c => exact ⟨_, c, true, rfl, rfl⟩
theorem toks31 (s : List UInt8) : ∀ w ∈ (LX.run s 0 []).1, w.length ≤ 31 := fun w hw => by
  rcases LX.run_toks s.length s 0 [] (Nat.le_refl _) (fun w h => by simp at h) w hw with ⟨c, rfl, _⟩ | h
  · simp
  · exact h.2.1
set_option maxRecDepth 100000 in
set_option maxHeartbeats 1600000 in
theorem Read_err (s : ByteArray) (w : World) (hs : s.size ≤ 2000000) (L : List (List UInt8)) (k : Nat) (hR : LX.run (bl s) 0 [] = (L, k, 3)) :
    Calls Tryz.prog 84 #[.string s] w fun e w' => ReadPost none e ∧ Below w.heap.size w w' := by
  have hV := words_any s
  have h31 := toks31 (bl s)
  generalize LX.run (bl s) 0 [] = R at *
  subst hR
  simp only at hV h31
  have HV := hid (fun w => hV w hs)
  have H31 := hid h31
  clear hV h31
  obtain ⟨hb0, hx0, hl0⟩ := box1 w (.cells #[.int .i64 0, .int .i64 0, .string ⟨#[]⟩, .string ⟨#[]⟩, .string ⟨#[]⟩, .int .i64 0] 141)
  go_enter Tryz.func84, Tryz.ntmps84
  go_upto_region 1 with fail
  generalize w.alloc (.cells #[.int .i64 0, .int .i64 0, .string ⟨#[]⟩, .string ⟨#[]⟩, .string ⟨#[]⟩, .int .i64 0] 141) = w0 at *
  go_wp2_with fail
  refine (HV.out w0).mono ?_
  rintro e w1 ⟨A, c, rfl, ho, hb1⟩
  replace hx0 := blk_below hx0 hb1 hl0
  replace hb0 := hb0.trans (hb1.mono hb0.size)
  have hsl := own_sl ho
  clear hb1 hl0 HV ho
  go_wp2_with (refine wpList_store_whole rfl 141 (.tmp 2) (.tmp 26) rfl (cmV cmd0) rfl rfl hx0 i6 rfl (cmV_one _) ?_)
  intro wz hgz hgrz
  have hbz := grown1 hb0 hgrz (Nat.le_refl _)
  go_wp2_with fail
  exact ret_row2 (fn := Tryz.f84) (x := .int .i64 3) (cs := cmV cmd0) rfl rfl rfl hgz Tryz.underlying141 rfl i6 rfl ⟨⟨_, _, rfl, .inr ⟨rfl, rfl, rfl⟩⟩, hbz⟩
set_option maxRecDepth 100000 in
set_option maxHeartbeats 1600000 in
theorem Read_nil (s : ByteArray) (w : World) (hs : s.size ≤ 2000000) (k : Nat) (hR : LX.run (bl s) 0 [] = ([], k, 0)) :
    Calls Tryz.prog 84 #[.string s] w fun e w' => ReadPost none e ∧ Below w.heap.size w w' := by
  have hV := words_any s
  have h31 := toks31 (bl s)
  generalize LX.run (bl s) 0 [] = R at *
  subst hR
  simp only at hV h31
  have HV := hid (fun w => hV w hs)
  have H31 := hid h31
  clear hV h31
  obtain ⟨hb0, hx0, hl0⟩ := box1 w (.cells #[.int .i64 0, .int .i64 0, .string ⟨#[]⟩, .string ⟨#[]⟩, .string ⟨#[]⟩, .int .i64 0] 141)
  go_enter Tryz.func84, Tryz.ntmps84
  go_upto_region 1 with fail
  generalize w.alloc (.cells #[.int .i64 0, .int .i64 0, .string ⟨#[]⟩, .string ⟨#[]⟩, .string ⟨#[]⟩, .int .i64 0] 141) = w0 at *
  go_wp2_with fail
  refine (HV.out w0).mono ?_
  rintro e w1 ⟨A, c, rfl, ho, hb1⟩
  replace hx0 := blk_below hx0 hb1 hl0
  replace hb0 := hb0.trans (hb1.mono hb0.size)
  have hsl := own_sl ho
  clear hb1 hl0 HV ho
  go_wp2_with (refine wpList_store_whole rfl 141 (.tmp 2) (.tmp 26) rfl (cmV cmd0) rfl rfl hx0 i6 rfl (cmV_one _) ?_)
  intro wz hgz hgrz
  have hbz := grown1 hb0 hgrz (Nat.le_refl _)
  go_wp2_with fail
  exact ret_row2 (fn := Tryz.f84) (x := .int .i64 3) (cs := cmV cmd0) rfl rfl rfl hgz Tryz.underlying141 rfl i6 rfl ⟨⟨_, _, rfl, .inr ⟨rfl, rfl, rfl⟩⟩, hbz⟩
set_option maxRecDepth 100000 in
set_option maxHeartbeats 1600000 in
theorem Read_sgn (s : ByteArray) (w : World) (hs : s.size ≤ 2000000) (L : List (List UInt8)) (k : Nat) (hR : LX.run (bl s) 0 [] = (L, k, 0)) (hL0 : L ≠ []) (hG : L.any isSgn = true) :
    Calls Tryz.prog 84 #[.string s] w fun e w' => ReadPost none e ∧ Below w.heap.size w w' := by
  have HG := hid hG
  clear hG
  have hV := words_any s
  have h31 := toks31 (bl s)
  generalize LX.run (bl s) 0 [] = R at *
  subst hR
  simp only at hV h31
  have HV := hid (fun w => hV w hs)
  have H31 := hid h31
  clear hV h31
  obtain ⟨hb0, hx0, hl0⟩ := box1 w (.cells #[.int .i64 0, .int .i64 0, .string ⟨#[]⟩, .string ⟨#[]⟩, .string ⟨#[]⟩, .int .i64 0] 141)
  go_enter Tryz.func84, Tryz.ntmps84
  go_upto_region 1 with fail
  generalize w.alloc (.cells #[.int .i64 0, .int .i64 0, .string ⟨#[]⟩, .string ⟨#[]⟩, .string ⟨#[]⟩, .int .i64 0] 141) = w0 at *
  go_wp2_with fail
  refine (HV.out w0).mono ?_
  rintro e w1 ⟨A, c, rfl, ho, hb1⟩
  replace hx0 := blk_below hx0 hb1 hl0
  replace hb0 := hb0.trans (hb1.mono hb0.size)
  have hsl := own_sl ho
  clear hb1 hl0 HV ho
  have hlen := (sl_lensS hsl).1
  have hne : 0 < L.length := by cases L with
    | nil => exact absurd rfl hL0
    | cons a b => simp
  have t0 : ((L.length : Int) == 0) = false := by rw [beq_eq_false_iff_ne]; omega
  obtain ⟨hcn, hcm⟩ := (sl_lensS hsl).2
  have HSG := hid (fun w' h => signs_any A L.length c L w' h)
  generalize hn : L.length = n at *
  have HN := hid hn
  clear hn hlen
  go_wp2_with fail
  refine (HSG.out w1 hsl).mono ?_
  rintro e w1 ⟨rfl, rfl⟩
  rw [HG.out]
  clear HSG
  go_wp2_with (refine wpList_store_whole rfl 141 (.tmp 2) (.tmp 26) rfl (cmV cmd0) rfl rfl hx0 i6 rfl (cmV_one _) ?_)
  intro wz hgz hgrz
  have hbz := grown1 hb0 hgrz (Nat.le_refl _)
  go_wp2_with fail
  exact ret_row2 (fn := Tryz.f84) (x := .int .i64 3) (cs := cmV cmd0) rfl rfl rfl hgz Tryz.underlying141 rfl i6 rfl ⟨⟨_, _, rfl, .inr ⟨rfl, rfl, rfl⟩⟩, hbz⟩
set_option maxRecDepth 100000 in
set_option maxHeartbeats 3200000 in
theorem Read_yes (s : ByteArray) (w : World) (hs : s.size ≤ 2000000) (hen : Env w) (L : List (List UInt8)) (x : List UInt8) (r : List (List UInt8)) (k : Nat) (hR : LX.run (bl s) 0 [] = (L, k, 0)) (hL : L = x :: r) (hG : L.any isSgn = false) :
    Calls Tryz.prog 84 #[.string s] w fun e w' => ReadPost (readL x r) e ∧ Below w.heap.size w w' := by
  have HG := hid hG
  have hL0 : L ≠ [] := by rw [hL]; simp
  have HLL := hid hL
  have HEN := hid hen
  clear hG hL hen
  have hV := words_any s
  have h31 := toks31 (bl s)
  generalize LX.run (bl s) 0 [] = R at *
  subst hR
  simp only at hV h31
  have HV := hid (fun w => hV w hs)
  have H31 := hid h31
  clear hV h31
  obtain ⟨hb0, hx0, hl0⟩ := box1 w (.cells #[.int .i64 0, .int .i64 0, .string ⟨#[]⟩, .string ⟨#[]⟩, .string ⟨#[]⟩, .int .i64 0] 141)
  go_enter Tryz.func84, Tryz.ntmps84
  go_upto_region 1 with fail
  generalize w.alloc (.cells #[.int .i64 0, .int .i64 0, .string ⟨#[]⟩, .string ⟨#[]⟩, .string ⟨#[]⟩, .int .i64 0] 141) = w0 at *
  go_wp2_with fail
  refine (HV.out w0).mono ?_
  rintro e w1 ⟨A, c, rfl, ho, hb1⟩
  replace hx0 := blk_below hx0 hb1 hl0
  replace hb0 := hb0.trans (hb1.mono hb0.size)
  have hsl := own_sl ho
  clear hb1 hl0 HV ho
  have hlen := (sl_lensS hsl).1
  have hne : 0 < L.length := by cases L with
    | nil => exact absurd rfl hL0
    | cons a b => simp
  have t0 : ((L.length : Int) == 0) = false := by rw [beq_eq_false_iff_ne]; omega
  obtain ⟨hcn, hcm⟩ := (sl_lensS hsl).2
  have HSG := hid (fun w' h => signs_any A L.length c L w' h)
  generalize hn : L.length = n at *
  have HN := hid hn
  clear hn hlen
  go_wp2_with fail
  refine (HSG.out w1 hsl).mono ?_
  rintro e w1 ⟨rfl, rfl⟩
  rw [HG.out]
  clear HSG
  have hen1 := HEN.out.below hb0
  obtain ⟨b, off, rfl, hbl, p0⟩ := STR_cell hsl (k := 0) hne
  rw [HLL.out] at p0
  simp only [List.getD_cons_zero, Nat.add_zero] at p0
  have hd1 := sl_dropS hsl 1 (by omega)
  have HD1 : Hid (L.drop 1 = r) := by show _ = _; rw [HLL.out]; rfl
  rw [HD1.out] at hd1
  have hL1 : ∀ y ∈ r, y.length ≤ 2000000 := fun y hy => by have := H31.out y (by rw [HLL.out]; exact List.mem_cons_of_mem _ hy); omega
  have hc1 : 1 ≤ c := by omega
  clear hsl HD1 H31 HEN HG hL0
  by_cases hc : c = 1
  · obtain rfl : n = 1 := by omega
    subst hc
    simp only [if_true, Nat.sub_self] at hd1
    have HRD : Hid (∀ wS, Below w1.heap.size w1 wS → Calls Tryz.prog 114 #[.string (S8 x), .slice (some ⟨b, off, none⟩) 0 0] wS fun e w' => CmdPost (readL x r) e ∧ Below wS.heap.size wS w') := fun wS hb => read_any x r _ _ _ wS (hd1.below hb) hL1 (hen1.below hb)
    have z0 := fun (z : WK (fun _ => False) w1) => (wat_cell (p := ⟨b, off, none⟩) hbl (fun e => e) z).trans p0
    clear p0 hd1 hL1 hen1
    go_wp2_with fail
    refine wp_region_loud (fun _ => False) [(5, factL [] (CmdV (readL x r)) (fun _ => Fact.none)), (9, newL 141 #[.int .i64 0, .int .i64 0, .string ⟨#[]⟩, .string ⟨#[]⟩, .string ⟨#[]⟩, .int .i64 0]), (10, storeA [9] 141)] (fun _ => Fact.none) (by kernel_rfl) (by kernel_rfl)
      (.cons (factL_ok (cmdV_any _) (fun _ => Good.none)) (.cons (newL_ok _ _) (.cons (storeA_ok _ _) .nil))) good_nothing sat_none (WX.out ?_)
    repeat (first | (refine wx_quietU (by rfl) (by rfl) (by rfl) (fun K hK => ?_); go_big_quiet_op; refine hK _ ?_; clear hK K) | (refine wx_quietG (by rfl) (by rfl) (by rfl) (by rfl) (by rfl) (fun K hK => ?_); go_big_quiet_op; refine hK _ ?_; clear hK K) | (refine wx_skipG (by rfl) (by rfl) (by rfl) (fun K hK => ?_); go_simp; refine hK _ ?_; clear hK K) | (refine wx_skipN (by rfl) (by rfl) (by rfl) (fun K hK => ?_); go_simp; refine hK _ ?_; clear hK K))
    refine wx_loudU (us := []) (by rfl) (by rfl) (fun S wS hC hS hU => runs_enter (f := 114) (by go_simp <;> rfl) ?_) (fun v hv K hK => ?_)
    · refine (HRD.out wS hC.below).mono ?_
      rintro e w' ⟨hcp, hb⟩
      obtain ⟨v, rfl, hv⟩ := hcp.val
      exact ⟨v, rfl, hv, Kept.of_below hb, trivial⟩
    obtain ⟨cm, cb, rfl, hcb⟩ := hv
    have HCB := hid hcb
    clear hcb
    (go_simp; refine hK _ ?_; clear hK K)
    repeat (first | (refine wx_quietU (by rfl) (by rfl) (by rfl) (fun K hK => ?_); go_big_quiet_op; refine hK _ ?_; clear hK K) | (refine wx_quietG (by rfl) (by rfl) (by rfl) (by rfl) (by rfl) (fun K hK => ?_); go_big_quiet_op; refine hK _ ?_; clear hK K) | (refine wx_skipG (by rfl) (by rfl) (by rfl) (fun K hK => ?_); go_simp; refine hK _ ?_; clear hK K) | (refine wx_skipN (by rfl) (by rfl) (by rfl) (fun K hK => ?_); go_simp; refine hK _ ?_; clear hK K))
    refine wx_loudU (us := []) (by rfl) (by rfl) (fun S wS hC hS hU => ?_) (fun v hv K hK => ?_)
    · exact runs_value (by go_simp <;> rfl) (newB_x rfl)
    obtain ⟨g9, rfl⟩ := hv; (go_simp; refine hK _ ?_; clear hK K)
    repeat (first | (refine wx_quietU (by rfl) (by rfl) (by rfl) (fun K hK => ?_); go_big_quiet_op; refine hK _ ?_; clear hK K) | (refine wx_quietG (by rfl) (by rfl) (by rfl) (by rfl) (by rfl) (fun K hK => ?_); go_big_quiet_op; refine hK _ ?_; clear hK K) | (refine wx_skipG (by rfl) (by rfl) (by rfl) (fun K hK => ?_); go_simp; refine hK _ ?_; clear hK K) | (refine wx_skipN (by rfl) (by rfl) (by rfl) (fun K hK => ?_); go_simp; refine hK _ ?_; clear hK K))
    refine wx_loudU (us := [9]) (by rfl) (by rfl) (fun S wS hC hS hU => ?_) (fun v hv K hK => ?_)
    · have hB := newB_get (g := g9) (T := 141) (cs := #[.int .i64 0, .int .i64 0, .string ⟨#[]⟩, .string ⟨#[]⟩, .string ⟨#[]⟩, .int .i64 0]) (hU 9 (by simp))
      clear hU
      exact runs_store_whole 141 (.tmp 7) (.tmp 34) rfl (cmV cm) rfl rfl hB.2 i6 rfl (cmV_one _) ⟨trivial, kept_setRow wS g9 _ hB.1, g9, cmV cm, rfl, .inl hB.1, setRow_heap _ _ _ _ _ _ hB.2⟩
    (go_simp; refine hK _ ?_; clear hK K)
    repeat (first | (refine wx_quietU (by rfl) (by rfl) (by rfl) (fun K hK => ?_); go_big_quiet_op; refine hK _ ?_; clear hK K) | (refine wx_quietG (by rfl) (by rfl) (by rfl) (by rfl) (by rfl) (fun K hK => ?_); go_big_quiet_op; refine hK _ ?_; clear hK K) | (refine wx_skipG (by rfl) (by rfl) (by rfl) (fun K hK => ?_); go_simp; refine hK _ ?_; clear hK K) | (refine wx_skipN (by rfl) (by rfl) (by rfl) (fun K hK => ?_); go_simp; refine hK _ ?_; clear hK K))
    refine wx_nil fun w2 hsat => ?_
    obtain ⟨S9, hS9, hF9⟩ := sat_get hsat 10
    have hg2 : w2.heap[g9]? = some (.cells (cmV cm) 141 (0, 0)) := (storeA_get (g := g9) hF9).2
    have hb2 := sat_below hsat
    have hx2 := blk_below hx0 hb2 (blk_lt hx0)
    have hbw2 := hb0.trans (hb2.mono hb0.size)
    clear hsat hF9 hS9 z0 hb2 hx0 HRD hb0
    have hx0 := hx2
    have hb0 := hbw2
    clear hx2 hbw2
    cases cb with
    | false =>
      have HQ : Hid (readL x r = none) := HCB.out.symm
      clear HCB
      go_wp2_with (refine wpList_store_whole rfl 141 (.tmp 2) (.tmp 38) rfl (cmV cmd0) rfl rfl hx0 i6 rfl (cmV_one _) ?_)
      intro wz hgz hgrz
      have hbz := grown1 hb0 hgrz (Nat.le_refl _)
      go_wp2_with fail
      exact ret_row2 (fn := Tryz.f84) (x := .int .i64 3) (cs := cmV cmd0) rfl rfl rfl hgz Tryz.underlying141 rfl i6 rfl ⟨⟨_, _, rfl, .inr ⟨HQ.out, rfl, rfl⟩⟩, hbz⟩
    | true =>
      have HQ : Hid (readL x r = some cm) := HCB.out.symm
      clear HCB
      go_wp2_with (first | refine wpList_load_row rfl 141 (.tmp 7) rfl g9 rfl 141 (cmV cm) (0, 0) _ hg2 Tryz.underlying141 rfl i6 ?_ | refine wpList_store_whole rfl 141 (.tmp 2) (.tmp 39) rfl (cmV cm) rfl rfl hx0 i6 rfl (cmV_one _) ?_)
      intro wz hgz hgrz
      have hbz := grown1 hb0 hgrz (Nat.le_refl _)
      go_wp2_with fail
      exact ret_row2 (fn := Tryz.f84) (x := .int .i64 0) (cs := cmV cm) rfl rfl rfl hgz Tryz.underlying141 rfl i6 rfl ⟨⟨_, _, rfl, .inl ⟨HQ.out, rfl⟩⟩, hbz⟩
  · rw [if_neg hc] at hd1
    simp only [Option.map_some, addr_add] at hd1
    have HRD : Hid (∀ wS, Below w1.heap.size w1 wS → Calls Tryz.prog 114 #[.string (S8 x), .slice (some ⟨b, off + 1, none⟩) (n - 1) (c - 1)] wS fun e w' => CmdPost (readL x r) e ∧ Below wS.heap.size wS w') := fun wS hb => read_any x r _ _ _ wS (hd1.below hb) hL1 (hen1.below hb)
    have z0 := fun (z : WK (fun _ => False) w1) => (wat_cell (p := ⟨b, off, none⟩) hbl (fun e => e) z).trans p0
    clear p0 hd1 hL1 hen1
    go_wp2_with fail
    refine wp_region_loud (fun _ => False) [(5, factL [] (CmdV (readL x r)) (fun _ => Fact.none)), (9, newL 141 #[.int .i64 0, .int .i64 0, .string ⟨#[]⟩, .string ⟨#[]⟩, .string ⟨#[]⟩, .int .i64 0]), (10, storeA [9] 141)] (fun _ => Fact.none) (by kernel_rfl) (by kernel_rfl)
      (.cons (factL_ok (cmdV_any _) (fun _ => Good.none)) (.cons (newL_ok _ _) (.cons (storeA_ok _ _) .nil))) good_nothing sat_none (WX.out ?_)
    repeat (first | (refine wx_quietU (by rfl) (by rfl) (by rfl) (fun K hK => ?_); go_big_quiet_op; refine hK _ ?_; clear hK K) | (refine wx_quietG (by rfl) (by rfl) (by rfl) (by rfl) (by rfl) (fun K hK => ?_); go_big_quiet_op; refine hK _ ?_; clear hK K) | (refine wx_skipG (by rfl) (by rfl) (by rfl) (fun K hK => ?_); go_simp; refine hK _ ?_; clear hK K) | (refine wx_skipN (by rfl) (by rfl) (by rfl) (fun K hK => ?_); go_simp; refine hK _ ?_; clear hK K))
    refine wx_loudU (us := []) (by rfl) (by rfl) (fun S wS hC hS hU => runs_enter (f := 114) (by go_simp <;> rfl) ?_) (fun v hv K hK => ?_)
    · refine (HRD.out wS hC.below).mono ?_
      rintro e w' ⟨hcp, hb⟩
      obtain ⟨v, rfl, hv⟩ := hcp.val
      exact ⟨v, rfl, hv, Kept.of_below hb, trivial⟩
    obtain ⟨cm, cb, rfl, hcb⟩ := hv
    have HCB := hid hcb
    clear hcb
    (go_simp; refine hK _ ?_; clear hK K)
    repeat (first | (refine wx_quietU (by rfl) (by rfl) (by rfl) (fun K hK => ?_); go_big_quiet_op; refine hK _ ?_; clear hK K) | (refine wx_quietG (by rfl) (by rfl) (by rfl) (by rfl) (by rfl) (fun K hK => ?_); go_big_quiet_op; refine hK _ ?_; clear hK K) | (refine wx_skipG (by rfl) (by rfl) (by rfl) (fun K hK => ?_); go_simp; refine hK _ ?_; clear hK K) | (refine wx_skipN (by rfl) (by rfl) (by rfl) (fun K hK => ?_); go_simp; refine hK _ ?_; clear hK K))
    refine wx_loudU (us := []) (by rfl) (by rfl) (fun S wS hC hS hU => ?_) (fun v hv K hK => ?_)
    · exact runs_value (by go_simp <;> rfl) (newB_x rfl)
    obtain ⟨g9, rfl⟩ := hv; (go_simp; refine hK _ ?_; clear hK K)
    repeat (first | (refine wx_quietU (by rfl) (by rfl) (by rfl) (fun K hK => ?_); go_big_quiet_op; refine hK _ ?_; clear hK K) | (refine wx_quietG (by rfl) (by rfl) (by rfl) (by rfl) (by rfl) (fun K hK => ?_); go_big_quiet_op; refine hK _ ?_; clear hK K) | (refine wx_skipG (by rfl) (by rfl) (by rfl) (fun K hK => ?_); go_simp; refine hK _ ?_; clear hK K) | (refine wx_skipN (by rfl) (by rfl) (by rfl) (fun K hK => ?_); go_simp; refine hK _ ?_; clear hK K))
    refine wx_loudU (us := [9]) (by rfl) (by rfl) (fun S wS hC hS hU => ?_) (fun v hv K hK => ?_)
    · have hB := newB_get (g := g9) (T := 141) (cs := #[.int .i64 0, .int .i64 0, .string ⟨#[]⟩, .string ⟨#[]⟩, .string ⟨#[]⟩, .int .i64 0]) (hU 9 (by simp))
      clear hU
      exact runs_store_whole 141 (.tmp 7) (.tmp 34) rfl (cmV cm) rfl rfl hB.2 i6 rfl (cmV_one _) ⟨trivial, kept_setRow wS g9 _ hB.1, g9, cmV cm, rfl, .inl hB.1, setRow_heap _ _ _ _ _ _ hB.2⟩
    (go_simp; refine hK _ ?_; clear hK K)
    repeat (first | (refine wx_quietU (by rfl) (by rfl) (by rfl) (fun K hK => ?_); go_big_quiet_op; refine hK _ ?_; clear hK K) | (refine wx_quietG (by rfl) (by rfl) (by rfl) (by rfl) (by rfl) (fun K hK => ?_); go_big_quiet_op; refine hK _ ?_; clear hK K) | (refine wx_skipG (by rfl) (by rfl) (by rfl) (fun K hK => ?_); go_simp; refine hK _ ?_; clear hK K) | (refine wx_skipN (by rfl) (by rfl) (by rfl) (fun K hK => ?_); go_simp; refine hK _ ?_; clear hK K))
    refine wx_nil fun w2 hsat => ?_
    obtain ⟨S9, hS9, hF9⟩ := sat_get hsat 10
    have hg2 : w2.heap[g9]? = some (.cells (cmV cm) 141 (0, 0)) := (storeA_get (g := g9) hF9).2
    have hb2 := sat_below hsat
    have hx2 := blk_below hx0 hb2 (blk_lt hx0)
    have hbw2 := hb0.trans (hb2.mono hb0.size)
    clear hsat hF9 hS9 z0 hb2 hx0 HRD hb0
    have hx0 := hx2
    have hb0 := hbw2
    clear hx2 hbw2
    cases cb with
    | false =>
      have HQ : Hid (readL x r = none) := HCB.out.symm
      clear HCB
      go_wp2_with (refine wpList_store_whole rfl 141 (.tmp 2) (.tmp 38) rfl (cmV cmd0) rfl rfl hx0 i6 rfl (cmV_one _) ?_)
      intro wz hgz hgrz
      have hbz := grown1 hb0 hgrz (Nat.le_refl _)
      go_wp2_with fail
      exact ret_row2 (fn := Tryz.f84) (x := .int .i64 3) (cs := cmV cmd0) rfl rfl rfl hgz Tryz.underlying141 rfl i6 rfl ⟨⟨_, _, rfl, .inr ⟨HQ.out, rfl, rfl⟩⟩, hbz⟩
    | true =>
      have HQ : Hid (readL x r = some cm) := HCB.out.symm
      clear HCB
      go_wp2_with (first | refine wpList_load_row rfl 141 (.tmp 7) rfl g9 rfl 141 (cmV cm) (0, 0) _ hg2 Tryz.underlying141 rfl i6 ?_ | refine wpList_store_whole rfl 141 (.tmp 2) (.tmp 39) rfl (cmV cm) rfl rfl hx0 i6 rfl (cmV_one _) ?_)
      intro wz hgz hgrz
      have hbz := grown1 hb0 hgrz (Nat.le_refl _)
      go_wp2_with fail
      exact ret_row2 (fn := Tryz.f84) (x := .int .i64 0) (cs := cmV cm) rfl rfl rfl hgz Tryz.underlying141 rfl i6 rfl ⟨⟨_, _, rfl, .inl ⟨HQ.out, rfl⟩⟩, hbz⟩
theorem Read_any (s : ByteArray) (w : World) (hs : s.size ≤ 2000000) (hen : Env w) : Calls Tryz.prog 84 #[.string s] w fun e w' => ReadPost (readT (bl s)) e ∧ Below w.heap.size w w' := by
  have herr := LX.run_err (bl s).length (bl s) 0 [] (Nat.le_refl _)
  unfold readT
  cases hR : LX.run (bl s) 0 [] with
  | mk L p =>
  obtain ⟨k, er⟩ := p
  rw [hR] at herr
  simp only at herr
  rcases herr with rfl | rfl
  · match L, hR with
    | [], hR => exact Read_nil s w hs k hR
    | x :: r, hR =>
      cases hG : (x :: r).any isSgn with
      | true => simp only [hG, if_true]; exact Read_sgn s w hs (x :: r) k hR (by simp) hG
      | false => simp only [hG]; exact Read_yes s w hs hen (x :: r) x r k hR rfl hG
  · match L, hR with
    | [], hR => exact Read_err s w hs [] k hR
    | x :: r, hR => exact Read_err s w hs (x :: r) k hR
end Go.Proofs.YtecfkhgocjbocaaGreatDoor
namespace Go.Proofs.YtecfkhgocjbocaaGreatDoor.RD
set_option linter.unusedVariables false
set_option linter.unusedSimpArgs false
open Go Go.RowKit

section
variable (P : Program) (ops : Array Oper) (w0 : World) (S0 : Nat → Prop) (U : Nat → Option (List Nat)) (R : Nat → List Nat) (φ : Nat → List Value → Value → Prop) (ρ : Nat → List Value → Value → Fact)

/-- a loud operation: what it needs, what it leaves -/
def trip (o : Oper) (us : List Nat) (k : Nat) (Γ : Nat → Fact) (a : Act) : Prop :=
  ∀ (S : Nat → Prop) (w : World), Kept S0 w0 w → (∀ b, S b → (S0 b ∨ w0.heap.size ≤ b) ∧ b < w.heap.size) → (∀ u ∈ us, Γ u S w) → (∀ u ∈ R k, ∃ S', Γ u S' w) →
    runs P o a w fun v w' => φ k (argsOf o a) v ∧ Kept S w w' ∧ ρ k (argsOf o a) v (fun b => S b ∨ (w.heap.size ≤ b ∧ b < w'.heap.size)) w'
/-- a quiet one -/
def calm (o : Oper) (a : Act) (v : Value) : Prop :=
  ∀ w, Kept S0 w0 w → (execOp a.eval o).run P w = .ok (.value v) w ∨ ((execOp a.eval o).run P w = .ok .skip w ∧ v = undef)

def opX' (o : Oper) (k : Nat) (Γ : Nat → Fact) (a : Act) (K : (Nat → Fact) → Act → Prop) : Prop :=
  if Region.wanted o (yielded ops a.tmps) = true then
    match U k with
    | none => ∃ v, calm P w0 S0 o a v ∧ K Γ (a.put o.dst v)
    | some us => trip P w0 S0 R φ ρ o us k Γ a ∧ ∀ v, φ k (argsOf o a) v → K (upd Γ k us (ρ k (argsOf o a) v)) (a.put o.dst v)
  else K Γ (a.put o.dst undef)
def opX (k : Nat) (Γ : Nat → Fact) (a : Act) (K : (Nat → Fact) → Act → Prop) : Prop :=
  match ops[k]? with
  | none => K Γ a
  | some o => opX' P ops w0 S0 U R φ ρ o k Γ a K
def wpX (Fin : (Nat → Fact) → Act → Prop) : Nat → List Oper → (Nat → Fact) → Act → Prop
  | _, [], Γ, a => Fin Γ a
  | k, o :: l, Γ, a => opX' P ops w0 S0 U R φ ρ o k Γ a (wpX Fin (k + 1) l)
def wpAnyX (md : Region.Mode) (Fin : (Nat → Fact) → Act → Prop) : Nat → Array Bool → (Nat → Fact) → Act → Prop
  | 0, listed, Γ, a => Region.ready md ops listed = [] ∧ Fin Γ a
  | n + 1, listed, Γ, a => (Region.ready md ops listed = [] → Fin Γ a) ∧ ∀ i ∈ Region.ready md ops listed, opX P ops w0 S0 U R φ ρ i Γ a (wpAnyX md Fin n (listed.setIfInBounds i true))
end

section
variable {P : Program} {ops : Array Oper} {w0 : World} {S0 : Nat → Prop} {U : Nat → Option (List Nat)} {R : Nat → List Nat} {φ : Nat → List Value → Value → Prop} {ρ : Nat → List Value → Value → Fact} {md : Region.Mode}

theorem opX'_mono {o : Oper} {k : Nat} {Γ : Nat → Fact} {a : Act} {K K' : (Nat → Fact) → Act → Prop} (h : ∀ Γ a, K Γ a → K' Γ a) (hh : opX' P ops w0 S0 U R φ ρ o k Γ a K) : opX' P ops w0 S0 U R φ ρ o k Γ a K' := by
  unfold opX' at *
  by_cases hw : Region.wanted o (yielded ops a.tmps) = true
  · rw [if_pos hw] at hh ⊢
    cases hU : U k with
    | none => rw [hU] at hh; obtain ⟨v, h1, h2⟩ := hh; exact ⟨v, h1, h _ _ h2⟩
    | some us => rw [hU] at hh; exact ⟨hh.1, fun v hv => h _ _ (hh.2 v hv)⟩
  · rw [if_neg hw] at hh ⊢
    exact h _ _ hh
theorem opX_mono {k : Nat} {Γ : Nat → Fact} {a : Act} {K K' : (Nat → Fact) → Act → Prop} (h : ∀ Γ a, K Γ a → K' Γ a) (hh : opX P ops w0 S0 U R φ ρ k Γ a K) : opX P ops w0 S0 U R φ ρ k Γ a K' := by
  unfold opX at *
  cases ho : ops[k]? with
  | none => rw [ho] at hh; exact h _ _ hh
  | some o => rw [ho] at hh; exact opX'_mono h hh

theorem trip_same {o : Oper} {us : List Nat} {k : Nat} {Γ Γ' : Nat → Fact} {a a' : Act} (h : trip P w0 S0 R φ ρ o us k Γ a) (he : execOp a'.eval o = execOp a.eval o) (hx : argsOf o a' = argsOf o a) (hΓ : ∀ u ∈ us, ∀ S w, Γ' u S w → Γ u S w) (hR : ∀ u ∈ R k, ∀ S w, Γ' u S w → Γ u S w) : trip P w0 S0 R φ ρ o us k Γ' a' := by
  intro S w h1 h2 h3 h4
  have := h S w h1 h2 (fun u hu => hΓ u hu S w (h3 u hu)) (fun u hu => by obtain ⟨S', h5⟩ := h4 u hu; exact ⟨S', hR u hu S' w h5⟩)
  unfold runs at *
  rw [he, hx]
  exact this
theorem calm_same {o : Oper} {a a' : Act} {v : Value} (h : calm P w0 S0 o a v) (he : execOp a'.eval o = execOp a.eval o) : calm P w0 S0 o a' v := by
  intro w hw
  rw [he]
  exact h w hw
theorem calm_unique {o : Oper} {a : Act} {v u : Value} (h : calm P w0 S0 o a v) (k : calm P w0 S0 o a u) : v = u := by
  rcases h w0 (Kept.refl _ _) with h1 | ⟨h1, rfl⟩ <;> rcases k w0 (Kept.refl _ _) with k1 | ⟨k1, rfl⟩
  · rw [h1] at k1; injection k1 with k1; injection k1
  · rw [h1] at k1; injection k1 with k1; cases k1
  · rw [h1] at k1; injection k1 with k1; cases k1
  · rfl

theorem opX_comm {i j : Nat} {oi oj : Oper} (hj : ops[j]? = some oj) (hap : oi.apart ops oj = true) (hsi : ∀ cs b, oi.op ≠ .select cs b) (hsj : ∀ cs b, oj.op ≠ .select cs b)
    (hij : i ≠ j) (hUi : j ∉ usesOf U i) (hUj : i ∉ usesOf U j) (hd : ∀ u ∈ usesOf U i, u ∉ usesOf U j) (hRi : j ∉ R i) (hRj : i ∉ R j) (hr1 : ∀ u ∈ R i, u ∉ usesOf U j) (hr2 : ∀ u ∈ R j, u ∉ usesOf U i) (hne : ∀ k us xs, U k = some us → ∃ v, φ k xs v) {Γ : Nat → Fact} {a : Act} {K : (Nat → Fact) → Act → Prop}
    (h : opX' P ops w0 S0 U R φ ρ oi i Γ a (fun Γ' a' => opX P ops w0 S0 U R φ ρ j Γ' a' K)) : opX P ops w0 S0 U R φ ρ j Γ a (fun Γ' a' => opX' P ops w0 S0 U R φ ρ oi i Γ' a' K) := by
  obtain ⟨h1, h2, h3⟩ := Oper.apart_spec hap
  have ei : ∀ (a : Act) u, execOp (a.put oj.dst u).eval oi = execOp a.eval oi := fun a u => execOp_put oi hsi a oj.dst u h3
  have ej : ∀ (a : Act) u, execOp (a.put oi.dst u).eval oj = execOp a.eval oj := fun a u => execOp_put oj hsj a oi.dst u h1
  have xi : ∀ (a : Act) u, argsOf oi (a.put oj.dst u) = argsOf oi a := fun a u => argsOf_put oi a oj.dst u h3
  have xj : ∀ (a : Act) u, argsOf oj (a.put oi.dst u) = argsOf oj a := fun a u => argsOf_put oj a oi.dst u h1
  have wi : ∀ (a : Act) u, Region.wanted oi (yielded ops (a.put oj.dst u).tmps) = Region.wanted oi (yielded ops a.tmps) := fun a u => wanted_put oi a oj.dst u h3
  have wj : ∀ (a : Act) u, Region.wanted oj (yielded ops (a.put oi.dst u).tmps) = Region.wanted oj (yielded ops a.tmps) := fun a u => wanted_put oj a oi.dst u h1
  have pc : ∀ (a : Act) v u, (a.put oj.dst u).put oi.dst v = (a.put oi.dst v).put oj.dst u := fun a v u => (Act.put_comm a v u h2).symm
  unfold opX at *
  simp only [hj] at *
  unfold opX' at *
  by_cases hwi : Region.wanted oi (yielded ops a.tmps) = true
  · rw [if_pos hwi] at h
    cases hUi' : U i with
    | none =>
      rw [hUi'] at h
      obtain ⟨v, hv, h⟩ := h
      rw [wj] at h
      by_cases hwj : Region.wanted oj (yielded ops a.tmps) = true
      · rw [if_pos hwj] at h ⊢
        cases hUj' : U j with
        | none =>
          rw [hUj'] at h
          obtain ⟨u, hu, h⟩ := h
          refine ⟨u, calm_same hu (ej a v).symm, ?_⟩
          dsimp only
          rw [wi, if_pos hwi]
          exact ⟨v, calm_same hv (ei a u), by rw [pc]; exact h⟩
        | some vs =>
          rw [hUj'] at h
          refine ⟨trip_same h.1 (ej a v).symm (xj a v).symm (fun _ _ _ _ x => x) (fun _ _ _ _ x => x), fun u hu => ?_⟩
          dsimp only
          rw [wi, if_pos hwi]
          exact ⟨v, calm_same hv (ei a u), by rw [pc, ← xj a v]; exact h.2 u (by rw [xj a v]; exact hu)⟩
      · rw [if_neg hwj] at h ⊢
        dsimp only
        rw [wi, if_pos hwi]
        exact ⟨v, calm_same hv (ei a _), by rw [pc]; exact h⟩
    | some us =>
      rw [hUi'] at h
      obtain ⟨ht, h⟩ := h
      simp only [usesOf, hUi', Option.getD_some] at hUi hd
      obtain ⟨v0, hv0⟩ := hne i us (argsOf oi a) hUi'
      simp only [wj] at h
      have keep : ∀ (vs : List Nat) (u : Value), U j = some vs → trip P w0 S0 R φ ρ oi us i (upd Γ j vs (ρ j (argsOf oj a) u)) (a.put oj.dst u) := fun vs u hvs =>
        trip_same ht (ei a u) (xi a u) (fun x hx S w hΓ => by
          simp only [usesOf, hvs, Option.getD_some] at hd
          unfold upd at hΓ
          rw [if_neg (fun e : x = j => hUi (e ▸ hx)), if_neg (hd x hx)] at hΓ
          exact hΓ) (fun x hx S w hΓ => by
          simp only [usesOf, hvs, Option.getD_some] at hr1
          unfold upd at hΓ
          rw [if_neg (fun e : x = j => hRi (e ▸ hx)), if_neg (hr1 x hx)] at hΓ
          exact hΓ)
      by_cases hwj : Region.wanted oj (yielded ops a.tmps) = true
      · rw [if_pos hwj]
        simp only [hwj, if_true] at h
        cases hUj' : U j with
        | none =>
          simp only [hUj'] at h
          obtain ⟨u, hu, _⟩ := h v0 hv0
          refine ⟨u, calm_same hu (ej a v0).symm, ?_⟩
          dsimp only
          rw [wi, if_pos hwi]
          rw [xi]
          refine ⟨trip_same ht (ei a u) (xi a u) (fun _ _ _ _ x => x) (fun _ _ _ _ x => x), fun v hv => ?_⟩
          obtain ⟨u', hu', h'⟩ := h v hv
          have : u = u' := calm_unique (calm_same hu (ej a v0).symm) (calm_same hu' (ej a v).symm)
          subst this
          rw [pc]
          exact h'
        | some vs =>
          simp only [hUj'] at h
          simp only [usesOf, hUj', Option.getD_some] at hUj
          refine ⟨trip_same (h v0 hv0).1 (ej a v0).symm (xj a v0).symm (fun x hx S w hΓ => ?_) (fun x hx S w hΓ => ?_), fun u hu => ?_⟩
          · unfold upd
            rw [if_neg (fun e : x = i => hUj (e ▸ hx))]
            split
            · trivial
            · exact hΓ
          · unfold upd
            rw [if_neg (fun e : x = i => hRj (e ▸ hx))]
            split
            · trivial
            · exact hΓ
          · dsimp only
            rw [wi, if_pos hwi]
            rw [xi]
            refine ⟨keep vs u hUj', fun v hv => ?_⟩
            rw [pc, ← upd_comm Γ i j us vs _ _ hij hUj hUi, ← xj a v]
            exact (h v hv).2 u (by rw [xj a v]; exact hu)
      · rw [if_neg hwj]
        simp only [hwj] at h
        dsimp only
        rw [wi, if_pos hwi]
        rw [xi]
        refine ⟨trip_same ht (ei a _) (xi a _) (fun _ _ _ _ x => x) (fun _ _ _ _ x => x), fun v hv => ?_⟩
        rw [pc]
        exact h v hv
  · rw [if_neg hwi] at h
    rw [wj] at h
    by_cases hwj : Region.wanted oj (yielded ops a.tmps) = true
    · rw [if_pos hwj] at h ⊢
      cases hUj' : U j with
      | none =>
        rw [hUj'] at h
        obtain ⟨u, hu, h⟩ := h
        refine ⟨u, calm_same hu (ej a _).symm, ?_⟩
        dsimp only
        rw [wi, if_neg hwi, pc]
        exact h
      | some vs =>
        rw [hUj'] at h
        refine ⟨trip_same h.1 (ej a _).symm (xj a _).symm (fun _ _ _ _ x => x) (fun _ _ _ _ x => x), fun u hu => ?_⟩
        dsimp only
        rw [wi, if_neg hwi, pc, ← xj a undef]
        exact h.2 u (by rw [xj a undef]; exact hu)
    · rw [if_neg hwj] at h ⊢
      dsimp only
      rw [wi, if_neg hwi, pc]
      exact h

def labsB (U : Nat → Option (List Nat)) (R : Nat → List Nat) (i j : Nat) : Bool := (!(usesOf U j).contains i && !(usesOf U i).contains j && (usesOf U i).all fun u => !(usesOf U j).contains u) && (!(R j).contains i && !(R i).contains j && ((R i).all fun u => !(usesOf U j).contains u) && (R j).all fun u => !(usesOf U i).contains u)
def freeX (U : Nat → Option (List Nat)) (R : Nat → List Nat) (md : Region.Mode) (ops : Array Oper) (listed : Array Bool) (i : Nat) : Bool :=
  match ops[i]? with
  | none => false
  | some oi => (List.range ops.size).all fun j => j == i || listed.getD j true || match ops[j]? with
    | some oj => (oi.apart ops oj && labsB U R i j) || waits md ops 5 j i
    | none => true
def lexFromX (U : Nat → Option (List Nat)) (R : Nat → List Nat) (md : Region.Mode) (ops : Array Oper) : Nat → Nat → Array Bool → Bool
  | 0, _, listed => (Region.ready md ops listed).isEmpty
  | n + 1, k, listed => (Region.ready md ops listed).contains k && freeX U R md ops listed k && lexFromX U R md ops n (k + 1) (listed.setIfInBounds k true)
/-- one walk serves: by reckoning -/
def lexX (U : Nat → Option (List Nat)) (R : Nat → List Nat) (md : Region.Mode) (ops : Array Oper) : Bool := Region.noSelect ops && lexFromX U R md ops ops.size 0 (Array.replicate ops.size false)

theorem first_X {Fin : (Nat → Fact) → Act → Prop} {i : Nat} {oi : Oper} (hi : ops[i]? = some oi) (hsel : ∀ (j : Nat) (o : Oper) cs b, ops[j]? = some o → o.op ≠ .select cs b) (hne : ∀ k us xs, U k = some us → ∃ v, φ k xs v) :
    ∀ (n : Nat) (listed : Array Bool) (Γ : Nat → Fact) (a : Act), Closed md ops listed →
      (∀ j oj, ops[j]? = some oj → j ≠ i → listed.getD j true = false → (oi.apart ops oj = true ∧ labsB U R i j = true) ∨ waits md ops 5 j i = true) →
      i ∈ Region.ready md ops listed → opX' P ops w0 S0 U R φ ρ oi i Γ a (wpAnyX P ops w0 S0 U R φ ρ md Fin n (listed.setIfInBounds i true)) →
      wpAnyX P ops w0 S0 U R φ ρ md Fin (n + 1) listed Γ a := by
  intro n
  have self : ∀ {Γ a K}, opX' P ops w0 S0 U R φ ρ oi i Γ a K → opX P ops w0 S0 U R φ ρ i Γ a K := fun h => by unfold opX; simp only [hi]; exact h
  -- an operation beside i
  have other : ∀ (listed : Array Bool) (j : Nat), Closed md ops listed → (∀ j oj, ops[j]? = some oj → j ≠ i → listed.getD j true = false → (oi.apart ops oj = true ∧ labsB U R i j = true) ∨ waits md ops 5 j i = true) →
      i ∈ Region.ready md ops listed → j ∈ Region.ready md ops listed → j ≠ i → ∃ oj, ops[j]? = some oj ∧ oi.apart ops oj = true ∧ labsB U R i j = true := by
    intro listed j hcl hfree hr hj hji
    obtain ⟨hjun, oj, hoj, hall⟩ := mem_ready.1 hj
    rcases hfree j oj hoj hji hjun with h | h
    · exact ⟨oj, hoj, h⟩
    · have h1 := waits_listed hcl 5 j i oj hoj hall h
      have h0 := (mem_ready.1 hr).1
      rcases Nat.lt_or_ge i listed.size with h' | h'
      · simp [h'] at h0 h1; rw [h0] at h1; cases h1
      · simp [Array.getElem?_eq_none h'] at h1
  induction n with
  | zero =>
    intro listed Γ a hcl hfree hr H
    refine ⟨fun h => (by rw [h] at hr; cases hr), fun j hj => ?_⟩
    by_cases hji : j = i
    · subst hji; exact self H
    · exfalso
      have hj' := ready_mono hj hji
      unfold opX' at H
      by_cases hw : Region.wanted oi (yielded ops a.tmps) = true
      · rw [if_pos hw] at H
        cases hU : U i with
        | none => rw [hU] at H; obtain ⟨v, _, h⟩ := H; rw [h.1] at hj'; cases hj'
        | some us => rw [hU] at H; obtain ⟨v, hv⟩ := hne i us (argsOf oi a) hU; rw [(H.2 v hv).1] at hj'; cases hj'
      · rw [if_neg hw] at H
        rw [H.1] at hj'; cases hj'
  | succ n ih =>
    intro listed Γ a hcl hfree hr H
    refine ⟨fun h => (by rw [h] at hr; cases hr), fun j hj => ?_⟩
    by_cases hji : j = i
    · subst hji; exact self H
    · obtain ⟨oj, hoj, hap, hlab⟩ := other listed j hcl hfree hr hj hji
      simp only [labsB, Bool.and_eq_true, Bool.not_eq_true', List.all_eq_true] at hlab
      have h1 : opX' P ops w0 S0 U R φ ρ oi i Γ a (fun Γ' a' => opX P ops w0 S0 U R φ ρ j Γ' a' (wpAnyX P ops w0 S0 U R φ ρ md Fin n ((listed.setIfInBounds i true).setIfInBounds j true))) :=
        opX'_mono (fun Γ' a' h => h.2 j (ready_mono hj hji)) H
      have h2 := opX_comm hoj hap (fun cs b => hsel i oi cs b hi) (fun cs b => hsel j oj cs b hoj) (Ne.symm hji) (by simpa using hlab.1.1.2) (by simpa using hlab.1.1.1) (fun u hu => by simpa using hlab.1.2 u hu) (by simpa using hlab.2.1.1.2) (by simpa using hlab.2.1.1.1) (fun u hu => by simpa using hlab.2.1.2 u hu) (fun u hu => by simpa using hlab.2.2 u hu) hne h1
      refine opX_mono (fun Γ' a' h3 => ih (listed.setIfInBounds j true) Γ' a' (hcl.set hj) ?_ (ready_mono hr (Ne.symm hji)) ?_) h2
      · intro k ok hk hki hun
        refine hfree k ok hk hki ?_
        by_cases hjk : j = k
        · subst hjk; exact (mem_ready.1 hj).1
        · rw [getD_set_ne true hjk] at hun; exact hun
      · rw [Array.setIfInBounds_comm _ _ hji]
        exact h3

theorem lex_X {Fin : (Nat → Fact) → Act → Prop} (hs : Region.noSelect ops = true) (hne : ∀ k us xs, U k = some us → ∃ v, φ k xs v) : ∀ (l : List Oper) (k : Nat) (listed : Array Bool) (Γ : Nat → Fact) (a : Act), (∀ j, l[j]? = ops[k + j]?) → Closed md ops listed →
    lexFromX U R md ops l.length k listed = true → wpX P ops w0 S0 U R φ ρ Fin k l Γ a → wpAnyX P ops w0 S0 U R φ ρ md Fin l.length listed Γ a
  | [], _, _, _, _, _, _, hB, h => ⟨by simpa [lexFromX] using hB, h⟩
  | o :: l, k, listed, Γ, a, hl, hc, hB, h => by
    have h0 : ops[k]? = some o := by simpa using (hl 0).symm
    simp only [List.length_cons, lexFromX, Bool.and_eq_true] at hB
    obtain ⟨⟨hr, hf⟩, hB'⟩ := hB
    have hr' : k ∈ Region.ready md ops listed := by simpa using hr
    refine first_X h0 (Region.noSelect_spec hs) hne l.length listed Γ a hc ?_ hr' ?_
    · intro j oj hj hne' hun
      simp only [freeX, h0, List.all_eq_true, List.mem_range] at hf
      have h1 := hf j (Array.getElem?_eq_some_iff.1 hj).1
      simp only [hj, Bool.or_eq_true, beq_iff_eq, hne', false_or, hun, Bool.false_eq_true, Bool.and_eq_true] at h1
      exact h1
    · exact opX'_mono (fun Γ' a' h' => lex_X hs hne l (k + 1) _ Γ' a' (fun j => by have := hl (j + 1); simpa [Nat.add_assoc, Nat.add_comm 1 j] using this) (hc.set hr') hB' h') h

theorem wpOp_of_X {Q : Exit → Act → World → Prop} (hρ : ∀ k xs v, Good (ρ k xs v)) {k : Nat} {Γ : Nat → Fact} {a : Act} {w : World} {K : (Nat → Fact) → Act → Prop} {K' : Act → World → Prop} (hΓ : ∀ l, Good (Γ l)) (hs : Sat w0 S0 Γ w)
    (h : ∀ Γ' a' w', (∀ l, Good (Γ' l)) → Sat w0 S0 Γ' w' → K Γ' a' → K' a' w') (hh : opX P ops w0 S0 U R φ ρ k Γ a K) : wpOp P ops Q k K' a w := by
  unfold opX at hh
  unfold wpOp
  cases ho : ops[k]? with
  | none => rw [ho] at hh; exact h _ _ _ hΓ hs hh
  | some o =>
    rw [ho] at hh
    simp only [opX'] at hh
    by_cases hw : Region.wanted o (yielded ops a.tmps) = true
    · simp only [hw, if_true] at hh ⊢
      refine .inl ?_
      unfold Oper.wp
      cases hU : U k with
      | none =>
        rw [hU] at hh
        obtain ⟨v, hv, hh⟩ := hh
        rcases hv w hs.1 with h1 | ⟨h1, rfl⟩
        · rw [h1]; exact h _ _ _ hΓ hs hh
        · rw [h1]; exact h _ _ _ hΓ hs hh
      | some us =>
        rw [hU] at hh
        obtain ⟨ht, hh⟩ := hh
        obtain ⟨hk, own, hd, hb, hf⟩ := hs
        have h1 := ht (fun b => ∃ u ∈ us, own u b) w hk (fun b ⟨u, _, hu⟩ => hb u b hu) (fun u hu => hΓ u (own u) _ w w (fun b hb => ⟨u, hu, hb⟩) (fun _ _ => rfl) (hf u)) (fun u _ => ⟨own u, hf u⟩)
        have fin : ∀ v w', φ k (argsOf o a) v ∧ Kept (fun b => ∃ u ∈ us, own u b) w w' ∧ ρ k (argsOf o a) v (fun b => (∃ u ∈ us, own u b) ∨ (w.heap.size ≤ b ∧ b < w'.heap.size)) w' → K' (a.put o.dst v) w' := fun v w' ⟨p1, p2, p3⟩ =>
          h _ _ _ (good_upd hΓ (hρ k _ v)) (sat_step hΓ (hρ k _ v) hk own hd hb hf p2 p3) (hh v p1)
        unfold runs at h1
        generalize (execOp a.eval o).run P w = r at h1 ⊢
        cases r with
        | ok n w' =>
          cases n <;> simp only [Oper.upon] <;> try (exact h1.elim)
          case value v => exact fin v w' h1
          case skip => exact fin undef w' h1
          case enter f args => exact Calls.mono h1 fun e w'' ⟨v, he, h2⟩ => by subst he; exact fin v w'' h2
        | halt x w' => exact h1.elim
    · simp only [hw] at hh ⊢
      exact h _ _ _ hΓ hs hh
theorem wpAny_of_X {Fin : (Nat → Fact) → Act → Prop} {Q : Exit → Act → World → Prop} (hρ : ∀ k xs v, Good (ρ k xs v)) (hQ : ∀ Γ a w, Sat w0 S0 Γ w → Fin Γ a → Q .normal a w) : ∀ (n : Nat) (listed : Array Bool) (Γ : Nat → Fact) (a : Act) (w : World),
    (∀ l, Good (Γ l)) → Sat w0 S0 Γ w → wpAnyX P ops w0 S0 U R φ ρ md Fin n listed Γ a → wpAny P md ops Q n listed a w
  | 0, _, Γ, a, w, _, hs, h => ⟨h.1, hQ Γ a w hs h.2⟩
  | n + 1, _, Γ, a, w, hg, hs, h => ⟨fun h0 => hQ Γ a w hs (h.1 h0), fun i hi => wpOp_of_X hρ hg hs (fun Γ' a' w' hg' hs' h' => wpAny_of_X hρ hQ n _ Γ' a' w' hg' hs' h') (h.2 i hi)⟩

/-- **one walk, in the order of the text** -/
theorem wp_region_x {id : Nat} {Q : Exit → Act → World → Prop} {a : Act} {w : World} {l : List Oper} (S0 : Nat → Prop) (U : Nat → Option (List Nat)) (R : Nat → List Nat) (φ : Nat → List Value → Value → Prop) (ρ : Nat → List Value → Value → Fact) (Γ : Nat → Fact)
    (hm : P.follows .mixedOrders = true) (hB : lexX U R .any l.toArray = true) (hne : ∀ k us xs, U k = some us → ∃ v, φ k xs v) (hρ : ∀ k xs v, Good (ρ k xs v)) (hΓ : ∀ l, Good (Γ l)) (hs : Sat w S0 Γ w)
    (h : wpX P l.toArray w S0 U R φ ρ (fun Γ' a' => ∀ w', Sat w S0 Γ' w' → Q .normal a' w') 0 l Γ a) : (Code.region id l.toArray true).wp P Q a w := by
  simp only [lexX, Bool.and_eq_true] at hB
  have hs' : Sat w S0 Γ w.drew := by
    obtain ⟨_, own, h1, h2, h3⟩ := hs
    exact ⟨(Kept.refl _ _).drew, own, h1, h2, fun l => hΓ l _ _ w w.drew (fun _ x => x) (fun _ _ => rfl) (h3 l)⟩
  refine wp_region_any hm (wpAny_of_X (w0 := w) (S0 := S0) (U := U) (R := R) (φ := φ) (ρ := ρ) (Fin := fun Γ' a' => ∀ w', Sat w S0 Γ' w' → Q .normal a' w') hρ (fun Γ a w' h1 h2 => h2 w' h1) _ _ Γ a _ hΓ hs' ?_)
  have := lex_X (md := .any) (P := P) (w0 := w) (S0 := S0) (φ := φ) (ρ := ρ) (Fin := fun Γ' a' => ∀ w', Sat w S0 Γ' w' → Q .normal a' w') hB.1 hne l 0 (Array.replicate l.toArray.size false) Γ a (by simp)
    (fun k ok _ hl => by
      exfalso
      rcases Nat.lt_or_ge k l.toArray.size with h' | h'
      · have h'' : k < l.length := by simpa using h'
        simp [h''] at hl
      · have h'' : ¬ k < l.length := by simpa using h'
        simp [h''] at hl) (by simpa using hB.2) h
  simpa using this
end

section
variable {P : Program} {ops : Array Oper} {w0 : World} {S0 : Nat → Prop} {U : Nat → Option (List Nat)} {R : Nat → List Nat} {φ : Nat → List Value → Value → Prop} {ρ : Nat → List Value → Value → Fact} {Fin : (Nat → Fact) → Act → Prop}
  {k : Nat} {o : Oper} {rest : List Oper} {Γ : Nat → Fact} {a : Act}
theorem wpX_skip (hw : Region.wanted o (yielded ops a.tmps) = false) (h : wpX P ops w0 S0 U R φ ρ Fin (k + 1) rest Γ (a.put o.dst undef)) : wpX P ops w0 S0 U R φ ρ Fin k (o :: rest) Γ a := by
  simp only [wpX, opX', hw]
  exact h
theorem wpX_loud {us : List Nat} (hw : Region.wanted o (yielded ops a.tmps) = true) (hk : U k = some us) (h1 : trip P w0 S0 R φ ρ o us k Γ a)
    (h2 : ∀ v, φ k (argsOf o a) v → ∀ K : Act → Prop, (∀ a', wpX P ops w0 S0 U R φ ρ Fin (k + 1) rest (upd Γ k us (ρ k (argsOf o a) v)) a' → K a') → K (a.put o.dst v)) : wpX P ops w0 S0 U R φ ρ Fin k (o :: rest) Γ a := by
  simp only [wpX, opX', hw, if_true, hk]
  exact ⟨h1, fun v hv => h2 v hv _ (fun _ h => h)⟩
theorem wpX_nil (h : Fin Γ a) : wpX P ops w0 S0 U R φ ρ Fin k [] Γ a := h
theorem wpX_quietP (hw : Region.wanted o (yielded ops a.tmps) = true) (hk : U k = none) (hnc : noCallP o = true)
    (h : ∀ K : Act → Prop, (∀ a, wpX P ops w0 S0 U R φ ρ Fin (k + 1) rest Γ a → K a) → o.quiet P a (fun w' => ∃ x : WK S0 w0, w' = wat x) K) : wpX P ops w0 S0 U R φ ρ Fin k (o :: rest) Γ a := by
  simp only [wpX, opX', hw, if_true, hk]
  obtain ⟨v, h1, h2⟩ := h _ (fun _ h => h)
  refine ⟨v, fun w hw => ?_, h2⟩
  have h3 := h1 w ⟨⟨w, hw⟩, rfl⟩
  unfold Oper.quietAt at h3
  generalize hr : (execOp a.eval o).run P w = r at h3
  cases r with
  | ok n w' =>
    cases n <;> simp only [Oper.quietUpon] at h3
    case value u => obtain ⟨rfl, rfl⟩ := h3; exact .inl rfl
    case skip => obtain ⟨rfl, rfl⟩ := h3; exact .inr ⟨rfl, rfl⟩
    case enter f args => exact absurd hr (no_enterP hnc)
  | halt x w' => simp only [Oper.quietUpon] at h3
theorem wpX_skipK (hw : Region.wanted o (yielded ops a.tmps) = false) (h : ∀ K : Act → Prop, (∀ a, wpX P ops w0 S0 U R φ ρ Fin (k + 1) rest Γ a → K a) → K (a.put o.dst undef)) : wpX P ops w0 S0 U R φ ρ Fin k (o :: rest) Γ a :=
  wpX_skip hw (h _ fun _ h => h)

/-- 'wpX', sealed: a tactic that looks at the goal's type does not unfold it (a long row of operations passed over is dear to unfold) -/
structure WD (P : Program) (ops : Array Oper) (w0 : World) (S0 : Nat → Prop) (U : Nat → Option (List Nat)) (R : Nat → List Nat) (φ : Nat → List Value → Value → Prop) (ρ : Nat → List Value → Value → Fact) (Fin : (Nat → Fact) → Act → Prop) (k : Nat) (l : List Oper) (Γ : Nat → Fact) (a : Act) : Prop where
  out : wpX P ops w0 S0 U R φ ρ Fin k l Γ a
theorem wd_quietU (hg : o.guard = none) (hk : U k = none) (hnc : noCallP o = true)
    (h : ∀ K : Act → Prop, (∀ a, WD P ops w0 S0 U R φ ρ Fin (k + 1) rest Γ a → K a) → o.quiet P a (fun w' => ∃ x : WK S0 w0, w' = wat x) K) : WD P ops w0 S0 U R φ ρ Fin k (o :: rest) Γ a :=
  ⟨wpX_quietP (wanted_u hg) hk hnc fun K hK => h K fun a h => hK a h.out⟩
theorem wd_quietG {g d : Nat} {b : Bool} (hg : o.guard = some (g, b)) (hd : (ops[g]?).bind (·.dst) = some d) (hv : a.tmps[d]? = some (.bool b)) (hk : U k = none) (hnc : noCallP o = true)
    (h : ∀ K : Act → Prop, (∀ a, WD P ops w0 S0 U R φ ρ Fin (k + 1) rest Γ a → K a) → o.quiet P a (fun w' => ∃ x : WK S0 w0, w' = wat x) K) : WD P ops w0 S0 U R φ ρ Fin k (o :: rest) Γ a :=
  ⟨wpX_quietP ((wanted_g hg hd hv).trans (by simp)) hk hnc fun K hK => h K fun a h => hK a h.out⟩
theorem wd_skipG {g d : Nat} {b : Bool} (hg : o.guard = some (g, b)) (hd : (ops[g]?).bind (·.dst) = some d) (hv : a.tmps[d]? = some (.bool (!b)))
    (h : ∀ K : Act → Prop, (∀ a, WD P ops w0 S0 U R φ ρ Fin (k + 1) rest Γ a → K a) → K (a.put o.dst undef)) : WD P ops w0 S0 U R φ ρ Fin k (o :: rest) Γ a :=
  ⟨wpX_skipK ((wanted_g hg hd hv).trans (by cases b <;> rfl)) fun K hK => h K fun a h => hK a h.out⟩
theorem wd_skipN {g d : Nat} {b : Bool} (hg : o.guard = some (g, b)) (hd : (ops[g]?).bind (·.dst) = some d) (hv : a.tmps[d]? = some undef)
    (h : ∀ K : Act → Prop, (∀ a, WD P ops w0 S0 U R φ ρ Fin (k + 1) rest Γ a → K a) → K (a.put o.dst undef)) : WD P ops w0 S0 U R φ ρ Fin k (o :: rest) Γ a :=
  ⟨wpX_skipK (wanted_n hg hd hv) fun K hK => h K fun a h => hK a h.out⟩
theorem wd_loudU {us : List Nat} (hg : o.guard = none) (hk : U k = some us) (h1 : trip P w0 S0 R φ ρ o us k Γ a)
    (h2 : ∀ v, φ k (argsOf o a) v → ∀ K : Act → Prop, (∀ a', WD P ops w0 S0 U R φ ρ Fin (k + 1) rest (upd Γ k us (ρ k (argsOf o a) v)) a' → K a') → K (a.put o.dst v)) : WD P ops w0 S0 U R φ ρ Fin k (o :: rest) Γ a :=
  ⟨wpX_loud (wanted_u hg) hk h1 fun v hv K hK => h2 v hv K fun a h => hK a h.out⟩
theorem wd_loudG {us : List Nat} {g d : Nat} {b : Bool} (hg : o.guard = some (g, b)) (hd : (ops[g]?).bind (·.dst) = some d) (hv : a.tmps[d]? = some (.bool b)) (hk : U k = some us) (h1 : trip P w0 S0 R φ ρ o us k Γ a)
    (h2 : ∀ v, φ k (argsOf o a) v → ∀ K : Act → Prop, (∀ a', WD P ops w0 S0 U R φ ρ Fin (k + 1) rest (upd Γ k us (ρ k (argsOf o a) v)) a' → K a') → K (a.put o.dst v)) : WD P ops w0 S0 U R φ ρ Fin k (o :: rest) Γ a :=
  ⟨wpX_loud ((wanted_g hg hd hv).trans (by simp)) hk h1 fun v hv K hK => h2 v hv K fun a h => hK a h.out⟩
theorem wd_nil (h : Fin Γ a) : WD P ops w0 S0 U R φ ρ Fin k [] Γ a := ⟨wpX_nil h⟩
end
def rdR (rd : List (Nat × List Nat)) (k : Nat) : List Nat := match rd.find? (fun x => x.1 == k) with | some x => x.2 | none => []
theorem wp_region_read {P : Program} {id : Nat} {Q : Exit → Act → World → Prop} {a : Act} {w : World} {l : List Oper} (S0 : Nat → Prop) (sp : List (Nat × Loud)) (rd : List (Nat × List Nat)) (Γ : Nat → Fact)
    (hm : P.follows .mixedOrders = true) (hB : lexX (spU sp) (rdR rd) .any l.toArray = true) (hsp : Louds sp) (hΓ : ∀ l, Good (Γ l)) (hs : Sat w S0 Γ w)
    (h : wpX P l.toArray w S0 (spU sp) (rdR rd) (spP sp) (spR sp) (fun Γ' a' => ∀ w', Sat w S0 Γ' w' → Q .normal a' w') 0 l Γ a) : (Code.region id l.toArray true).wp P Q a w := by
  refine wp_region_x S0 (spU sp) (rdR rd) (spP sp) (spR sp) Γ hm hB ?_ ?_ hΓ hs h
  · intro k us xs hk
    unfold spU at hk
    unfold spP
    cases hl : loudAt sp k with
    | none => rw [hl] at hk; cases hk
    | some s =>
      obtain ⟨i, hi⟩ := loudAt_mem sp k s hl
      exact (hsp _ hi).some_ xs
  · intro k xs v
    unfold spR
    cases hl : loudAt sp k with
    | none => exact Good.none
    | some s =>
      obtain ⟨i, hi⟩ := loudAt_mem sp k s hl
      exact (hsp _ hi).good xs v

end Go.Proofs.YtecfkhgocjbocaaGreatDoor.RD
namespace Go.Proofs.YtecfkhgocjbocaaGreatDoor
set_option linter.unusedVariables false
set_option linter.unusedSimpArgs false
open Go Go.RowKit

namespace PT
theorem leaf_neP (l : Ln) (h : CF.rightL l = true) : l.leaf ≠ [] := by
  unfold CF.rightL at h
  simp only [Bool.and_eq_true] at h
  obtain ⟨⟨h1, _⟩, _⟩ := h
  intro e
  rw [e] at h1
  unfold findR at h1
  split at h1
  · rename_i r hf
    have hr := List.find?_some hf
    unfold isR at hr
    simp only [Bool.and_eq_true, decide_eq_true_eq] at hr
    have : TAB.all (fun r => decide (r.name ≠ [])) = true := by kernel_rfl
    have h2 := of_decide_eq_true (List.all_eq_true.1 this r (List.mem_of_find?_eq_some hf))
    exact h2 hr.2
  · cases h1
/-- what the reader holds -/
structure Rdr where
  w : List (List UInt8)
  h : Int
  nm : List UInt8
  op : Bool
  c : List Ln
  full : Bool
def seesP (W : List (List UInt8)) (sg : List UInt8) : Bool := match W with
  | a :: b :: t :: _ => decide (t = sg) && !(isSgn a || isSgn b)
  | _ => false
/-- is the configuration full by this line? -/
def fullP (S : Rdr) (l : Ln) : Bool := S.full || decide (CF.setE S.c l = 5)
def confP (S : Rdr) (l : Ln) : List Ln := if fullP S l = true then S.c else if CF.setE S.c l = 0 then CF.setC S.c l else S.c
def setP (S : Rdr) (lf vl : List UInt8) (r : List (List UInt8)) : Option Rdr :=
  if ((findR S.h lf).2 && rightR (findR S.h lf).1 vl) = true then some ⟨r, S.h, S.nm, S.op, confP S ⟨S.h, S.nm, lf, vl⟩, fullP S ⟨S.h, S.nm, lf, vl⟩⟩ else none
def beginP (S : Rdr) (a nm : List UInt8) (r : List (List UInt8)) : Option Rdr := if namedR (headW a) nm = true then some ⟨r, headW a, nm, true, S.c, S.full⟩ else none
/-- one step; none: it can't be -/
def stepP (S : Rdr) : Option Rdr := match S.w with
  | [] => none
  | a :: r =>
    if S.op = true ∧ a = [125] then some ⟨r, 0, [], false, S.c, S.full⟩
    else if S.op = false ∧ headW a ≠ 0 ∧ seesP (a :: r) [123] = true then beginP S a (r.getD 0 []) (r.drop 2)
    else if seesP (a :: r) [59] = true then setP S a (r.getD 0 []) (r.drop 2)
    else none
theorem sees_len {W : List (List UInt8)} {sg : List UInt8} (h : seesP W sg = true) : 3 ≤ W.length := by
  match W, h with
  | a :: b :: t :: R, _ => simp
theorem step_len (S T : Rdr) (h : stepP S = some T) : T.w.length < S.w.length := by
  unfold stepP at h
  split at h
  · cases h
  · rename_i a r hw
    rw [hw]
    split at h
    · injection h with h; subst h; simp
    · split at h
      · unfold beginP at h
        split at h
        · injection h with h; subst h
          simp only [List.length_drop, List.length_cons]
          omega
        · cases h
      · split at h
        · unfold setP at h
          split at h
          · injection h with h; subst h
            simp only [List.length_drop, List.length_cons]
            omega
          · cases h
        · cases h
/-- what is so of all that the reader holds -/
def Ok (S : Rdr) : Prop := CF.RightC S.c = true ∧ (∀ l ∈ S.c, CF.LnOk l) ∧ (∀ x ∈ S.w, x.length ≤ 31) ∧ S.nm.length ≤ 2000000
theorem step_ok (S T : Rdr) (h : stepP S = some T) (hS : Ok S) : Ok T := by
  obtain ⟨h1, h2, h3, h4⟩ := hS
  unfold stepP at h
  split at h
  · cases h
  · rename_i a r hw
    rw [hw] at h3
    have hr : ∀ x ∈ r, x.length ≤ 31 := fun x hx => h3 x (List.mem_cons_of_mem _ hx)
    have hr2 : ∀ x ∈ r.drop 2, x.length ≤ 31 := fun x hx => hr x (List.mem_of_mem_drop hx)
    have hr0 : (r.getD 0 []).length ≤ 31 := by
      cases r with
      | nil => exact Nat.zero_le _
      | cons x t => exact hr x List.mem_cons_self
    split at h
    · injection h with h; subst h; exact ⟨h1, h2, hr, Nat.zero_le _⟩
    · split at h
      · unfold beginP at h
        split at h
        · injection h with h; subst h; exact ⟨h1, h2, hr2, by show (r.getD 0 []).length ≤ _; omega⟩
        · cases h
      · split at h
        · unfold setP at h
          split at h
          · injection h with h; subst h
            have hl : CF.LnOk ⟨S.h, S.nm, a, r.getD 0 []⟩ := ⟨h4, by have := h3 a List.mem_cons_self; show a.length ≤ _; omega, by show (r.getD 0 []).length ≤ _; omega⟩
            have hc : CF.RightC (confP S ⟨S.h, S.nm, a, r.getD 0 []⟩) = true ∧ ∀ l ∈ confP S ⟨S.h, S.nm, a, r.getD 0 []⟩, CF.LnOk l := by
              unfold confP
              split
              · exact ⟨h1, h2⟩
              · split
                · rename_i e
                  refine ⟨CF.right_set _ _ e, fun x hx => ?_⟩
                  rw [(CF.setE_ok _ _ e).2.2.2] at hx
                  exact (CF.ins_mem _ _ x hx).elim (fun k => by rw [k]; exact hl) (h2 x)
                · exact ⟨h1, h2⟩
            exact ⟨hc.1, hc.2, hr2, h4⟩
          · cases h
        · cases h
/-- all steps -/
def runP : Nat → Rdr → List Ln × Int
  | 0, _ => ([], 3)
  | f + 1, S => if S.w = [] then (if S.op = true then ([], 3) else if S.full = true then ([], 5) else (S.c, 0)) else match stepP S with
    | none => ([], 3)
    | some T => runP f T
theorem runP_more (f g : Nat) (S : Rdr) (h1 : S.w.length < f) (h2 : S.w.length < g) : runP f S = runP g S := by
  induction f generalizing g S with
  | zero => omega
  | succ f ih =>
    cases g with
    | zero => omega
    | succ g =>
      unfold runP
      split
      · rfl
      · cases hs : stepP S with
        | none => rfl
        | some T =>
          have := step_len S T hs
          exact ih g T (by omega) (by omega)
/-- what is told of the words that are left -/
def tellP (S : Rdr) : List Ln × Int := runP (S.w.length + 1) S
theorem tellP_nil (S : Rdr) (h : S.w = []) : tellP S = if S.op = true then ([], 3) else if S.full = true then ([], 5) else (S.c, 0) := by
  unfold tellP runP
  rw [if_pos h]
theorem tellP_none (S : Rdr) (h : S.w ≠ []) (hs : stepP S = none) : tellP S = ([], 3) := by
  unfold tellP runP
  rw [if_neg h, hs]
theorem tellP_some (S T : Rdr) (h : S.w ≠ []) (hs : stepP S = some T) : tellP S = tellP T := by
  unfold tellP
  rw [show runP (S.w.length + 1) S = runP S.w.length T by
    show (if S.w = [] then _ else _) = _
    rw [if_neg h, hs]]
  have := step_len S T hs
  exact runP_more _ _ _ (by omega) (by omega)
/-- the configuration of a text; the error -/
def textP (s : List UInt8) : List Ln × Int := if (LX.run s 0 []).2.2 = 0 then tellP ⟨(LX.run s 0 []).1, 0, [], false, [], false⟩ else ([], 3)
end PT
end Go.Proofs.YtecfkhgocjbocaaGreatDoor
namespace Go.Proofs.YtecfkhgocjbocaaGreatDoor
set_option linter.unusedVariables false
set_option linter.unusedSimpArgs false
open Go Go.RowKit

namespace PT
/-- the reader's cells -/
def rdC (X : Option Addr) (n cp : Nat) (h : Int) (nm : List UInt8) (op : Bool) (A : Option Addr) (m c : Nat) (full : Bool) : List Value :=
  [.slice X n cp, .int .i64 h, .string (S8 nm), .string (S8 []), .string (S8 []), .bool op, .slice A m c, .bool full]
def IsRdr (w0 : World) (r : Nat) (S : Rdr) (w : World) : Prop := ∃ X cp A c, w.heap[r]? = some (.cells (rdC X S.w.length cp S.h S.nm S.op A S.c.length c S.full).toArray 136 (0, 0)) ∧
  Sl w0 1 (.slice X S.w.length cp) (STR S.w) ∧ Sl w 4 (.slice A S.c.length c) (CF.LNS S.c)
theorem s8_b (x y : List UInt8) : ((S8 x).toList == (S8 y).toList) = decide (x = y) := by
  have h1 : (S8 x).toList = x := Lib.toList_data _
  have h2 : (S8 y).toList = y := Lib.toList_data _
  rw [h1, h2, Bool.eq_iff_iff]
  simp
theorem sl_takeS {w : World} {A : Option Addr} {n c : Nat} {l : List (List UInt8)} (h : Sl w 1 (.slice A n c) (STR l)) (k : Nat) (hk : k ≤ n) : Sl w 1 (.slice A k c) (STR (l.take k)) := by
  obtain ⟨A', n', c', he, hl, hnc, hcm, hr⟩ := h
  injection he with e1 e2 e3
  subst e1; subst e2; subst e3
  rw [STR_length, Nat.mul_one] at hl
  refine ⟨_, _, _, rfl, by rw [STR_length, List.length_take]; omega, by omega, hcm, fun h0 => ?_⟩
  obtain ⟨b, off, rfl, hlt, hc⟩ := hr (by omega)
  refine ⟨b, off, rfl, hlt, fun i hi => ?_⟩
  rw [hc i (by omega)]
  simp only [STR, ← List.map_take, List.getElem?_map, List.getElem?_take]
  rw [if_pos (by omega)]
set_option maxRecDepth 100000 in
set_option maxHeartbeats 1600000 in
theorem sees_any (w0 : World) (r : Nat) (S : Rdr) (sg : List UInt8) (w : World) (hI : IsRdr w0 r S w) (hb0 : Below w0.heap.size w0 w) :
    Calls Tryz.prog 109 #[.pointer (some ⟨r, 0, none⟩), .int .i64 2, .string (S8 sg)] w fun e w' => e = .returned (.bool (seesP S.w sg)) ∧ w' = w := by
  obtain ⟨X, cp, A, c, hg, hsw, hsc⟩ := hI
  have hs := hsw.below hb0
  have q0 : w.cell? ⟨r, 0, none⟩ = some (.slice X S.w.length cp) := by rw [blkCell hg 0]; rfl
  have hcap := (sl_lensS hs).2
  clear hsw hsc hg hb0
  obtain ⟨W, h1, h2, h3, h4, h5⟩ := S
  simp only at *
  by_cases hn : 2 < W.length
  · obtain ⟨a, b, t, R, rfl⟩ : ∃ a b t R, W = a :: b :: t :: R := by
      match W, hn with
      | a :: b :: t :: R, _ => exact ⟨a, b, t, R, rfl⟩
    obtain ⟨b9, o9, rfl, hb9, p9⟩ := STR_cell hs (k := 2) (by omega)
    have HS2 := hid (signs_any _ _ _ _ w (sl_takeS hs 2 (by omega)))
    have HV : Hid (seesP (a :: b :: t :: R) sg = (decide (t = sg) && !((a :: b :: t :: R).take 2).any isSgn)) := by
      show _ = _
      simp [seesP]
    obtain ⟨n, hnn⟩ : ∃ n, n = (a :: b :: t :: R).length := ⟨_, rfl⟩
    have qe := s8_b t sg
    rw [show (a :: b :: t :: R).getD 2 [] = t from rfl] at p9
    rw [← hnn] at q0 hcap hn
    have hn2 : 2 ≤ n := by omega
    have hn3 : 2 ≤ cp := by omega
    generalize seesP (a :: b :: t :: R) sg = V at *
    generalize ((a :: b :: t :: R).take 2).any isSgn = B at *
    clear hs hnn
    cases ht : decide (t = sg) with
    | false =>
      rw [ht] at HV qe
      clear HS2 ht
      go_enter Tryz.func109, Tryz.ntmps109
      go_wp2_with fail
      go_ret
      exact ⟨by rw [HV.out]; rfl, rfl⟩
    | true =>
      rw [ht, Bool.true_and] at HV
      rw [ht] at qe
      clear ht
      go_enter Tryz.func109, Tryz.ntmps109
      go_wp2_with fail
      refine HS2.out.mono ?_
      rintro e w1 ⟨rfl, rfl⟩
      clear HS2
      go_wp2_with fail
      go_ret
      exact ⟨by rw [HV.out]; rfl, rfl⟩
  · have HV : Hid (seesP W sg = false) := by
      show _ = _
      match W, hn with
      | [], _ => rfl
      | [_], _ => rfl
      | [_, _], _ => rfl
      | a :: b :: t :: R, h => exact absurd (by simp) h
    obtain ⟨n, hnn⟩ : ∃ n, n = W.length := ⟨_, rfl⟩
    rw [← hnn] at q0 hcap hn
    clear hs hnn
    generalize seesP W sg = V at *
    go_enter Tryz.func109, Tryz.ntmps109
    go_wp2_with fail
    go_ret
    exact ⟨by rw [HV.out]; rfl, rfl⟩
end PT
end Go.Proofs.YtecfkhgocjbocaaGreatDoor
namespace Go.Proofs.YtecfkhgocjbocaaGreatDoor
set_option linter.unusedVariables false
set_option linter.unusedSimpArgs false
open Go Go.RowKit

namespace PT
/-- four cells behind an offset of a block -/
def set4 (cs : Array Value) (off : Nat) (l : Ln) : Array Value := (((cs.setIfInBounds off (.int .i64 l.head)).setIfInBounds (off + 1) (.string (S8 l.name))).setIfInBounds (off + 2) (.string (S8 l.leaf))).setIfInBounds (off + 3) (.string (S8 l.value))
/-- a line stored within a block, within a region -/
theorem store4_x {P : Program} {o : Oper} {a : Act} {w : World} {S : Nat → Prop} {r : Nat} {T : TypeId} {cs : Array Value} (ty : TypeId) (x y : Operand) (ho : o.op = .store ty x y) (off : Nat) (hx : a.eval x = .pointer (some ⟨r, off, none⟩)) (l : Ln) (hy : a.eval y = .agg (lnV l))
    (hB : BlkF r T cs S w) (hn : off + 4 ≤ cs.size) (hi : (P.info? ty).map (·.size) = some 4) :
    runs P o a w fun v w' => True ∧ Kept S w w' ∧ BlkF r T (set4 cs off l) (fun b => S b ∨ (w.heap.size ≤ b ∧ b < w'.heap.size)) w' := by
  have ht : w.there r off (lnV l).size := fun j hj => by
    have hj4 : j < 4 := hj
    obtain ⟨h1, h2⟩ := blkF_cells hB
    rw [h1, h2, Array.getElem?_eq_getElem (show off + j < cs.size by omega)]
    exact ⟨rfl, rfl⟩
  obtain ⟨hS, hg⟩ := hB
  unfold runs execOp
  simp only [ho, hx, hy, Instr.storeAt, Instr.sureAddr, Sem.run_bind, Sem.run_pure, Result.andThen_ok, run_storeVar_mid w r off ty (lnV l) ht hi (lnV_one l)]
  have e : w.setCells r off (lnV l).toList = (((w.setCell ⟨r, off, none⟩ (.int .i64 l.head)).setCell ⟨r, off + 1, none⟩ (.string (S8 l.name))).setCell ⟨r, off + 2, none⟩ (.string (S8 l.leaf))).setCell ⟨r, off + 3, none⟩ (.string (S8 l.value)) := rfl
  rw [e]
  exact ⟨trivial, ((((Kept.refl S w).setCell (p := ⟨r, off, none⟩) (.inl hS) _).setCell (p := ⟨r, off + 1, none⟩) (.inl hS) _).setCell (p := ⟨r, off + 2, none⟩) (.inl hS) _).setCell (p := ⟨r, off + 3, none⟩) (.inl hS) _, .inl hS, blk_set (blk_set (blk_set (blk_set hg _ _) _ _) _ _) _ _⟩
/-- the rows of the configuration lie outside of the reader -/
theorem sl_rdr {w w3 : World} {r : Nat} {X : Option Addr} {n cp : Nat} {h : Int} {nm : List UInt8} {op full : Bool} {A0 : Option Addr} {m0 c0 : Nat} {A : Option Addr} {m c : Nat} {C : List Ln} (hg : w.heap[r]? = some (.cells (rdC X n cp h nm op A0 m0 c0 full).toArray 136 (0, 0)))
    (hs : Sl w 4 (.slice A m c) (CF.LNS C)) (hm : C.length = m) (hC : CF.RightC C = true) (hk : ∀ b, b < w.heap.size → b ≠ r → w3.heap[b]? = w.heap[b]?) (hsz : w.heap.size ≤ w3.heap.size) : Sl w3 4 (.slice A m c) (CF.LNS C) := by
  have hrl := ((CF.RightC_iff C).1 hC).1
  have hln := fun (h0 : 0 < m) => CF.sl_ln hs h0
  obtain ⟨A', n', c', he, hl, hnc, hcm, hr⟩ := hs
  injection he with e1 e2 e3
  subst e1; subst e2; subst e3
  refine ⟨_, _, _, rfl, hl, hnc, hcm, fun h0 => ?_⟩
  obtain ⟨b, off, rfl, hlt, hc⟩ := hr h0
  obtain ⟨b', off', e, _, hcl⟩ := hln h0
  injection e with e
  injection e with e1 e2
  subst e1; subst e2
  have hbr : b ≠ r := by
    intro e
    subst e
    have k0 := (blkCell hg (off + 0 * 4 + 0)).symm.trans (hcl 0 _ rfl)
    have k2 := (blkCell hg (off + 0 * 4 + 2)).symm.trans (hcl 2 _ rfl)
    have hlf := leaf_neP (CF.lnAt C 0) (hrl _ (by rw [CF.lnAt_get C 0 (by omega)]; exact List.getElem_mem _))
    match off with
    | 0 => simp [rdC] at k0
    | 1 =>
      simp [rdC] at k2
      have h1 : (S8 []).toList = ([] : List UInt8) := Lib.toList_data _
      have h2 : (S8 (CF.lnAt C 0).leaf).toList = (CF.lnAt C 0).leaf := Lib.toList_data _
      rw [← k2] at h2
      exact hlf (h2.symm.trans h1)
    | 2 => simp [rdC] at k0
    | 3 => simp [rdC] at k0
    | 4 => simp [rdC] at k0
    | 5 => simp [rdC] at k0
    | 6 => simp [rdC] at k0
    | 7 => simp [rdC] at k0
    | o + 8 => simp [rdC] at k0
  refine ⟨b, off, rfl, Nat.lt_of_lt_of_le hlt hsz, fun i hi => ?_⟩
  rw [← hc i hi]
  exact World.cell?_of_block (hk b hlt hbr)
set_option maxRecDepth 100000 in
set_option maxHeartbeats 1600000 in
theorem begin_any (w0 : World) (r : Nat) (S : Rdr) (a nm t : List UInt8) (R : List (List UInt8)) (w : World) (hI : IsRdr w0 r S w) (hb0 : Below w0.heap.size w0 w) (hr : w0.heap.size ≤ r)
    (hW : S.w = a :: nm :: t :: R) (ha : headW a ≠ 0) (hL : ∀ x ∈ S.w, x.length ≤ 2000000) (hC : CF.RightC S.c = true) (hen : Env w) :
    Calls Tryz.prog 110 #[.pointer (some ⟨r, 0, none⟩)] w fun e w' => e = .returned (.bool (namedR (headW a) nm)) ∧ (namedR (headW a) nm = true → IsRdr w0 r ⟨R, headW a, nm, true, S.c, S.full⟩ w') ∧ Below w0.heap.size w w' := by
  obtain ⟨X, cp, A, c, hg, hsw, hsc⟩ := hI
  have hs := hsw.below hb0
  obtain ⟨W, h1, h2, h3, h4, h5⟩ := S
  simp only at *
  subst hW
  have hcap := (sl_lensS hs).2
  have q0 : w.cell? ⟨r, 0, none⟩ = some (.slice X (a :: nm :: t :: R).length cp) := by rw [blkCell hg 0]; rfl
  have HNM := hid (pnamed_any _ _ _ _ w (sl_takeS hs 2 (by simp)) (fun x hx => hL x (List.mem_of_mem_take hx)) hen)
  obtain ⟨b, o, hX, _, _⟩ := STR_cell hs (k := 0) (by simp)
  subst hX
  obtain ⟨n, hn⟩ : ∃ n, n = (a :: nm :: t :: R).length := ⟨_, rfl⟩
  rw [← hn] at hs hsw hg hcap q0
  have hn3 : 3 ≤ n := by rw [hn]; simp
  have i1 : 2 ≤ n := by omega
  have i2 : 2 ≤ cp := by omega
  have i3 : 3 ≤ cp := by omega
  obtain ⟨B, hB0⟩ : ∃ B, namedR (headW a) nm = B := ⟨_, rfl⟩
  rw [hB0]
  have HB0 := hid hB0
  clear hB0
  go_enter Tryz.func110, Tryz.ntmps110
  go_wp2_with fail
  refine HNM.out.mono ?_
  rintro e w1 ⟨hnp, hb1⟩
  obtain ⟨l, A', n', c', rfl, hl, hlf⟩ : ∃ (l : Ln) (A' : Option Addr) (n' c' : Nat), e = .returned (.tuple #[.agg (lnV l), .slice A' n' c', .bool (namedR (headW a) nm)]) ∧ (namedR (headW a) nm = true → l = ⟨headW a, nm, [], []⟩) ∧ l.leaf = [] ∧ l.value = [] := by
    have e1 : namedW ((a :: nm :: t :: R).take 2) = if namedR (headW a) nm = true then some (⟨headW a, nm, [], []⟩, []) else none := by
      show (if headW a = 0 then _ else _) = _
      rw [if_neg ha]
      rfl
    unfold NamedPost at hnp
    rw [e1] at hnp
    cases hb : namedR (headW a) nm with
    | true =>
      rw [hb] at hnp
      obtain ⟨A', c', he, _⟩ := hnp
      exact ⟨_, A', 0, c', he, fun _ => rfl, rfl, rfl⟩
    | false =>
      rw [hb] at hnp
      exact ⟨ln0, none, 0, 0, hnp, (fun h => by cases h), rfl, rfl⟩
  rw [HB0.out] at hl
  rw [HB0.out]
  have HL := hid hl
  have HLF := hid hlf
  clear hnp hl hlf HNM
  have hgr1 := blk_below hg hb1 (blk_lt hg)
  have hrl1 := blk_lt hgr1
  obtain ⟨hb2, hg2, hl2⟩ := box1 w1 (.cells (lnV l) 29)
  go_upto_region 2 with (refine wpList_store_last rfl 29 (.tmp 3) (.tmp 13) rfl (lnV l) rfl rfl CF.i4 rfl (lnV_one _) ?_)
  generalize w1.alloc (.cells (lnV l) 29) = w2 at *
  have hgr2 := blk_below hgr1 hb2 hrl1
  obtain ⟨lh, ln, lf, lv⟩ := l
  obtain ⟨e1, e2⟩ := HLF.out
  simp only at e1 e2
  subst e1; subst e2
  clear HLF
  obtain ⟨X3, hX3⟩ : ∃ X3 : Option Addr, X3 = if cp = 3 then some ⟨b, o, none⟩ else some ⟨b, o + 3, none⟩ := ⟨_, rfl⟩
  have hne : w1.heap.size ≠ r := by omega
  have HG2 := hid hg2
  have HR2 := hid hgr2
  clear hg2
  generalize hm : h4.length = m at *
  have HM := hid hm
  clear hm
  refine RD.wp_region_read (fun g => g = r) [(3, plainL [] (.agg (lnV ⟨lh, ln, [], []⟩))), (7, plainL [] (.slice (some ⟨b, o, none⟩) n cp)),
      (11, keepL [100] (BlkF r 136 (rdC (some ⟨b, o, none⟩) n cp lh ln h3 A m c h5).toArray)),
      (14, keepL [11] (BlkF r 136 (rdC (some ⟨b, o, none⟩) n cp lh ln true A m c h5).toArray)),
      (17, keepL [14] (BlkF r 136 (rdC X3 (n - 3) (cp - 3) lh ln true A m c h5).toArray))]
    [(7, [100])]
    (labelled 100 (BlkF r 136 (rdC (some ⟨b, o, none⟩) n cp h1 h2 h3 A m c h5).toArray)) (by kernel_rfl) (by kernel_rfl)
    (.cons (plainL_ok _ _) (.cons (plainL_ok _ _) (.cons (keepL_ok _ (good_blk _ _ _)) (.cons (keepL_ok _ (good_blk _ _ _)) (.cons (keepL_ok _ (good_blk _ _ _)) .nil))))) (good_one 100 (good_blk _ _ _))
    (sat_one 100 _ (fun g hg => by have e2 : g = r := hg; have := blk_lt HR2.out; omega) ⟨rfl, HR2.out⟩) (RD.WD.out ?_)
  repeat (first | (refine RD.wd_quietU (by rfl) (by rfl) (by rfl) (fun K hK => ?_); go_big_quiet_op; refine hK _ ?_; clear hK K) | (refine RD.wd_quietG (by rfl) (by rfl) (by rfl) (by rfl) (by rfl) (fun K hK => ?_); go_big_quiet_op; refine hK _ ?_; clear hK K) | (refine RD.wd_skipG (by rfl) (by rfl) (by rfl) (fun K hK => ?_); go_simp; refine hK _ ?_; clear hK K) | (refine RD.wd_skipN (by rfl) (by rfl) (by rfl) (fun K hK => ?_); go_simp; refine hK _ ?_; clear hK K))
  refine RD.wd_loudU (us := []) (by rfl) (by rfl) (fun S wS hC hS hU hR => ?_) (fun v hv K hK => ?_)
  · exact runs_load_whole 29 (.tmp 3) rfl w1.heap.size rfl 29 (lnV ⟨lh, ln, [], []⟩) (0, 0) _ ((hC.block w1.heap.size hl2 hne).trans HG2.out) Tryz.underlying29 rfl CF.i4 ⟨rfl, Kept.refl _ _, trivial⟩
  obtain rfl := hv; (go_simp; refine hK _ ?_; clear hK K)
  repeat (first | (refine RD.wd_quietU (by rfl) (by rfl) (by rfl) (fun K hK => ?_); go_big_quiet_op; refine hK _ ?_; clear hK K) | (refine RD.wd_quietG (by rfl) (by rfl) (by rfl) (by rfl) (by rfl) (fun K hK => ?_); go_big_quiet_op; refine hK _ ?_; clear hK K) | (refine RD.wd_skipG (by rfl) (by rfl) (by rfl) (fun K hK => ?_); go_simp; refine hK _ ?_; clear hK K) | (refine RD.wd_skipN (by rfl) (by rfl) (by rfl) (fun K hK => ?_); go_simp; refine hK _ ?_; clear hK K))
  refine RD.wd_loudU (us := []) (by rfl) (by rfl) (fun S wS hC hS hU hR => ?_) (fun v hv K hK => ?_)
  · obtain ⟨S', hB⟩ := hR 100 (by decide)
    have hc : wS.cell? ⟨r, 0, none⟩ = some (.slice (some ⟨b, o, none⟩) n cp) := (blkF_cells (show BlkF r 136 (rdC (some ⟨b, o, none⟩) n cp h1 h2 h3 A m c h5).toArray S' wS from hB)).1 0
    exact runs_value (by go_simp <;> rfl) ⟨rfl, Kept.refl _ _, trivial⟩
  obtain rfl := hv; (go_simp; refine hK _ ?_; clear hK K)
  repeat (first | (refine RD.wd_quietU (by rfl) (by rfl) (by rfl) (fun K hK => ?_); go_big_quiet_op; refine hK _ ?_; clear hK K) | (refine RD.wd_quietG (by rfl) (by rfl) (by rfl) (by rfl) (by rfl) (fun K hK => ?_); go_big_quiet_op; refine hK _ ?_; clear hK K) | (refine RD.wd_skipG (by rfl) (by rfl) (by rfl) (fun K hK => ?_); go_simp; refine hK _ ?_; clear hK K) | (refine RD.wd_skipN (by rfl) (by rfl) (by rfl) (fun K hK => ?_); go_simp; refine hK _ ?_; clear hK K))
  refine RD.wd_loudU (us := [100]) (by rfl) (by rfl) (fun S wS hC hS hU hR => ?_) (fun v hv K hK => ?_)
  · have hB : BlkF r 136 (rdC (some ⟨b, o, none⟩) n cp h1 h2 h3 A m c h5).toArray S wS := hU 100 (by simp)
    exact store4_x 29 (.tmp 26) (.tmp 19) rfl 1 rfl ⟨lh, ln, [], []⟩ rfl hB (by show 1 + 4 ≤ 8; omega) CF.i4
  (go_simp; refine hK _ ?_; clear hK K)
  repeat (first | (refine RD.wd_quietU (by rfl) (by rfl) (by rfl) (fun K hK => ?_); go_big_quiet_op; refine hK _ ?_; clear hK K) | (refine RD.wd_quietG (by rfl) (by rfl) (by rfl) (by rfl) (by rfl) (fun K hK => ?_); go_big_quiet_op; refine hK _ ?_; clear hK K) | (refine RD.wd_skipG (by rfl) (by rfl) (by rfl) (fun K hK => ?_); go_simp; refine hK _ ?_; clear hK K) | (refine RD.wd_skipN (by rfl) (by rfl) (by rfl) (fun K hK => ?_); go_simp; refine hK _ ?_; clear hK K))
  refine RD.wd_loudU (us := [11]) (by rfl) (by rfl) (fun S wS hC hS hU hR => ?_) (fun v hv K hK => ?_)
  · have hB : BlkF r 136 (rdC (some ⟨b, o, none⟩) n cp lh ln h3 A m c h5).toArray S wS := hU 11 (by simp)
    obtain ⟨hc, hf⟩ := blkF_cells hB
    have hc5 : wS.cell? ⟨r, 5, none⟩ = some (.bool h3) := hc 5
    exact runs_skip (by go_simp <;> rfl) ⟨trivial, (blkF_set (i := 5) hB (.bool true)).1, (blkF_set (i := 5) hB (.bool true)).2⟩
  (go_simp; refine hK _ ?_; clear hK K)
  repeat (first | (refine RD.wd_quietU (by rfl) (by rfl) (by rfl) (fun K hK => ?_); go_big_quiet_op; refine hK _ ?_; clear hK K) | (refine RD.wd_quietG (by rfl) (by rfl) (by rfl) (by rfl) (by rfl) (fun K hK => ?_); go_big_quiet_op; refine hK _ ?_; clear hK K) | (refine RD.wd_skipG (by rfl) (by rfl) (by rfl) (fun K hK => ?_); go_simp; refine hK _ ?_; clear hK K) | (refine RD.wd_skipN (by rfl) (by rfl) (by rfl) (fun K hK => ?_); go_simp; refine hK _ ?_; clear hK K))
  refine RD.wd_loudU (us := [14]) (by rfl) (by rfl) (fun S wS hC hS hU hR => ?_) (fun v hv K hK => ?_)
  · have hB : BlkF r 136 (rdC (some ⟨b, o, none⟩) n cp lh ln true A m c h5).toArray S wS := hU 14 (by simp)
    obtain ⟨hc, hf⟩ := blkF_cells hB
    have hc0 : wS.cell? ⟨r, 0, none⟩ = some (.slice (some ⟨b, o, none⟩) n cp) := hc 0
    rw [hX3]
    exact runs_skip (by go_simp <;> rfl) ⟨trivial, (blkF_set (i := 0) hB (.slice (if cp = 3 then some ⟨b, o, none⟩ else some ⟨b, o + 3, none⟩) (n - 3) (cp - 3))).1, (blkF_set (i := 0) hB (.slice (if cp = 3 then some ⟨b, o, none⟩ else some ⟨b, o + 3, none⟩) (n - 3) (cp - 3))).2⟩
  (go_simp; refine hK _ ?_; clear hK K)
  repeat (first | (refine RD.wd_quietU (by rfl) (by rfl) (by rfl) (fun K hK => ?_); go_big_quiet_op; refine hK _ ?_; clear hK K) | (refine RD.wd_quietG (by rfl) (by rfl) (by rfl) (by rfl) (by rfl) (fun K hK => ?_); go_big_quiet_op; refine hK _ ?_; clear hK K) | (refine RD.wd_skipG (by rfl) (by rfl) (by rfl) (fun K hK => ?_); go_simp; refine hK _ ?_; clear hK K) | (refine RD.wd_skipN (by rfl) (by rfl) (by rfl) (fun K hK => ?_); go_simp; refine hK _ ?_; clear hK K))
  refine RD.wd_nil fun w3 hsat => ?_
  rw [← hX3]
  obtain ⟨S9, hS9, hF9⟩ := sat_get hsat 17
  have hg3 := (show BlkF r 136 (rdC X3 (n - 3) (cp - 3) lh ln true A m c h5).toArray S9 w3 from hF9).2
  have hk3 := hsat.1
  clear hsat hF9 hS9
  have hbw2 : Below w.heap.size w w2 := hb1.trans (hb2.mono hb1.size)
  have hb3 : Below w0.heap.size w2 w3 := hk3.below_of (B := w0.heap.size) (Nat.le_trans hb0.size hbw2.size) (fun g hg => by have e2 : g = r := hg; omega)
  have hbz : Below w0.heap.size w w3 := (hbw2.mono hb0.size).trans hb3
  have hsc3 := sl_rdr hg hsc HM.out hC (fun b hb hbr => (hk3.block b (Nat.lt_of_lt_of_le hb hbw2.size) hbr).trans (hbw2.block b hb)) (Nat.le_trans hbw2.size hk3.size)
  have hd3 := sl_dropS hsw 3 (by omega)
  have eX : X3 = (if cp = 3 then some (⟨b, o, none⟩ : Addr) else (some (⟨b, o, none⟩ : Addr)).map (·.add 3)) := by rw [hX3]; simp [addr_add]
  rw [← eX] at hd3
  have HD3 := hid hd3
  have HS3 := hid hsc3
  have HG3 := hid hg3
  clear hd3 hsc3 hg3 hk3 eX hX3 hsw hs hsc hg hgr1 hgr2 q0 hb3 HG2 HR2
  go_wp2_with fail
  go_ret
  refine ⟨?_, fun hB => ?_, hbz⟩
  · rfl
  have hl := HL.out hB
  injection hl with e1 e2
  subst e1; subst e2
  have hnR : n - 3 = R.length := by rw [hn]; simp
  refine ⟨X3, cp - 3, A, c, ?_, ?_, ?_⟩
  · show _ = some (Obj.cells (rdC X3 R.length (cp - 3) _ _ true A h4.length c h5).toArray _ _)
    rw [← hnR, HM.out]
    exact HG3.out
  · show Sl w0 1 (.slice X3 R.length (cp - 3)) (STR R)
    rw [← hnR]
    exact HD3.out
  · show Sl w3 4 (.slice A h4.length c) (CF.LNS h4)
    rw [HM.out]
    exact HS3.out
end PT
end Go.Proofs.YtecfkhgocjbocaaGreatDoor
namespace Go.Proofs.YtecfkhgocjbocaaGreatDoor
set_option linter.unusedVariables false
set_option linter.unusedSimpArgs false
open Go Go.RowKit

namespace PT
theorem setP_yes (S : Rdr) (lf vl : List UInt8) (R : List (List UInt8)) (h : (findR S.h lf).2 = true) (h2 : rightR (findR S.h lf).1 vl = true) : setP S lf vl R = some ⟨R, S.h, S.nm, S.op, confP S ⟨S.h, S.nm, lf, vl⟩, fullP S ⟨S.h, S.nm, lf, vl⟩⟩ := by
  unfold setP
  rw [h, h2]
  rfl
theorem setP_no (S : Rdr) (lf vl : List UInt8) (R : List (List UInt8)) (h : ((findR S.h lf).2 && rightR (findR S.h lf).1 vl) = false) : setP S lf vl R = none := by
  unfold setP
  rw [h]
  rfl
def SetPost (w0 : World) (r : Nat) (o : Option Rdr) (e : Ending) (w' : World) : Prop := e = .returned (.bool o.isSome) ∧ ∀ T, o = some T → IsRdr w0 r T w'
theorem setPost_none (w0 : World) (r : Nat) (w' : World) : SetPost w0 r none (.returned (.bool false)) w' := ⟨rfl, fun T h => by cases h⟩
set_option maxRecDepth 100000 in
set_option maxHeartbeats 3200000 in
theorem set_any (w0 : World) (r : Nat) (S : Rdr) (a vl t : List UInt8) (R : List (List UInt8)) (w : World) (hI : IsRdr w0 r S w) (hb0 : Below w0.heap.size w0 w) (hr : w0.heap.size ≤ r)
    (hW : S.w = a :: vl :: t :: R) (hO : Ok S) (hen : Env w0) :
    Calls Tryz.prog 111 #[.pointer (some ⟨r, 0, none⟩)] w fun e w' => SetPost w0 r (setP S a vl R) e w' ∧ Below w0.heap.size w w' := by
  obtain ⟨X, cp, A, c, hg, hsw, hsc⟩ := hI
  have hs := hsw.below hb0
  obtain ⟨hO1, hO2, hO3, hO4⟩ := hO
  have HSE : Hid (((findR S.h a).2 && rightR (findR S.h a).1 vl) = false → setP S a vl R = none) := setP_no S a vl R
  have HSY : Hid ((findR S.h a).2 = true → rightR (findR S.h a).1 vl = true → setP S a vl R = some ⟨R, S.h, S.nm, S.op, confP S ⟨S.h, S.nm, a, vl⟩, fullP S ⟨S.h, S.nm, a, vl⟩⟩) := setP_yes S a vl R
  have HCF : Hid (confP S ⟨S.h, S.nm, a, vl⟩ = if fullP S ⟨S.h, S.nm, a, vl⟩ = true then S.c else if CF.setE S.c ⟨S.h, S.nm, a, vl⟩ = 0 then CF.setC S.c ⟨S.h, S.nm, a, vl⟩ else S.c) := rfl
  have HFU : Hid (fullP S ⟨S.h, S.nm, a, vl⟩ = (S.full || decide (CF.setE S.c ⟨S.h, S.nm, a, vl⟩ = 5))) := rfl
  generalize setP S a vl R = OUT at *
  generalize confP S ⟨S.h, S.nm, a, vl⟩ = CX at *
  generalize fullP S ⟨S.h, S.nm, a, vl⟩ = FX at *
  obtain ⟨W, hh, nm, ob, C, fu⟩ := S
  simp only at *
  subst hW
  have hla := hO3 a List.mem_cons_self
  have hlv := hO3 vl (List.mem_cons_of_mem _ List.mem_cons_self)
  have HEN : Hid (∀ w', Below w0.heap.size w w' → Env w') := fun w' hb => hen.below (hb0.trans hb)
  have HLO : Hid (CF.LnOk ⟨hh, nm, a, vl⟩) := ⟨hO4, by show a.length ≤ _; omega, by show vl.length ≤ _; omega⟩
  have HOK := hid hO2
  have HRC := hid hO1
  have hcap := (sl_lensS hs).2
  obtain ⟨b, o, hX, hbl, p0⟩ := STR_cell hs (k := 0) (by simp)
  obtain ⟨b1, o1, hX1, _, p1⟩ := STR_cell hs (k := 1) (by simp)
  rw [hX] at hX1
  injection hX1 with hX1
  injection hX1 with e1 e2
  subst e1; subst e2; subst hX
  simp only [List.getD_cons_zero, List.getD_cons_succ, Nat.add_zero] at p0 p1
  obtain ⟨n, hn⟩ : ∃ n, n = (a :: vl :: t :: R).length := ⟨_, rfl⟩
  rw [← hn] at hs hsw hg hcap
  have hn3 : 3 ≤ n := by rw [hn]; simp
  have i1 : 1 < n := by omega
  have i0 : 0 < n := by omega
  have i3 : 3 ≤ cp := by omega
  have HNN : Hid (n - 3 = R.length) := by show _ = _; rw [hn]; simp
  clear hn
  generalize hm : C.length = m at *
  have HM := hid hm
  clear hm hen hO1 hO2 hO3 hO4
  have hrl := blk_lt hg
  have hrange : w.rangeAt r 1 (lnC ⟨hh, nm, [], []⟩) := fun j v hv => by
    rw [blkCell hg (1 + j)]
    match j, hv with
    | 0, hv => exact hv
    | 1, hv => exact hv
    | 2, hv => exact hv
    | 3, hv => exact hv
    | j + 4, hv => simp [lnC] at hv
  obtain ⟨hb1, hg1, hl1⟩ := box1 w (.cells (lnV ⟨hh, nm, [], []⟩) 29)
  go_enter Tryz.func111, Tryz.ntmps111
  go_upto_region 2 with (first | refine wpList_load_mid rfl 29 (.tmp 10) rfl r 1 rfl (lnC ⟨hh, nm, [], []⟩) _ hrange Tryz.underlying29 rfl CF.i4 ?_ | refine wpList_store_last rfl 29 (.tmp 3) (.tmp 11) rfl (lnV ⟨hh, nm, [], []⟩) rfl rfl CF.i4 rfl (lnV_one _) ?_)
  generalize w.alloc (.cells (lnV ⟨hh, nm, [], []⟩) 29) = w1 at *
  have hgr1 := blk_below hg hb1 hrl
  have hrl1 := blk_lt hgr1
  have hbl1 := Nat.lt_of_lt_of_le hbl hb1.size
  have u0 : w1.cell? ⟨r, 0, none⟩ = some (.slice (some ⟨b, o, none⟩) n cp) := by rw [blkCell hgr1 0]; rfl
  have z0 := fun (z : WK (fun g => g = w.heap.size) w1) => (wat_cell (p := ⟨r, 0, none⟩) hrl1 (fun e => by have e2 : r = w.heap.size := e; omega) z).trans u0
  have z1 := fun (z : WK (fun g => g = w.heap.size) w1) => (wat_cell (p := ⟨b, o, none⟩) hbl1 (fun e => by have e2 : b = w.heap.size := e; omega) z).trans ((hb1.cell (p := ⟨b, o, none⟩) hbl).trans p0)
  have z2 := fun (z : WK (fun g => g = w.heap.size) w1) => (wat_cell (p := ⟨b, o + 1, none⟩) hbl1 (fun e => by have e2 : b = w.heap.size := e; omega) z).trans ((hb1.cell (p := ⟨b, o + 1, none⟩) hbl).trans p1)
  show Code.wp _ _ _ ({ tmps := _, defers := [] } : Act) _
  refine wp_region_loud (fun g => g = w.heap.size) [(13, keepL [100] (BlkF w.heap.size 29 (lnV ⟨hh, nm, a, []⟩))), (15, keepL [13] (BlkF w.heap.size 29 (lnV ⟨hh, nm, a, vl⟩)))] (labelled 100 (BlkF w.heap.size 29 (lnV ⟨hh, nm, [], []⟩))) (by kernel_rfl) (by kernel_rfl)
    (.cons (keepL_ok _ (good_blk _ _ _)) (.cons (keepL_ok _ (good_blk _ _ _)) .nil)) (good_one 100 (good_blk _ _ _)) (sat_one 100 _ (fun g hg => by have e2 : g = w.heap.size := hg; omega) ⟨rfl, hg1⟩) (WX.out ?_)
  repeat (first | (refine wx_quietU (by rfl) (by rfl) (by rfl) (fun K hK => ?_); go_big_quiet_op; refine hK _ ?_; clear hK K) | (refine wx_quietG (by rfl) (by rfl) (by rfl) (by rfl) (by rfl) (fun K hK => ?_); go_big_quiet_op; refine hK _ ?_; clear hK K) | (refine wx_skipG (by rfl) (by rfl) (by rfl) (fun K hK => ?_); go_simp; refine hK _ ?_; clear hK K) | (refine wx_skipN (by rfl) (by rfl) (by rfl) (fun K hK => ?_); go_simp; refine hK _ ?_; clear hK K))
  refine wx_loudU (us := [100]) (by rfl) (by rfl) (fun S wS hC hS hU => ?_) (fun v hv K hK => ?_)
  · have hB : BlkF w.heap.size 29 (lnV ⟨hh, nm, [], []⟩) S wS := hU 100 (by simp)
    obtain ⟨hc, hf⟩ := blkF_cells hB
    exact runs_skip (by go_simp <;> rfl) ⟨trivial, (blkF_set (i := 2) hB (.string (S8 a))).1, (blkF_set (i := 2) hB (.string (S8 a))).2⟩
  (go_simp; refine hK _ ?_; clear hK K)
  repeat (first | (refine wx_quietU (by rfl) (by rfl) (by rfl) (fun K hK => ?_); go_big_quiet_op; refine hK _ ?_; clear hK K) | (refine wx_quietG (by rfl) (by rfl) (by rfl) (by rfl) (by rfl) (fun K hK => ?_); go_big_quiet_op; refine hK _ ?_; clear hK K) | (refine wx_skipG (by rfl) (by rfl) (by rfl) (fun K hK => ?_); go_simp; refine hK _ ?_; clear hK K) | (refine wx_skipN (by rfl) (by rfl) (by rfl) (fun K hK => ?_); go_simp; refine hK _ ?_; clear hK K))
  refine wx_loudU (us := [13]) (by rfl) (by rfl) (fun S wS hC hS hU => ?_) (fun v hv K hK => ?_)
  · have hB : BlkF w.heap.size 29 (lnV ⟨hh, nm, a, []⟩) S wS := hU 13 (by simp)
    obtain ⟨hc, hf⟩ := blkF_cells hB
    exact runs_skip (by go_simp <;> rfl) ⟨trivial, (blkF_set (i := 3) hB (.string (S8 vl))).1, (blkF_set (i := 3) hB (.string (S8 vl))).2⟩
  (go_simp; refine hK _ ?_; clear hK K)
  repeat (first | (refine wx_quietU (by rfl) (by rfl) (by rfl) (fun K hK => ?_); go_big_quiet_op; refine hK _ ?_; clear hK K) | (refine wx_quietG (by rfl) (by rfl) (by rfl) (by rfl) (by rfl) (fun K hK => ?_); go_big_quiet_op; refine hK _ ?_; clear hK K) | (refine wx_skipG (by rfl) (by rfl) (by rfl) (fun K hK => ?_); go_simp; refine hK _ ?_; clear hK K) | (refine wx_skipN (by rfl) (by rfl) (by rfl) (fun K hK => ?_); go_simp; refine hK _ ?_; clear hK K))
  refine wx_nil fun w2 hsat => ?_
  obtain ⟨S9, hS9, hF9⟩ := sat_get hsat 15
  have hg2 := (show BlkF w.heap.size 29 (lnV ⟨hh, nm, a, vl⟩) S9 w2 from hF9).2
  have hbw2 := hb1.trans (hsat.1.below_of (B := w.heap.size) hb1.size (fun g hg => by have e2 : g = w.heap.size := hg; omega))
  have hgr2 := blk_below hg hbw2 hrl
  have hl2 := blk_lt hg2
  have hrl2 := blk_lt hgr2
  clear hsat hF9 hS9 z0 z1 z2 u0 hg1 hl1 hgr1 hrl1 hbl1 hb1 p0 p1
  obtain ⟨X3, hX3⟩ : ∃ X3 : Option Addr, X3 = if cp = 3 then some ⟨b, o, none⟩ else some ⟨b, o + 3, none⟩ := ⟨_, rfl⟩
  have u0 : w2.cell? ⟨r, 0, none⟩ = some (.slice (some ⟨b, o, none⟩) n cp) := by rw [blkCell hgr2 0]; rfl
  have f0 : w2.frozen? ⟨r, 0, none⟩ = false := (blkF_cells (S := fun _ => True) ⟨trivial, hgr2⟩).2 0
  go_upto_region 4 with fail
  rw [← hX3]
  have hne : w.heap.size ≠ r := by omega
  have hgr3 : (w2.setCell ⟨r, 0, none⟩ (.slice X3 (n - 3) (cp - 3))).heap[r]? = some (.cells (rdC X3 (n - 3) (cp - 3) hh nm ob A m c fu).toArray 136 (0, 0)) := blk_set hgr2 0 (.slice X3 (n - 3) (cp - 3))
  have hg3 := blk_set_far hg2 (p := ⟨r, 0, none⟩) hne (.slice X3 (n - 3) (cp - 3))
  have hk3 : ∀ b, b < w.heap.size → b ≠ r → (w2.setCell ⟨r, 0, none⟩ (.slice X3 (n - 3) (cp - 3))).heap[b]? = w.heap[b]? := fun b hb hbr => (Below.heap_setCell w2 ⟨r, 0, none⟩ _ b hbr).trans (hbw2.block b hb)
  have hb3 : Below w0.heap.size w (w2.setCell ⟨r, 0, none⟩ (.slice X3 (n - 3) (cp - 3))) := (hbw2.mono hb0.size).setCell hr _
  have hs3 : w2.heap.size ≤ (w2.setCell ⟨r, 0, none⟩ (.slice X3 (n - 3) (cp - 3))).heap.size := by simp [World.setCell]
  have hd3 := sl_dropS hsw 3 (by omega)
  have eX : X3 = (if cp = 3 then (some (⟨b, o, none⟩ : Addr)) else (some (⟨b, o, none⟩ : Addr)).map (·.add 3)) := by rw [hX3]; simp [addr_add]
  rw [← eX] at hd3
  have HD3 := hid hd3
  have HSC := hid hsc
  have HG := hid hg
  clear hd3 eX hX3 hsw hs hsc u0 f0 hgr2 hg2 hbl hrange
  generalize w2.setCell ⟨r, 0, none⟩ (.slice X3 (n - 3) (cp - 3)) = w3 at *
  have c0 : w3.cell? ⟨w.heap.size, 0, none⟩ = some (.int .i64 hh) := by rw [blkCell hg3 0]; rfl
  have c2 : w3.cell? ⟨w.heap.size, 2, none⟩ = some (.string (S8 a)) := by rw [blkCell hg3 2]; rfl
  have hF := find_new hh (S8 a) w3
  rw [bl_S8] at hF
  have hfk := CF.findR_kind hh a
  have hfc := findR_cho hh a
  generalize findR hh a = FR at *
  obtain ⟨row, fb⟩ := FR
  simp only at hF HSE HSY hfk hfc
  have HF := hid hF
  have HG3 := hid hg3
  have HGR := hid hgr3
  have HK3 := hid hk3
  clear hF hg3 hgr3 hk3
  go_wp2_with fail
  refine HF.out.mono ?_
  rintro e w4 ⟨Aq, rfl, hb4, hch, hcf⟩
  clear HF c0 c2
  have hi8 : (Tryz.prog.info? 93).map (·.size) = some (rwV row Aq).size := CF.i8
  obtain ⟨hb5, hr5, hl5⟩ := box1 w4 (.cells (rwV row Aq) 93)
  replace hch := hch.below hb5
  go_upto_region 5 with (refine wpList_store_last rfl 93 (.tmp 4) (.tmp 40) rfl (rwV row Aq) rfl rfl hi8 rfl (rwV_one _ _) ?_)
  generalize w4.alloc (.cells (rwV row Aq) 93) = w5 at *
  have hb35 := hb4.trans (hb5.mono hb4.size)
  have hl3 := blk_lt HG3.out
  have hrl3 := blk_lt HGR.out
  replace HG3 := hid (blk_below HG3.out hb35 hl3)
  replace HGR := hid (blk_below HGR.out hb35 hrl3)
  have hw3 : w.heap.size ≤ w3.heap.size := by omega
  have HK5 : Hid (∀ b, b < w.heap.size → b ≠ r → w5.heap[b]? = w.heap[b]?) := fun b hb hbr => (hb35.block b (by omega)).trans (HK3.out b hb hbr)
  have hbw5 : Below w0.heap.size w w5 := hb3.trans (hb35.mono (by have := hb0.size; omega))
  have hs5 : w.heap.size ≤ w5.heap.size := by have := hb35.size; omega
  clear HK3 hb4 hb5 hb3 hb35 hcf
  have HRT : Hid (Calls Tryz.prog 86 #[.agg (rwV row Aq), .string (S8 vl)] w5 fun e w' => e = .returned (.bool (rightR row vl)) ∧ Below w5.heap.size w5 w') := by
    have := Go.Proofs.YtecfkhgocjbocaaGreatDoor.right_any row Aq (S8 vl) w5 (by rw [S8_size]; omega) (HEN.out w5 hbw5) hch (by omega) hfk
    rw [bl_S8] at this
    exact this
  clear hch hfc hfk
  generalize rightR row vl = rb at *
  cases fb with
  | false =>
    have HO : Hid (OUT = none) := HSE.out (by simp)
    clear HSE HSY HRT
    as_aux_lemma =>
      go_wp2_with fail
      go_ret
      exact ⟨by rw [HO.out]; exact setPost_none _ _ _, hbw5⟩
  | true =>
    have c3 : w5.cell? ⟨w.heap.size, 3, none⟩ = some (.string (S8 vl)) := by rw [blkCell HG3.out 3]; rfl
    go_wp2_with (refine CF.wpList_load_rowG (by rfl) 93 (.tmp 4) rfl w4.heap.size rfl 93 (rwV row Aq) (0, 0) _ hr5 Tryz.underlying93 rfl CF.i8 ?_)
    refine HRT.out.mono ?_
    rintro e w6 ⟨rfl, hb6⟩
    clear c3 HRT hr5
    have hl5' := blk_lt HG3.out
    have hrl5 := blk_lt HGR.out
    replace HG3 := hid (blk_below HG3.out hb6 hl5')
    replace HGR := hid (blk_below HGR.out hb6 hrl5)
    have HK6 : Hid (∀ b, b < w.heap.size → b ≠ r → w6.heap[b]? = w.heap[b]?) := fun b hb hbr => (hb6.block b (by omega)).trans (HK5.out b hb hbr)
    have hbw6 : Below w0.heap.size w w6 := hbw5.trans (hb6.mono (by have := hb0.size; omega))
    have hs6 : w.heap.size ≤ w6.heap.size := by have := hb6.size; omega
    clear hb6 HK5 hbw5 hs5
    cases rb with
    | false =>
      have HO : Hid (OUT = none) := HSE.out (by simp)
      clear HSE HSY
      as_aux_lemma =>
        go_wp2_with fail
        go_ret
        exact ⟨by rw [HO.out]; exact setPost_none _ _ _, hbw6⟩
    | true =>
      have HO := hid (HSY.out (by simp) (by simp))
      clear HSE HSY
      have hsc6 := sl_rdr HG.out HSC.out HM.out HRC.out HK6.out hs6
      have hdr : Below w6.heap.size w6 w6.drew := (Below.refl _ _).drew
      have HCS := hid (CF.Set_any C ⟨hh, nm, a, vl⟩ A m c w6.drew hsc6.drew HOK.out HLO.out (HEN.out _ hbw6.drew))
      have HDR : Hid (CF.setE C ⟨hh, nm, a, vl⟩ = 0 → CF.RightC (CF.setC C ⟨hh, nm, a, vl⟩) = true) := CF.right_set C _
      have HS6 := hid hsc6
      clear hsc6
      generalize CF.setC C ⟨hh, nm, a, vl⟩ = D at *
      generalize CF.setE C ⟨hh, nm, a, vl⟩ = E at *
      have c0 : w6.cell? ⟨w.heap.size, 0, none⟩ = some (.int .i64 hh) := by rw [blkCell HG3.out 0]; rfl
      have c1 : w6.cell? ⟨w.heap.size, 1, none⟩ = some (.string (S8 nm)) := by rw [blkCell HG3.out 1]; rfl
      have c2 : w6.cell? ⟨w.heap.size, 2, none⟩ = some (.string (S8 a)) := by rw [blkCell HG3.out 2]; rfl
      have c3 : w6.cell? ⟨w.heap.size, 3, none⟩ = some (.string (S8 vl)) := by rw [blkCell HG3.out 3]; rfl
      have u6 : w6.cell? ⟨r, 6, none⟩ = some (.slice A m c) := by rw [blkCell HGR.out 6]; rfl
      go_upto_if 50 with fail
      iterate 5 (first | go_guarded | go_step | go_upon)
      go_cut [6, 7] (fun d e wx => ∃ A' c', d = .slice A' D.length c' ∧ e = .int .i64 E ∧ Hid (Sl wx 4 (.slice A' D.length c') (CF.LNS D)) ∧ Below w6.heap.size w6 wx)
      case first =>
        clear HS6 HD3 HSC HG HGR HG3 HK6 HO HCF HFU
        go_region_with (go_at_call 13; refine HCS.out.mono ?_; rintro e w7 ⟨⟨A7, c7, rfl, hs7⟩, hb7⟩)
        all_goals
          go_wp2_with fail
          go_meet
          all_goals go_light
          exact ⟨A7, c7, rfl, rfl, hid hs7, hdr.trans hb7⟩
      case rest =>
        obtain ⟨A7, c7, rfl, rfl, HS7, hb7⟩ := hcut
        have hrl6 := blk_lt HGR.out
        have hgr7 := blk_below HGR.out hb7 hrl6
        have hbw7 : Below w0.heap.size w wc := hbw6.trans (hb7.mono (by have := hb0.size; omega))
        have HSC7 := hid (HS6.out.below hb7)
        have HGR7 := hid hgr7
        have u7 : wc.cell? ⟨r, 7, none⟩ = some (.bool fu) := by rw [blkCell hgr7 7]; rfl
        have u6' : wc.cell? ⟨r, 6, none⟩ = some (.slice A m c) := by rw [blkCell hgr7 6]; rfl
        have f7 : wc.frozen? ⟨r, 7, none⟩ = false := (blkF_cells (S := fun _ => True) ⟨trivial, hgr7⟩).2 7
        have f6 : wc.frozen? ⟨r, 6, none⟩ = false := (blkF_cells (S := fun _ => True) ⟨trivial, hgr7⟩).2 6
        clear c0 c1 c2 c3 u6 hb7 hgr7 HS6 HCS HG3 HK6 hbw6 HG HSC hdr
        have HFIN : Hid (∀ v7 A9 m9 c9 i v, Sl (wc.setCell ⟨r, i, none⟩ v) 4 (.slice A9 m9 c9) (CF.LNS CX) → CX.length = m9 → FX = v7 → (wc.setCell ⟨r, i, none⟩ v).heap[r]? = some (.cells (rdC X3 (n - 3) (cp - 3) hh nm ob A9 m9 c9 v7).toArray 136 (0, 0)) → SetPost w0 r OUT (.returned (.bool true)) (wc.setCell ⟨r, i, none⟩ v)) := by
          intro v7 A9 m9 c9 i v k1 k2 k3 k4
          rw [HO.out]
          refine ⟨rfl, fun T hT => ?_⟩
          injection hT with hT
          subst hT
          refine ⟨X3, cp - 3, A9, c9, ?_, ?_, ?_⟩
          · show _ = some (Obj.cells (rdC X3 R.length (cp - 3) hh nm ob A9 CX.length c9 FX).toArray _ _)
            rw [← HNN.out, k2, k3]
            exact k4
          · show Sl w0 1 (.slice X3 R.length (cp - 3)) (STR R)
            rw [← HNN.out]
            exact HD3.out
          · show Sl _ 4 (.slice A9 CX.length c9) (CF.LNS CX)
            rw [k2]
            exact k1
        have HKP : Hid (∀ i v, Sl (wc.setCell ⟨r, i, none⟩ v) 4 (.slice A m c) (CF.LNS C)) := fun i v => sl_rdr HGR7.out HSC7.out HM.out HRC.out (fun b hb hbr => Below.heap_setCell wc ⟨r, i, none⟩ v b hbr) (by simp [World.setCell])
        have hbz : ∀ i v, Below w0.heap.size w (wc.setCell ⟨r, i, none⟩ v) := fun i v => hbw7.setCell hr _
        have HBZ := hid hbz
        clear hbz
        cases fu with
        | true =>
          have hFX : FX = true := by rw [HFU.out]; rfl
          have hCX : CX = C := by rw [HCF.out, if_pos hFX]
          have HP : Hid (SetPost w0 r OUT (.returned (.bool true)) (wc.setCell ⟨r, 7, none⟩ (.bool true))) := HFIN.out true A m c 7 _ (by rw [hCX]; exact HKP.out 7 _) (by rw [hCX]; exact HM.out) hFX (blk_set HGR7.out 7 (.bool true))
          have hbz := HBZ.out 7 (.bool true)
          clear HFIN HKP HBZ HFU HCF hFX hCX HO
          as_aux_lemma =>
            go_wp2_with fail
            go_ret
            exact ⟨HP.out, hbz⟩
        | false =>
          by_cases hE5 : E = 5
          · have hFX : FX = true := by rw [HFU.out, hE5]; rfl
            have hCX : CX = C := by rw [HCF.out, if_pos hFX]
            have HP : Hid (SetPost w0 r OUT (.returned (.bool true)) (wc.setCell ⟨r, 7, none⟩ (.bool true))) := HFIN.out true A m c 7 _ (by rw [hCX]; exact HKP.out 7 _) (by rw [hCX]; exact HM.out) hFX (blk_set HGR7.out 7 (.bool true))
            have hbz := HBZ.out 7 (.bool true)
            have te : (E == 5) = true := by simpa using hE5
            clear HFIN HKP HBZ HFU HCF hFX hCX HO hE5
            as_aux_lemma =>
              go_wp2_with fail
              go_ret
              exact ⟨HP.out, hbz⟩
          · have hFX : FX = false := by rw [HFU.out, decide_eq_false hE5]; rfl
            have te : (E == 5) = false := by simpa using hE5
            by_cases hE0 : E = 0
            · have hCX : CX = D := by rw [HCF.out, hFX, if_neg (by decide), if_pos hE0]
              have te0 : (E == 0) = true := by simpa using hE0
              have hdr := HDR.out hE0
              have hgD := HGR7.out
              have HP : Hid (SetPost w0 r OUT (.returned (.bool true)) (wc.setCell ⟨r, 6, none⟩ (.slice A7 D.length c7))) := HFIN.out false A7 D.length c7 6 _ (by rw [hCX]; exact sl_rdr HGR7.out HS7.out rfl hdr (fun b hb hbr => Below.heap_setCell wc ⟨r, 6, none⟩ _ b hbr) (by simp [World.setCell])) (by rw [hCX]) hFX (blk_set HGR7.out 6 (.slice A7 D.length c7))
              have hbz := HBZ.out 6 (.slice A7 D.length c7)
              clear HFIN HKP HBZ HFU HCF hFX hCX HO hE5 hE0 hgD
              as_aux_lemma =>
                go_wp2_with fail
                go_ret
                exact ⟨HP.out, hbz⟩
            · have hCX : CX = C := by rw [HCF.out, hFX, if_neg (by decide), if_neg hE0]
              have te0 : (E == 0) = false := by simpa using hE0
              have HP : Hid (SetPost w0 r OUT (.returned (.bool true)) wc) := by
                show SetPost _ _ _ _ _
                rw [HO.out]
                refine ⟨rfl, fun T hT => ?_⟩
                injection hT with hT
                subst hT
                refine ⟨X3, cp - 3, A, c, ?_, ?_, ?_⟩
                · show _ = some (Obj.cells (rdC X3 R.length (cp - 3) hh nm ob A CX.length c FX).toArray _ _)
                  rw [← HNN.out, hCX, HM.out, hFX]
                  exact HGR7.out
                · show Sl w0 1 (.slice X3 R.length (cp - 3)) (STR R)
                  rw [← HNN.out]
                  exact HD3.out
                · show Sl _ 4 (.slice A CX.length c) (CF.LNS CX)
                  rw [hCX, HM.out]
                  exact HSC7.out
              clear HFIN HKP HBZ HFU HCF hFX hCX HO hE5 hE0
              as_aux_lemma =>
                go_wp2_with fail
                go_ret
                exact ⟨HP.out, hbw7⟩
end PT
end Go.Proofs.YtecfkhgocjbocaaGreatDoor
namespace Go.Proofs.YtecfkhgocjbocaaGreatDoor
set_option linter.unusedVariables false
set_option linter.unusedSimpArgs false
open Go Go.RowKit

namespace PT
theorem begin_post (w0 : World) (r : Nat) (S : Rdr) (a nm t : List UInt8) (R : List (List UInt8)) (w : World) (hI : IsRdr w0 r S w) (hb0 : Below w0.heap.size w0 w) (hr : w0.heap.size ≤ r)
    (hW : S.w = a :: nm :: t :: R) (ha : headW a ≠ 0) (hO : Ok S) (hen : Env w0) :
    Calls Tryz.prog 110 #[.pointer (some ⟨r, 0, none⟩)] w fun e w' => SetPost w0 r (beginP S a nm R) e w' ∧ Below w0.heap.size w w' := by
  refine (begin_any w0 r S a nm t R w hI hb0 hr hW ha (fun x hx => by have := hO.2.2.1 x hx; omega) hO.1 (hen.below hb0)).mono ?_
  rintro e w' ⟨rfl, h1, h2⟩
  refine ⟨?_, h2⟩
  unfold beginP
  by_cases hn : namedR (headW a) nm = true
  · rw [if_pos hn]
    refine ⟨by rw [hn]; rfl, fun T hT => ?_⟩
    injection hT with hT
    subst hT
    exact h1 hn
  · rw [if_neg hn]
    refine ⟨?_, fun T hT => by cases hT⟩
    have : namedR (headW a) nm = false := by simpa using hn
    rw [this]
    rfl
theorem step_close (S : Rdr) (a : List UInt8) (rr : List (List UInt8)) (hW : S.w = a :: rr) (h1 : S.op = true) (h2 : a = [125]) : stepP S = some ⟨rr, 0, [], false, S.c, S.full⟩ := by
  unfold stepP
  rw [hW]
  simp only
  rw [if_pos ⟨h1, h2⟩]
theorem step_begin (S : Rdr) (a : List UInt8) (rr : List (List UInt8)) (hW : S.w = a :: rr) (h1 : S.op = false) (h2 : headW a ≠ 0) (h3 : seesP (a :: rr) [123] = true) : stepP S = beginP S a (rr.getD 0 []) (rr.drop 2) := by
  unfold stepP
  rw [hW]
  simp only
  rw [if_neg (fun h => by rw [h1] at h; cases h.1), if_pos ⟨h1, h2, h3⟩]
theorem step_semi (S : Rdr) (a : List UInt8) (rr : List (List UInt8)) (hW : S.w = a :: rr) (h1 : ¬ (S.op = true ∧ a = [125])) (h2 : ¬ (S.op = false ∧ headW a ≠ 0 ∧ seesP (a :: rr) [123] = true)) :
    stepP S = if seesP (a :: rr) [59] = true then setP S a (rr.getD 0 []) (rr.drop 2) else none := by
  unfold stepP
  rw [hW]
  simp only
  rw [if_neg h1, if_neg h2]
theorem ln_z : (Tryz.prog).built 29 [] = some (lnV ln0) := by kernel_rfl
set_option maxRecDepth 100000 in
set_option maxHeartbeats 3200000 in
theorem step_any (w0 : World) (r : Nat) (S : Rdr) (w : World) (hI : IsRdr w0 r S w) (hb0 : Below w0.heap.size w0 w) (hr : w0.heap.size ≤ r) (hw : S.w ≠ []) (hO : Ok S) (hen : Env w0) :
    Calls Tryz.prog 80 #[.pointer (some ⟨r, 0, none⟩)] w fun e w' => SetPost w0 r (stepP S) e w' ∧ Below w0.heap.size w w' := by
  have hI0 := hI
  obtain ⟨X, cp, A, c, hg, hsw, hsc⟩ := hI
  have hs := hsw.below hb0
  obtain ⟨a, rr, hW⟩ : ∃ a rr, S.w = a :: rr := by
    cases h : S.w with
    | nil => exact absurd h hw
    | cons a rr => exact ⟨a, rr, rfl⟩
  have hbz := Below.refl w0.heap.size w
  obtain ⟨b, o, hX, hbl, p0⟩ := STR_cell hs (k := 0) (by rw [hW]; simp)
  rw [hW] at p0
  simp only [List.getD_cons_zero, Nat.add_zero] at p0
  subst hX
  obtain ⟨n, hn⟩ : ∃ n, n = S.w.length := ⟨_, rfl⟩
  have hn0 : 0 < n := by rw [hn, hW]; simp
  have HN := hid hn
  have hcap := (sl_lensS hs).2
  rw [← hn] at hg hsw hs hcap
  clear hn
  have u0 : w.cell? ⟨r, 0, none⟩ = some (.slice (some ⟨b, o, none⟩) n cp) := by rw [blkCell hg 0]; rfl
  have u5 : w.cell? ⟨r, 5, none⟩ = some (.bool S.op) := by rw [blkCell hg 5]; rfl
  have hi := hid hI0
  by_cases hA : S.op = true ∧ a = [125]
  · obtain ⟨hA1, hA2⟩ := hA
    have HST := hid (step_close S a rr hW hA1 hA2)
    have HRC := hid hO.1
    have HRL : Hid (n - 1 = rr.length) := by show _ = _; rw [HN.out, hW]; simp
    have HD1' := sl_dropS hsw 1 (by omega)
    rw [hW] at HD1'
    rw [hA1] at u5
    rw [hA2] at p0
    clear hW hI0 hi hs hw hO hen HN
    obtain ⟨W, hh, nm, ob, C, fu⟩ := S
    simp only at *
    subst hA1; subst hA2
    generalize hm : C.length = m at *
    have HM := hid hm
    have hrl := blk_lt hg
    have HG := hid hg
    have HSC := hid hsc
    have i1 : 1 ≤ n := by omega
    have i2 : 1 ≤ cp := by omega
    have qa : ((S8 ([125] : List UInt8)).toList == [125]) = true := by
      rw [show (S8 ([125] : List UInt8)).toList = [125] from Lib.toList_data _]
      rfl
    obtain ⟨X1, hX1⟩ : ∃ X1 : Option Addr, X1 = if cp = 1 then some ⟨b, o, none⟩ else some ⟨b, o + 1, none⟩ := ⟨_, rfl⟩
    generalize hst : stepP ⟨W, hh, nm, true, C, fu⟩ = OUT at *
    clear hst hsw hsc hm
    go_enter Tryz.func80, Tryz.ntmps80
    go_upto_region 2 with fail
    refine RD.wp_region_read (fun g => g = r) [(3, plainL [] (.agg (lnV ln0))), (7, plainL [] (.slice (some ⟨b, o, none⟩) n cp)),
        (11, keepL [100] (BlkF r 136 (rdC (some ⟨b, o, none⟩) n cp 0 [] true A m c fu).toArray)),
        (14, keepL [11] (BlkF r 136 (rdC (some ⟨b, o, none⟩) n cp 0 [] false A m c fu).toArray)),
        (17, keepL [14] (BlkF r 136 (rdC X1 (n - 1) (cp - 1) 0 [] false A m c fu).toArray))]
      [(7, [100])]
      (labelled 100 (BlkF r 136 (rdC (some ⟨b, o, none⟩) n cp hh nm true A m c fu).toArray)) (by kernel_rfl) (by kernel_rfl)
      (.cons (plainL_ok _ _) (.cons (plainL_ok _ _) (.cons (keepL_ok _ (good_blk _ _ _)) (.cons (keepL_ok _ (good_blk _ _ _)) (.cons (keepL_ok _ (good_blk _ _ _)) .nil))))) (good_one 100 (good_blk _ _ _))
      (sat_one 100 _ (fun g hg => by have e2 : g = r := hg; omega) ⟨rfl, HG.out⟩) (RD.WD.out ?_)
    repeat (first | (refine RD.wd_quietU (by rfl) (by rfl) (by rfl) (fun K hK => ?_); go_big_quiet_op; refine hK _ ?_; clear hK K) | (refine RD.wd_quietG (by rfl) (by rfl) (by rfl) (by rfl) (by rfl) (fun K hK => ?_); go_big_quiet_op; refine hK _ ?_; clear hK K) | (refine RD.wd_skipG (by rfl) (by rfl) (by rfl) (fun K hK => ?_); go_simp; refine hK _ ?_; clear hK K) | (refine RD.wd_skipN (by rfl) (by rfl) (by rfl) (fun K hK => ?_); go_simp; refine hK _ ?_; clear hK K))
    refine RD.wd_loudU (us := []) (by rfl) (by rfl) (fun S wS hC hS hU hR => ?_) (fun v hv K hK => ?_)
    · exact runs_buildV 29 [] rfl [] rfl (lnV ln0) ln_z ⟨rfl, Kept.refl _ _, trivial⟩
    obtain rfl := hv; (go_simp; refine hK _ ?_; clear hK K)
    repeat (first | (refine RD.wd_quietU (by rfl) (by rfl) (by rfl) (fun K hK => ?_); go_big_quiet_op; refine hK _ ?_; clear hK K) | (refine RD.wd_quietG (by rfl) (by rfl) (by rfl) (by rfl) (by rfl) (fun K hK => ?_); go_big_quiet_op; refine hK _ ?_; clear hK K) | (refine RD.wd_skipG (by rfl) (by rfl) (by rfl) (fun K hK => ?_); go_simp; refine hK _ ?_; clear hK K) | (refine RD.wd_skipN (by rfl) (by rfl) (by rfl) (fun K hK => ?_); go_simp; refine hK _ ?_; clear hK K))
    refine RD.wd_loudU (us := []) (by rfl) (by rfl) (fun S wS hC hS hU hR => ?_) (fun v hv K hK => ?_)
    · obtain ⟨S', hB⟩ := hR 100 (by decide)
      have hc : wS.cell? ⟨r, 0, none⟩ = some (.slice (some ⟨b, o, none⟩) n cp) := (blkF_cells (show BlkF r 136 (rdC (some ⟨b, o, none⟩) n cp hh nm true A m c fu).toArray S' wS from hB)).1 0
      exact runs_value (by go_simp <;> rfl) ⟨rfl, Kept.refl _ _, trivial⟩
    obtain rfl := hv; (go_simp; refine hK _ ?_; clear hK K)
    repeat (first | (refine RD.wd_quietU (by rfl) (by rfl) (by rfl) (fun K hK => ?_); go_big_quiet_op; refine hK _ ?_; clear hK K) | (refine RD.wd_quietG (by rfl) (by rfl) (by rfl) (by rfl) (by rfl) (fun K hK => ?_); go_big_quiet_op; refine hK _ ?_; clear hK K) | (refine RD.wd_skipG (by rfl) (by rfl) (by rfl) (fun K hK => ?_); go_simp; refine hK _ ?_; clear hK K) | (refine RD.wd_skipN (by rfl) (by rfl) (by rfl) (fun K hK => ?_); go_simp; refine hK _ ?_; clear hK K))
    refine RD.wd_loudU (us := [100]) (by rfl) (by rfl) (fun S wS hC hS hU hR => ?_) (fun v hv K hK => ?_)
    · have hB : BlkF r 136 (rdC (some ⟨b, o, none⟩) n cp hh nm true A m c fu).toArray S wS := hU 100 (by simp)
      exact store4_x 29 (.tmp 27) (.tmp 20) rfl 1 rfl ln0 rfl hB (by show 1 + 4 ≤ 8; omega) CF.i4
    (go_simp; refine hK _ ?_; clear hK K)
    repeat (first | (refine RD.wd_quietU (by rfl) (by rfl) (by rfl) (fun K hK => ?_); go_big_quiet_op; refine hK _ ?_; clear hK K) | (refine RD.wd_quietG (by rfl) (by rfl) (by rfl) (by rfl) (by rfl) (fun K hK => ?_); go_big_quiet_op; refine hK _ ?_; clear hK K) | (refine RD.wd_skipG (by rfl) (by rfl) (by rfl) (fun K hK => ?_); go_simp; refine hK _ ?_; clear hK K) | (refine RD.wd_skipN (by rfl) (by rfl) (by rfl) (fun K hK => ?_); go_simp; refine hK _ ?_; clear hK K))
    refine RD.wd_loudU (us := [11]) (by rfl) (by rfl) (fun S wS hC hS hU hR => ?_) (fun v hv K hK => ?_)
    · have hB : BlkF r 136 (rdC (some ⟨b, o, none⟩) n cp 0 [] true A m c fu).toArray S wS := hU 11 (by simp)
      obtain ⟨hc, hf⟩ := blkF_cells hB
      have hc5 : wS.cell? ⟨r, 5, none⟩ = some (.bool true) := hc 5
      exact runs_skip (by go_simp <;> rfl) ⟨trivial, (blkF_set (i := 5) hB (.bool false)).1, (blkF_set (i := 5) hB (.bool false)).2⟩
    (go_simp; refine hK _ ?_; clear hK K)
    repeat (first | (refine RD.wd_quietU (by rfl) (by rfl) (by rfl) (fun K hK => ?_); go_big_quiet_op; refine hK _ ?_; clear hK K) | (refine RD.wd_quietG (by rfl) (by rfl) (by rfl) (by rfl) (by rfl) (fun K hK => ?_); go_big_quiet_op; refine hK _ ?_; clear hK K) | (refine RD.wd_skipG (by rfl) (by rfl) (by rfl) (fun K hK => ?_); go_simp; refine hK _ ?_; clear hK K) | (refine RD.wd_skipN (by rfl) (by rfl) (by rfl) (fun K hK => ?_); go_simp; refine hK _ ?_; clear hK K))
    refine RD.wd_loudU (us := [14]) (by rfl) (by rfl) (fun S wS hC hS hU hR => ?_) (fun v hv K hK => ?_)
    · have hB : BlkF r 136 (rdC (some ⟨b, o, none⟩) n cp 0 [] false A m c fu).toArray S wS := hU 14 (by simp)
      obtain ⟨hc, hf⟩ := blkF_cells hB
      have hc0 : wS.cell? ⟨r, 0, none⟩ = some (.slice (some ⟨b, o, none⟩) n cp) := hc 0
      rw [hX1]
      exact runs_skip (by go_simp <;> rfl) ⟨trivial, (blkF_set (i := 0) hB (.slice (if cp = 1 then some ⟨b, o, none⟩ else some ⟨b, o + 1, none⟩) (n - 1) (cp - 1))).1, (blkF_set (i := 0) hB (.slice (if cp = 1 then some ⟨b, o, none⟩ else some ⟨b, o + 1, none⟩) (n - 1) (cp - 1))).2⟩
    (go_simp; refine hK _ ?_; clear hK K)
    repeat (first | (refine RD.wd_quietU (by rfl) (by rfl) (by rfl) (fun K hK => ?_); go_big_quiet_op; refine hK _ ?_; clear hK K) | (refine RD.wd_quietG (by rfl) (by rfl) (by rfl) (by rfl) (by rfl) (fun K hK => ?_); go_big_quiet_op; refine hK _ ?_; clear hK K) | (refine RD.wd_skipG (by rfl) (by rfl) (by rfl) (fun K hK => ?_); go_simp; refine hK _ ?_; clear hK K) | (refine RD.wd_skipN (by rfl) (by rfl) (by rfl) (fun K hK => ?_); go_simp; refine hK _ ?_; clear hK K))
    refine RD.wd_nil fun w3 hsat => ?_
    rw [← hX1]
    obtain ⟨S9, hS9, hF9⟩ := sat_get hsat 17
    have hg3 := (show BlkF r 136 (rdC X1 (n - 1) (cp - 1) 0 [] false A m c fu).toArray S9 w3 from hF9).2
    have hk3 := hsat.1
    clear hsat hF9 hS9
    have hb3 : Below w0.heap.size w w3 := hk3.below_of (B := w0.heap.size) hb0.size (fun g hg => by have e2 : g = r := hg; omega)
    have hsc3 := sl_rdr HG.out HSC.out HM.out HRC.out (fun b hb hbr => hk3.block b hb hbr) hk3.size
    have eX : X1 = (if cp = 1 then (some (⟨b, o, none⟩ : Addr)) else (some (⟨b, o, none⟩ : Addr)).map (·.add 1)) := by rw [hX1]; simp [addr_add]
    rw [← eX] at HD1'
    have HP : Hid (SetPost w0 r OUT (.returned (.bool true)) w3) := by
      show SetPost _ _ _ _ _
      rw [HST.out]
      refine ⟨rfl, fun T hT => ?_⟩
      injection hT with hT
      subst hT
      refine ⟨X1, cp - 1, A, c, ?_, ?_, ?_⟩
      · show _ = some (Obj.cells (rdC X1 rr.length (cp - 1) 0 [] false A C.length c fu).toArray _ _)
        rw [← HRL.out, HM.out]
        exact hg3
      · show Sl w0 1 (.slice X1 rr.length (cp - 1)) (STR rr)
        rw [← HRL.out]
        exact HD1'
      · show Sl w3 4 (.slice A C.length c) (CF.LNS C)
        rw [HM.out]
        exact hsc3
    clear hg3 hk3 hsc3 eX HD1' HST HRL HSC HG hX1
    as_aux_lemma =>
      go_wp2_with fail
      go_ret
      exact ⟨HP.out, hb3⟩
  · have q1 : ((S8 a).toList == (S8 [125]).toList) = decide (a = [125]) := s8_b a [125]
    rw [show (S8 [125]).toList = ([125] : List UInt8) from Lib.toList_data _] at q1
    have hI := hi.out
    cases hop : S.op with
    | true =>
      have ha : a ≠ [125] := fun e => hA ⟨hop, e⟩
      rw [decide_eq_false ha] at q1
      have HST := hid (step_semi S a rr hW hA (fun h => by rw [hop] at h; cases h.1))
      rw [hop] at u5
      clear hg hsw hsc hs hI0 hi hA ha hop
      go_enter Tryz.func80, Tryz.ntmps80
      -- HST : Hid (stepP S = if seesP (a :: rr) [59] = true then setP .. else none)
      have HS6 := hid (sees_any w0 r S [59] w hI hb0)
      rw [hW] at HS6
      go_wp2_with fail
      refine HS6.out.mono ?_
      rintro e w1 ⟨rfl, rfl⟩
      clear HS6
      cases hb : seesP (a :: rr) [59] with
      | false =>
        have HO : Hid (stepP S = none) := by show _ = _; rw [HST.out, hb]; rfl
        clear HST hb
        as_aux_lemma =>
          go_wp2_with fail
          go_ret
          exact ⟨by rw [HO.out]; exact setPost_none _ _ _, hbz⟩
      | true =>
        have h3 := sees_len hb
        obtain ⟨vl, t, R, rfl⟩ : ∃ vl t R, rr = vl :: t :: R := by
          match rr, h3 with
          | vl :: t :: R, _ => exact ⟨vl, t, R, rfl⟩
        have HO : Hid (stepP S = setP S a vl R) := by show _ = _; rw [HST.out, hb]; rfl
        have HS7 := hid (set_any w0 r S a vl t R w1 hI hb0 hr hW hO hen)
        rw [← HO.out] at HS7
        clear HST hb h3 HO
        as_aux_lemma =>
          go_wp2_with fail
          refine HS7.out.mono ?_
          rintro e w2 ⟨⟨rfl, h1⟩, h2⟩
          have HP := hid h1
          clear h1 HS7
          go_wp2_with fail
          go_ret
          exact ⟨⟨rfl, HP.out⟩, h2⟩
    | false =>
      rw [hop] at u5
      have hH := fun w => heads_any (S8 a) w
      simp only [bl_S8] at hH
      have HH := hid hH
      clear hH
      by_cases hh : headW a = 0
      · have HST := hid (step_semi S a rr hW hA (fun h => h.2.1 hh))
        rw [hh] at HH
        clear hg hsw hsc hs hI0 hi hA hop hh
        go_enter Tryz.func80, Tryz.ntmps80
        go_wp2_with fail
        refine (HH.out w).mono ?_
        rintro e w9 ⟨rfl, rfl⟩
        -- HST : Hid (stepP S = if seesP (a :: rr) [59] = true then setP .. else none)
        have HS6 := hid (sees_any w0 r S [59] w9 hI hb0)
        rw [hW] at HS6
        go_wp2_with fail
        refine HS6.out.mono ?_
        rintro e w1 ⟨rfl, rfl⟩
        clear HS6
        cases hb : seesP (a :: rr) [59] with
        | false =>
          have HO : Hid (stepP S = none) := by show _ = _; rw [HST.out, hb]; rfl
          clear HST hb
          as_aux_lemma =>
            go_wp2_with fail
            go_ret
            exact ⟨by rw [HO.out]; exact setPost_none _ _ _, hbz⟩
        | true =>
          have h3 := sees_len hb
          obtain ⟨vl, t, R, rfl⟩ : ∃ vl t R, rr = vl :: t :: R := by
            match rr, h3 with
            | vl :: t :: R, _ => exact ⟨vl, t, R, rfl⟩
          have HO : Hid (stepP S = setP S a vl R) := by show _ = _; rw [HST.out, hb]; rfl
          have HS7 := hid (set_any w0 r S a vl t R w1 hI hb0 hr hW hO hen)
          rw [← HO.out] at HS7
          clear HST hb h3 HO
          as_aux_lemma =>
            go_wp2_with fail
            refine HS7.out.mono ?_
            rintro e w2 ⟨⟨rfl, h1⟩, h2⟩
            have HP := hid h1
            clear h1 HS7
            go_wp2_with fail
            go_ret
            exact ⟨⟨rfl, HP.out⟩, h2⟩
      · obtain ⟨hd, hhd⟩ : ∃ hd, headW a = hd := ⟨_, rfl⟩
        have HHD := hid hhd
        rw [hhd] at HH hh
        have t1 : (hd != 0) = true := by rw [bne_iff_ne]; exact hh
        have HS5 := hid (sees_any w0 r S [123] w hI hb0)
        rw [hW] at HS5
        have HSB : Hid (seesP (a :: rr) [123] = true → stepP S = beginP S a (rr.getD 0 []) (rr.drop 2)) := step_begin S a rr hW hop (by rw [hhd]; exact hh)
        have HSM : Hid (seesP (a :: rr) [123] = false → stepP S = if seesP (a :: rr) [59] = true then setP S a (rr.getD 0 []) (rr.drop 2) else none) := fun e => step_semi S a rr hW hA (fun h => by rw [e] at h; cases h.2.2)
        have HHA : Hid (headW a ≠ 0) := by show ¬ _; rw [hhd]; exact hh
        clear hg hsw hsc hs hI0 hi hA hop hhd hh
        go_enter Tryz.func80, Tryz.ntmps80
        go_wp2_with fail
        refine (HH.out w).mono ?_
        rintro e w9 ⟨rfl, rfl⟩
        go_wp2_with fail
        refine HS5.out.mono ?_
        rintro e w8 ⟨rfl, rfl⟩
        clear HS5 HH
        cases hb1 : seesP (a :: rr) [123] with
        | false =>
          have HST := hid (HSM.out hb1)
          clear HSB HSM hb1
          -- HST : Hid (stepP S = if seesP (a :: rr) [59] = true then setP .. else none)
          have HS6 := hid (sees_any w0 r S [59] w8 hI hb0)
          rw [hW] at HS6
          go_wp2_with fail
          refine HS6.out.mono ?_
          rintro e w1 ⟨rfl, rfl⟩
          clear HS6
          cases hb : seesP (a :: rr) [59] with
          | false =>
            have HO : Hid (stepP S = none) := by show _ = _; rw [HST.out, hb]; rfl
            clear HST hb
            as_aux_lemma =>
              go_wp2_with fail
              go_ret
              exact ⟨by rw [HO.out]; exact setPost_none _ _ _, hbz⟩
          | true =>
            have h3 := sees_len hb
            obtain ⟨vl, t, R, rfl⟩ : ∃ vl t R, rr = vl :: t :: R := by
              match rr, h3 with
              | vl :: t :: R, _ => exact ⟨vl, t, R, rfl⟩
            have HO : Hid (stepP S = setP S a vl R) := by show _ = _; rw [HST.out, hb]; rfl
            have HS7 := hid (set_any w0 r S a vl t R w1 hI hb0 hr hW hO hen)
            rw [← HO.out] at HS7
            clear HST hb h3 HO
            as_aux_lemma =>
              go_wp2_with fail
              refine HS7.out.mono ?_
              rintro e w2 ⟨⟨rfl, h1⟩, h2⟩
              have HP := hid h1
              clear h1 HS7
              go_wp2_with fail
              go_ret
              exact ⟨⟨rfl, HP.out⟩, h2⟩
        | true =>
          have h3 := sees_len hb1
          obtain ⟨nm, t, R, rfl⟩ : ∃ nm t R, rr = nm :: t :: R := by
            match rr, h3 with
            | nm :: t :: R, _ => exact ⟨nm, t, R, rfl⟩
          have HS7 := hid (begin_post w0 r S a nm t R w8 hI hb0 hr hW HHA.out hO hen)
          have hsb : stepP S = beginP S a nm R := HSB.out hb1
          rw [← hsb] at HS7
          clear HSB HSM hb1 hsb h3 HHA HHD
          as_aux_lemma =>
            go_wp2_with fail
            refine HS7.out.mono ?_
            rintro e w2 ⟨⟨rfl, h1⟩, h2⟩
            have HP := hid h1
            clear h1 HS7
            go_wp2_with fail
            go_ret
            exact ⟨⟨rfl, HP.out⟩, h2⟩
end PT
end Go.Proofs.YtecfkhgocjbocaaGreatDoor
namespace Go.Proofs.YtecfkhgocjbocaaGreatDoor
set_option linter.unusedVariables false
set_option linter.unusedSimpArgs false
open Go Go.RowKit

namespace PT
def rdLen (r : Nat) (w : World) : Nat := match w.cell? ⟨r, 0, none⟩ with
  | some (.slice _ n _) => n
  | _ => 0
theorem rdLen_of {w0 w : World} {r : Nat} {S : Rdr} (h : IsRdr w0 r S w) : rdLen r w = S.w.length := by
  obtain ⟨X, cp, A, c, hg, _⟩ := h
  unfold rdLen
  rw [blkCell hg 0]
  rfl
theorem rd_built (A : Option Addr) (n c : Nat) : (Tryz.prog).built 136 [(0, .slice A n c)] = some (rdC A n c 0 [] false none 0 0 false).toArray := by kernel_rfl
def TextPost (T : List Ln × Int) (e : Ending) (w' : World) : Prop := CF.ConfPost T.1 T.2 e w'
theorem textPost_nil (er : Int) (w : World) : TextPost ([], er) (.returned (.tuple #[.slice none 0 0, .int .i64 er])) w := CF.conf_nil w er
set_option maxRecDepth 100000 in
set_option maxHeartbeats 1600000 in
theorem parseText_any (s : ByteArray) (w : World) (hs : s.size ≤ 2000000) (hen : Env w) :
    Calls Tryz.prog 47 #[.string s] w fun e w' => TextPost (textP (bl s)) e w' ∧ Below w.heap.size w w' := by
  have hW := words_any s w hs
  have HT3 : Hid ((LX.run (bl s) 0 []).2.2 ≠ 0 → textP (bl s) = ([], 3)) := fun h => by unfold textP; rw [if_neg h]
  have HT0 : Hid ((LX.run (bl s) 0 []).2.2 = 0 → tellP ⟨(LX.run (bl s) 0 []).1, 0, [], false, [], false⟩ = textP (bl s)) := fun h => by unfold textP; rw [if_pos h]
  have H31 : Hid (∀ x ∈ (LX.run (bl s) 0 []).1, x.length ≤ 31) := toks31 (bl s)
  generalize textP (bl s) = T at *
  generalize LX.run (bl s) 0 [] = RR at *
  obtain ⟨L, k, er⟩ := RR
  simp only at hW HT3 HT0 H31
  have HW := hid hW
  clear hW
  go_enter Tryz.func47, Tryz.ntmps47
  go_wp2_with fail
  refine HW.out.mono ?_
  rintro e w1 ⟨A, c, rfl, ho, hb1⟩
  have hs1 := own_sl ho
  have hcap := (sl_lensS hs1).2
  have HS1 := hid hs1
  have HO1 := hid (hen.below hb1)
  clear HW ho hs1 hen
  by_cases her : er = 0
  · subst her
    have HT := hid (HT0.out rfl)
    clear HT3 HT0
    obtain ⟨n, hn⟩ : ∃ n, n = L.length := ⟨_, rfl⟩
    rw [← hn] at hcap ⊢
    have HN := hid hn
    clear hn
    obtain ⟨hb2, hg2, hl2⟩ := box1 w1 (.cells (rdC A n c 0 [] false none 0 0 false).toArray 136)
    go_wp2_with (refine wpList_buildV rfl 136 [(0, .tmp 16)] rfl (some 17) rfl [(0, .slice A n c)] rfl (rdC A n c 0 [] false none 0 0 false).toArray (rd_built A n c) ?_)
    obtain ⟨r, hr⟩ : ∃ r, r = w1.heap.size := ⟨_, rfl⟩
    rw [← hr] at hg2 hl2 ⊢
    generalize w1.alloc (.cells (rdC A n c 0 [] false none 0 0 false).toArray 136) = w2 at *
    have HI0 : Hid (IsRdr w1 r ⟨L, 0, [], false, [], false⟩ w2) := by
      refine ⟨A, c, none, 0, ?_, HS1.out, CF.sl_nil _ _ _ (by omega)⟩
      show _ = some (Obj.cells (rdC A L.length c 0 [] false none 0 0 false).toArray _ _)
      rw [← HN.out]
      exact hg2
    have HK0 : Hid (Ok ⟨L, 0, [], false, [], false⟩) := ⟨rfl, (fun l h => by cases h), H31.out, Nat.zero_le _⟩
    have hrr : w1.heap.size ≤ r := by omega
    have hb1s := hb1.size
    clear HS1 H31 HN hg2 hl2 hcap hr
    go_loopw [] (fun wr => ∃ S : Rdr, Hid (tellP S = T) ∧ Hid (Ok S) ∧ Hid (IsRdr w1 r S wr) ∧ Below w1.heap.size w1 wr) (fun wr => rdLen r wr)
    case atStart => exact ⟨_, HT, HK0, HI0, hb2⟩
    case round =>
      clear HT HK0 HI0 hb2
      obtain ⟨S, HT, HK, HI, hbr⟩ := hrel
      have hm := rdLen_of HI.out
      obtain ⟨X, cp, A2, c2, hg, _, hsc⟩ := HI.out
      have HSC := hid hsc
      obtain ⟨nn, hnn⟩ : ∃ nn, nn = S.w.length := ⟨_, rfl⟩
      rw [← hnn] at hm hg
      have u0 : wr.cell? ⟨r, 0, none⟩ = some (.slice X nn cp) := by rw [blkCell hg 0]; rfl
      have hbw := hb1.trans (hbr.mono hb1s)
      by_cases hz : nn = 0
      · have hw0 : S.w = [] := List.eq_nil_of_length_eq_zero (by omega)
        have hT := tellP_nil S hw0
        rw [HT.out] at hT
        have u5 : wr.cell? ⟨r, 5, none⟩ = some (.bool S.op) := by rw [blkCell hg 5]; rfl
        have u6 : wr.cell? ⟨r, 6, none⟩ = some (.slice A2 S.c.length c2) := by rw [blkCell hg 6]; rfl
        have u7 : wr.cell? ⟨r, 7, none⟩ = some (.bool S.full) := by rw [blkCell hg 7]; rfl
        obtain ⟨W, hh, nm, ob, C, fu⟩ := S
        simp only at hT u5 u6 u7 HSC
        clear HT HK HI hg hsc hnn hm hw0
        subst hz
        have HTT := hid hT
        clear hT
        cases ob with
        | true =>
          have HV : Hid (T = ([], 3)) := by show _ = _; rw [HTT.out]; rfl
          clear HTT HSC
          go_wp2_with fail
          go_ret2
          exact ⟨by rw [HV.out]; exact textPost_nil _ _, hbw⟩
        | false =>
          cases fu with
          | true =>
            have HV : Hid (T = ([], 5)) := by show _ = _; rw [HTT.out]; rfl
            clear HTT HSC
            go_wp2_with fail
            go_ret2
            exact ⟨by rw [HV.out]; exact textPost_nil _ _, hbw⟩
          | false =>
            have HV : Hid (T = (C, 0)) := by show _ = _; rw [HTT.out]; rfl
            clear HTT
            go_wp2_with fail
            go_ret2
            exact ⟨by rw [HV.out]; exact ⟨A2, c2, rfl, HSC.out⟩, hbw⟩
      · have hw0 : S.w ≠ [] := fun e => hz (by rw [hnn, e]; rfl)
        have hn0 : 0 < nn := by omega
        have HST := hid (step_any w1 r S wr HI.out hbr hrr hw0 HK.out HO1.out)
        have HTN : Hid (stepP S = none → T = ([], 3)) := fun e => by rw [← HT.out, tellP_none S hw0 e]
        have HTS : Hid (∀ S', stepP S = some S' → tellP S' = T ∧ Ok S' ∧ S'.w.length < nn) := fun S' e => ⟨by rw [← HT.out]; exact (tellP_some S S' hw0 e).symm, step_ok S S' e HK.out, by rw [hnn]; exact step_len S S' e⟩
        clear HT HK HI hg hsc HSC hw0 hnn
        generalize stepP S = O at *
        go_wp2_with fail
        refine HST.out.mono ?_
        rintro e w4 ⟨⟨rfl, h4⟩, hb4⟩
        have H4 := hid h4
        have hbr4 := hbr.trans hb4
        have hbw4 := hb1.trans (hbr4.mono hb1s)
        clear HST h4 hb4 u0
        cases O with
        | none =>
          have HV := hid (HTN.out rfl)
          clear HTN HTS H4
          as_aux_lemma =>
            go_wp2_with fail
            go_ret2
            exact ⟨by rw [HV.out]; exact textPost_nil _ _, hbw4⟩
        | some S' =>
          obtain ⟨k1, k2, k3⟩ := HTS.out S' rfl
          have hI' := H4.out S' rfl
          have hm' := rdLen_of hI'
          have HI' := hid hI'
          have HK1 := hid k1
          have HK2 := hid k2
          clear HTN HTS H4 hI' k1 k2
          as_aux_lemma =>
            go_wp2_with fail
            go_light
            exact ⟨⟨S', HK1, HK2, HI', hbr4⟩, by rw [hm', hm]; exact k3⟩
  · have HT := hid (HT3.out her)
    have te : (er != 0) = true := by rw [bne_iff_ne]; exact her
    clear HT3 HT0
    go_wp2_with fail
    go_ret2
    exact ⟨by rw [HT.out]; exact textPost_nil _ _, hb1⟩
end PT
end Go.Proofs.YtecfkhgocjbocaaGreatDoor
namespace Go.Proofs.YtecfkhgocjbocaaGreatDoor
set_option linter.unusedVariables false
set_option linter.unusedSimpArgs false
open Go Go.RowKit

namespace PT
def hasT (rr : List (List UInt8)) (sg : List UInt8) : Bool := match rr with
  | _ :: t :: _ => decide (t = sg)
  | _ => false
def isClose (S : Rdr) (a : List UInt8) : Bool := S.op && decide (a = [125])
def isBegin (S : Rdr) (a : List UInt8) (rr : List (List UInt8)) : Bool := !S.op && (decide (headW a ≠ 0) && hasT rr [123])
def isSet (a : List UInt8) (rr : List (List UInt8)) : Bool := hasT rr [59] && (!isSgn a && !isSgn (rr.getD 0 []))
theorem head_two (a : List UInt8) (h : headW a ≠ 0) : (a = wArea ∧ headW a = 1) ∨ (a = wInter ∧ headW a = 2) := by
  unfold headW at h ⊢
  by_cases h1 : a = wArea
  · exact .inl ⟨h1, by rw [if_pos h1]⟩
  · rw [if_neg h1] at h ⊢
    by_cases h2 : a = wInter
    · exact .inr ⟨h2, by rw [if_pos h2]⟩
    · rw [if_neg h2] at h
      exact absurd rfl h
theorem head_sgn (a : List UInt8) (h : headW a ≠ 0) : isSgn a = false := by
  rcases head_two a h with ⟨e, _⟩ | ⟨e, _⟩ <;> rw [e] <;> decide
theorem sgn_three (x : List UInt8) (h : isSgn x = true) : x = [123] ∨ x = [125] ∨ x = [59] := by
  unfold isSgn at h
  simp only [Bool.or_eq_true, beq_iff_eq, or_assoc] at h
  exact h
theorem sgn_named (a nm : List UInt8) (h : headW a ≠ 0) (hn : isSgn nm = true) : namedR (headW a) nm = false := by
  rcases head_two a h with ⟨_, e⟩ | ⟨_, e⟩ <;> rw [e] <;> rcases sgn_three nm hn with e | e | e <;> rw [e] <;> kernel_rfl
theorem sees_has (a : List UInt8) (rr : List (List UInt8)) (sg : List UInt8) : seesP (a :: rr) sg = (hasT rr sg && (!isSgn a && !isSgn (rr.getD 0 []))) := by
  match rr with
  | [] => rfl
  | [_] => rfl
  | b :: t :: R => simp [seesP, hasT, Bool.not_or]
theorem has_two {rr : List (List UInt8)} {sg : List UInt8} (h : hasT rr sg = true) : ∃ b R, rr = b :: sg :: R := by
  match rr, h with
  | b :: t :: R, h => exact ⟨b, R, by rw [of_decide_eq_true h]⟩
theorem ref_step (S : Rdr) (a : List UInt8) (rr : List (List UInt8)) (hW : S.w = a :: rr) :
    stepP S = if isClose S a = true then some ⟨rr, 0, [], false, S.c, S.full⟩ else if isBegin S a rr = true then beginP S a (rr.getD 0 []) (rr.drop 2) else if isSet a rr = true then setP S a (rr.getD 0 []) (rr.drop 2) else none := by
  by_cases h1 : isClose S a = true
  · rw [if_pos h1]
    unfold isClose at h1
    rw [Bool.and_eq_true, decide_eq_true_iff] at h1
    exact step_close S a rr hW h1.1 h1.2
  · rw [if_neg h1]
    have h1' : ¬ (S.op = true ∧ a = [125]) := fun h => h1 (by unfold isClose; rw [Bool.and_eq_true, decide_eq_true_iff]; exact h)
    by_cases h2 : isBegin S a rr = true
    · rw [if_pos h2]
      unfold isBegin at h2
      simp only [Bool.and_eq_true, decide_eq_true_eq, Bool.not_eq_true'] at h2
      obtain ⟨k1, k2, k3⟩ := h2
      obtain ⟨nm, R, rfl⟩ := has_two k3
      cases hs : isSgn nm with
      | true =>
        have e1 : seesP (a :: nm :: [123] :: R) [123] = false := by rw [sees_has]; simp [hs]
        have e2 : seesP (a :: nm :: [123] :: R) [59] = false := by rw [sees_has]; simp [hs]
        rw [step_semi S a _ hW h1' (fun h => by rw [e1] at h; cases h.2.2), e2]
        unfold beginP
        rw [show (nm :: [123] :: R).getD 0 [] = nm from rfl, sgn_named a nm k2 hs]
        rfl
      | false =>
        have e1 : seesP (a :: nm :: [123] :: R) [123] = true := by rw [sees_has]; simp [hs, hasT, head_sgn a k2]
        exact step_begin S a _ hW k1 k2 e1
    · rw [if_neg h2, step_semi S a rr hW h1' (fun h => h2 (by
        obtain ⟨k1, k2, k3⟩ := h
        rw [sees_has, Bool.and_eq_true] at k3
        unfold isBegin
        rw [k1, k3.1, decide_eq_true k2]
        rfl)), sees_has]
      rfl
theorem named_nil : namedR 0 [] = true := by kernel_rfl
theorem step_named (S T : Rdr) (h : stepP S = some T) (hS : namedR S.h S.nm = true) : namedR T.h T.nm = true := by
  unfold stepP at h
  split at h
  · cases h
  · split at h
    · injection h with h; subst h; exact named_nil
    · split at h
      · unfold beginP at h
        split at h
        · rename_i k; injection h with h; subst h; exact k
        · cases h
      · split at h
        · unfold setP at h
          split at h
          · injection h with h; subst h; exact hS
          · cases h
        · cases h
theorem right_of (S : Rdr) (lf vl : List UInt8) (h : namedR S.h S.nm = true) : CF.rightL ⟨S.h, S.nm, lf, vl⟩ = ((findR S.h lf).2 && rightR (findR S.h lf).1 vl) := by
  unfold CF.rightL
  simp only [h, Bool.and_true]
def rdText : List UInt8 := [115, 101, 116, 32, 105, 110, 116, 101, 114, 102, 97, 99, 101, 32, 101, 116, 104, 48, 32, 99, 111, 115, 116, 32, 53]
def rdCmd : Cmd := ⟨1, ⟨2, [101, 116, 104, 48], [99, 111, 115, 116], [53]⟩, 0⟩
theorem run_rd : LX.run rdText 0 [] = ([wSet, wInter, [101, 116, 104, 48], [99, 111, 115, 116], [53]], 25, 0) := by
  unfold rdText
  rw [LX.run_word 115 _ _ _ rfl (by decide)]
  simp only [show LX.wordLen [115, 101, 116, 32, 105, 110, 116, 101, 114, 102, 97, 99, 101, 32, 101, 116, 104, 48, 32, 99, 111, 115, 116, 32, 53] = 3 from rfl, List.drop_succ_cons, List.drop_zero, List.take_succ_cons, List.take_zero, List.nil_append]
  rw [LX.run_blk 32 _ _ _ rfl, LX.run_word 105 _ _ _ rfl (by decide)]
  simp only [show LX.wordLen [105, 110, 116, 101, 114, 102, 97, 99, 101, 32, 101, 116, 104, 48, 32, 99, 111, 115, 116, 32, 53] = 9 from rfl, List.drop_succ_cons, List.drop_zero, List.take_succ_cons, List.take_zero]
  rw [LX.run_blk 32 _ _ _ rfl, LX.run_word 101 _ _ _ rfl (by decide)]
  simp only [show LX.wordLen [101, 116, 104, 48, 32, 99, 111, 115, 116, 32, 53] = 4 from rfl, List.drop_succ_cons, List.drop_zero, List.take_succ_cons, List.take_zero]
  rw [LX.run_blk 32 _ _ _ rfl, LX.run_word 99 _ _ _ rfl (by decide)]
  simp only [show LX.wordLen [99, 111, 115, 116, 32, 53] = 4 from rfl, List.drop_succ_cons, List.drop_zero, List.take_succ_cons, List.take_zero]
  rw [LX.run_blk 32 _ _ _ rfl, LX.run_word 53 _ _ _ rfl (by decide)]
  simp only [show LX.wordLen [53] = 1 from rfl, List.drop_succ_cons, List.drop_zero, List.take_succ_cons, List.take_zero]
  rw [LX.run_nil]
  rfl
theorem readT_rd : readT rdText = some rdCmd := by
  unfold readT
  rw [run_rd]
  rfl
set_option maxRecDepth 100000 in
set_option maxHeartbeats 800000 in
theorem readsLaw_any (w : World) (hen : Env w) : Calls Tryz.prog 49 #[] w fun e w' => e = .returned (.bool true) ∧ Below w.heap.size w w' := by
  have hR := Read_any (S8 rdText) w (by decide) hen
  rw [bl_S8, readT_rd] at hR
  have HR := hid hR
  clear hR hen
  go_enter Tryz.func49, Tryz.ntmps49
  go_wp2_with fail
  refine HR.out.mono ?_
  rintro e w1 ⟨hrp, hb1⟩
  have he : e = .returned (.tuple #[.agg #[.int .i64 1, .int .i64 2, .string ⟨#[101, 116, 104, 48]⟩, .string ⟨#[99, 111, 115, 116]⟩, .string ⟨#[53]⟩, .int .i64 0], .int .i64 0]) := by
    obtain ⟨c, er, rfl, h | h⟩ := hrp
    · obtain ⟨h1, rfl⟩ := h
      injection h1 with h1
      subst h1
      rfl
    · exact absurd h.1 (by simp)
  clear hrp
  subst he
  go_wp2_with fail
  go_ret
  exact ⟨rfl, hb1.alloc hb1.size _⟩
end PT
end Go.Proofs.YtecfkhgocjbocaaGreatDoor
namespace Go.Proofs.YtecfkhgocjbocaaGreatDoor
set_option linter.unusedVariables false
set_option linter.unusedSimpArgs false
open Go Go.RowKit

namespace PT
theorem rln_2 (h : Int) (nm : List UInt8) : (Tryz.prog).built 48 [(0, .int .i64 h), (1, .string (S8 nm))] = some (lnV ⟨h, nm, [], []⟩) := by kernel_rfl
theorem rln_4 (l : Ln) : (Tryz.prog).built 48 [(0, .int .i64 l.head), (1, .string (S8 l.name)), (2, .string (S8 l.leaf)), (3, .string (S8 l.value))] = some (lnV l) := by kernel_rfl
theorem setE_two (C : List Ln) (l : Ln) (h : CF.RightC C = true) (hl : CF.rightL l = true) (h5 : CF.setE C l ≠ 5) : CF.setE C l = 0 := by
  unfold CF.setE at h5 ⊢
  rw [h, hl] at h5 ⊢
  simp only [Bool.and_self, if_true] at h5 ⊢
  split
  · rfl
  · rename_i k
    rw [if_neg k] at h5
    exact absurd rfl h5
theorem rln_z : (Tryz.prog).built 48 [] = some (lnV ln0) := by kernel_rfl
theorem run_count (n : Nat) : ∀ (l : List UInt8) (p : Nat) (out : List (List UInt8)), l.length ≤ n → (LX.run l p out).1.length ≤ out.length + l.length := by
  induction n with
  | zero =>
    intro l p out h
    obtain rfl : l = [] := List.eq_nil_of_length_eq_zero (by omega)
    rw [LX.run]
    simp
  | succ n ih =>
    intro l p out h
    cases l with
    | nil => rw [LX.run]; simp
    | cons c r =>
      rw [LX.run]
      simp only [List.length_cons] at h ⊢
      split
      · have := ih r (p + 1) out (by omega)
        omega
      · split
        · have := ih ((c :: r).drop (LX.noteLen r + 1)) (p + (LX.noteLen r + 1)) out (by simp; omega)
          simp only [List.length_drop, List.length_cons] at this
          omega
        · split
          · have := ih r (p + 1) (out ++ [[c]]) (by omega)
            simp only [List.length_append, List.length_cons, List.length_nil] at this
            omega
          · split
            · split
              · simp
              · have := ih ((c :: r).drop (LX.wordLen r + 1)) (p + (LX.wordLen r + 1)) (out ++ [(c :: r).take (LX.wordLen r + 1)]) (by simp; omega)
                simp only [List.length_append, List.length_drop, List.length_cons, List.length_nil] at this
                omega
            · simp
theorem drop_word {L : List (List UInt8)} {k : Nat} {a : List UInt8} {rr : List (List UInt8)} (h : L.drop k = a :: rr) (j : Nat) : L.getD (k + j) [] = (a :: rr).getD j [] := by
  rw [← h, List.getD_eq_getElem?_getD, List.getD_eq_getElem?_getD, List.getElem?_drop]
theorem drop_next {L : List (List UInt8)} {k : Nat} {a : List UInt8} {rr : List (List UInt8)} (h : L.drop k = a :: rr) (j : Nat) : L.drop (k + (j + 1)) = rr.drop j := by
  rw [← List.drop_drop, h]
  rfl
/-- the rows of the configuration lie outside of the box whose line has no leaf -/
theorem sl_box {w w3 : World} {r : Nat} {T : TypeId} {h : Int} {nm : List UInt8} {A : Option Addr} {m c : Nat} {C : List Ln} (hg : w.heap[r]? = some (.cells (lnV ⟨h, nm, [], []⟩) T (0, 0)))
    (hs : Sl w 4 (.slice A m c) (CF.LNS C)) (hm : C.length = m) (hC : CF.RightC C = true) (hk : ∀ b, b < w.heap.size → b ≠ r → w3.heap[b]? = w.heap[b]?) (hsz : w.heap.size ≤ w3.heap.size) : Sl w3 4 (.slice A m c) (CF.LNS C) := by
  have hrl := ((CF.RightC_iff C).1 hC).1
  have hln := fun (h0 : 0 < m) => CF.sl_ln hs h0
  obtain ⟨A', n', c', he, hl, hnc, hcm, hr⟩ := hs
  injection he with e1 e2 e3
  subst e1; subst e2; subst e3
  refine ⟨_, _, _, rfl, hl, hnc, hcm, fun h0 => ?_⟩
  obtain ⟨b, off, rfl, hlt, hc⟩ := hr h0
  obtain ⟨b', off', e, _, hcl⟩ := hln h0
  injection e with e
  injection e with e1 e2
  subst e1; subst e2
  have hbr : b ≠ r := by
    intro e
    subst e
    have k0 := (blkCell hg (off + 0 * 4 + 0)).symm.trans (hcl 0 _ rfl)
    have k2 := (blkCell hg (off + 0 * 4 + 2)).symm.trans (hcl 2 _ rfl)
    have hlf := leaf_neP (CF.lnAt C 0) (hrl _ (by rw [CF.lnAt_get C 0 (by omega)]; exact List.getElem_mem _))
    match off with
    | 0 =>
      simp [lnC] at k2
      have h1 : (S8 []).toList = ([] : List UInt8) := Lib.toList_data _
      have h2 : (S8 (CF.lnAt C 0).leaf).toList = (CF.lnAt C 0).leaf := Lib.toList_data _
      rw [← k2] at h2
      exact hlf (h2.symm.trans h1)
    | 1 => simp [lnC] at k0
    | 2 => simp [lnC] at k0
    | 3 => simp [lnC] at k0
    | o + 4 => simp [lnC] at k0
  refine ⟨b, off, rfl, Nat.lt_of_lt_of_le hlt hsz, fun i hi => ?_⟩
  rw [← hc i hi]
  exact World.cell?_of_block (hk b hlt hbr)
theorem s8_sg (x : List UInt8) (z : UInt8) : ((S8 x).toList == [z]) = decide (x = [z]) := by
  have := s8_b x [z]
  rwa [show (S8 [z]).toList = [z] from Lib.toList_data _] at this
set_option maxRecDepth 100000 in
set_option maxHeartbeats 6400000 in
theorem refText6_any (s : ByteArray) (w : World) (hs : s.size ≤ 2000000) (hen : Env w) :
    Calls Tryz.prog 48 #[.string s] w fun e w' => TextPost (textP (bl s)) e w' ∧ Below w.heap.size w w' := by
  have hW := refWords_any s w hs
  have HT3 : Hid ((LX.run (bl s) 0 []).2.2 ≠ 0 → textP (bl s) = ([], 3)) := fun h => by unfold textP; rw [if_neg h]
  have HT0 : Hid ((LX.run (bl s) 0 []).2.2 = 0 → tellP ⟨(LX.run (bl s) 0 []).1, 0, [], false, [], false⟩ = textP (bl s)) := fun h => by unfold textP; rw [if_pos h]
  have hlen : (LX.run (bl s) 0 []).1.length ≤ 2000000 := by
    have := run_count _ (bl s) 0 [] (Nat.le_refl _)
    rw [bl_len] at this
    simp at this
    omega
  have H31 : Hid (∀ x ∈ (LX.run (bl s) 0 []).1, x.length ≤ 31) := toks31 (bl s)
  generalize textP (bl s) = T at *
  generalize LX.run (bl s) 0 [] = RR at *
  obtain ⟨L, k, er⟩ := RR
  simp only at hW HT3 HT0 H31 hlen
  have HW := hid hW
  clear hW
  go_enter Tryz.func48, Tryz.ntmps48
  go_wp2_with fail
  refine HW.out.mono ?_
  rintro e w1 ⟨A, c, rfl, ho, hb1⟩
  have hs1 := own_sl ho
  have hcap := (sl_lensS hs1).2
  have HS1 := hid hs1
  have HO1 := hid (hen.below hb1)
  clear HW ho hs1 hen
  by_cases her : er = 0
  · subst her
    have HT := hid (HT0.out rfl)
    clear HT3 HT0
    obtain ⟨n, hn⟩ : ∃ n, n = L.length := ⟨_, rfl⟩
    rw [← hn] at hcap HS1 hlen ⊢
    have HN := hid hn
    have HK0 : Hid (Ok ⟨L, 0, [], false, [], false⟩) := ⟨rfl, (fun l h => by cases h), H31.out, Nat.zero_le _⟩
    clear hn H31
    obtain ⟨hb2, hg2, hl2⟩ := box1 w1 (.cells (lnV ln0) 48)
    go_upto_region 6 with (first | refine wpList_buildV rfl 48 [] rfl (some 23) rfl [] rfl (lnV ln0) rln_z ?_ | refine wpList_store_last rfl 48 (.tmp 8) (.tmp 23) rfl (lnV ln0) rfl rfl CF.k4 rfl (lnV_one _) ?_)
    generalize w1.alloc (.cells (lnV ln0) 48) = w2 at *
    have HG2 := hid hg2
    have hb1s := hb1.size
    clear hg2 hl2
    go_wp2_with fail
    go_loopw [7, 9, 10, 11] (fun cc op fu i wr => ∃ (k : Nat) (S : Rdr) (A2 : Option Addr) (c2 : Nat), k ≤ n ∧ i = .int .i64 k ∧ op = .bool S.op ∧ fu = .bool S.full ∧ cc = .slice A2 S.c.length c2 ∧ Hid (S.w = L.drop k) ∧ Hid (tellP S = T) ∧ Hid (Ok S) ∧ Hid (namedR S.h S.nm = true) ∧
      Hid (wr.heap[w1.heap.size]? = some (.cells (lnV ⟨S.h, S.nm, [], []⟩) 48 (0, 0))) ∧ Hid (Sl wr 4 (.slice A2 S.c.length c2) (CF.LNS S.c)) ∧ Below w1.heap.size w1 wr) (fun _ _ _ i _ => n - (intOf i).toNat)
    case atStart => exact ⟨0, ⟨L, 0, [], false, [], false⟩, none, 0, Nat.zero_le _, rfl, rfl, rfl, rfl, hid rfl, HT, HK0, hid named_nil, HG2, hid (CF.sl_nil _ _ _ (by omega)), hb2⟩
    case round =>
      clear HT HK0 HG2 hb2
      obtain ⟨k, S, A2, c2, hk, rfl, rfl, rfl, rfl, HW, HT, HK, HNM, HG, HSC, hbr⟩ := hrel
      have hbw := hb1.trans (hbr.mono hb1s)
      by_cases hlt : k < n
      · obtain ⟨b, o, hA, hbl, p0⟩ := STR_cell (HS1.out.below hbr) hlt
        subst hA
        obtain ⟨a, rr, hdr⟩ : ∃ a rr, L.drop k = a :: rr := by
          cases h : L.drop k with
          | nil => have := congrArg List.length h; rw [List.length_drop, ← HN.out] at this; simp at this; omega
          | cons a rr => exact ⟨a, rr, rfl⟩
        have hW : S.w = a :: rr := HW.out.trans hdr
        have e0 : L.getD k [] = a := by have := drop_word hdr 0; simpa using this
        rw [e0] at p0
        have HST := hid (ref_step S a rr hW)
        have HTN : Hid (stepP S = none → T = ([], 3)) := fun e => by rw [← HT.out, tellP_none S (by rw [hW]; simp) e]
        have HTS : Hid (∀ S', stepP S = some S' → tellP S' = T ∧ Ok S' ∧ namedR S'.h S'.nm = true) := fun S' e => ⟨by rw [← HT.out]; exact (tellP_some S S' (by rw [hW]; simp) e).symm, step_ok S S' e HK.out, step_named S S' e HNM.out⟩
        have HDR := hid hdr
        have HWW : Hid (S.w = L.drop k) := hW.trans hdr.symm
        have hbl1 : b < w1.heap.size := by
          obtain ⟨b9, o9, e9, hb9, _⟩ := STR_cell HS1.out hlt
          injection e9 with e9
          injection e9 with e9 _
          subst e9
          exact hb9
        have HBG : Hid (b ≠ w1.heap.size) := by show ¬ _; omega
        clear HT HW e0 hW hdr
        obtain ⟨W, zh, nm, ob, C, fu⟩ := S
        simp only at HST HTN HTS HK HNM HG HSC HWW
        simp only
        obtain ⟨SS, hSS⟩ : ∃ SS : Rdr, SS = ⟨W, zh, nm, ob, C, fu⟩ := ⟨_, rfl⟩
        have HSS := hid hSS
        rw [← hSS] at HST HTN HTS HK
        clear hSS
        go_upto_region 11 with fail
        go_cut [28] (fun s wx => s = .bool (isClose SS a) ∧ wr = wx)
        case first =>
          have q1 := s8_sg a 125
          clear HST HTN HTS HSC HG HNM HK
          cases ob with
          | true =>
            have HB : Hid (isClose SS a = decide (a = [125])) := by show _ = _; unfold isClose; rw [HSS.out]; rfl
            generalize decide (a = [125]) = d at *
            as_aux_lemma =>
              go_wp2_with fail
              go_meet
              all_goals go_light
              exact ⟨by rw [HB.out], rfl⟩
          | false =>
            have HB : Hid (isClose SS a = false) := by show _ = _; unfold isClose; rw [HSS.out]; rfl
            clear q1
            as_aux_lemma =>
              go_wp2_with fail
              go_meet
              all_goals go_light
              exact ⟨by rw [HB.out], rfl⟩
        case rest =>
          obtain ⟨rfl, rfl⟩ := hcut
          cases hB1 : isClose SS a with
          | true =>
            have hst : stepP SS = some ⟨rr, 0, [], false, C, fu⟩ := by rw [HST.out, if_pos hB1]
            obtain ⟨k1, k2, k3⟩ := HTS.out _ hst
            have HK1 := hid k1
            have HK2 := hid k2
            have HK3 := hid k3
            have HD1 : Hid (rr = L.drop (k + 1)) := (drop_next HDR.out 0).symm
            clear HST HTN HTS hB1 hst k1 k2 k3
            go_wp2_with (first | refine wpList_buildV rfl 48 [] rfl (some 37) rfl [] rfl (lnV ln0) rln_z ?_ | refine wpList_store_whole rfl 48 (.tmp 8) (.tmp 37) rfl (lnV ln0) rfl rfl HG.out CF.k4 rfl (lnV_one _) ?_)
            intro w' hg' hgr
            have hb' := CF.grown1 hbr hgr (Nat.le_refl _)
            have hsc' := sl_box HG.out HSC.out rfl (by have := HK.out.1; rwa [HSS.out] at this) (fun b hb hbn => hgr.block b hb (fun e => by injection e with e; exact hbn e)) hgr.size
            have HG' := hid hg'
            have HS' := hid hsc'
            clear hg' hsc' hgr HG HSC
            as_aux_lemma =>
              go_wp2_with fail
              go_light
              exact ⟨⟨k + 1, ⟨rr, 0, [], false, C, fu⟩, A2, c2, by omega, by go_num, rfl, rfl, rfl, HD1, HK1, HK2, HK3, HG', HS', hb'⟩, by simp [intOf]; omega⟩
          | false =>
            go_upto_region 13 with fail
            go_cut [40] (fun s wx => s = .bool (isBegin SS a rr) ∧ wr = wx)
            case first =>
              have hH := fun w => refHead_any (S8 a) w
              simp only [bl_S8] at hH
              have HH := hid hH
              clear HST HTN HTS HSC HG HNM HK hB1 hH
              cases ob with
              | true =>
                have HB : Hid (isBegin SS a rr = false) := by show _ = _; unfold isBegin; rw [HSS.out]; rfl
                clear HH
                as_aux_lemma =>
                  go_wp2_with fail
                  go_meet
                  all_goals go_light
                  exact ⟨by rw [HB.out], rfl⟩
              | false =>
                have HB0 : Hid (isBegin SS a rr = (decide (headW a ≠ 0) && hasT rr [123])) := by show _ = _; unfold isBegin; rw [HSS.out]; rfl
                by_cases hn2 : k + 2 < n
                · obtain ⟨b1, t, R, rfl⟩ : ∃ b1 t R, rr = b1 :: t :: R := by
                    have hl := congrArg List.length HDR.out
                    rw [List.length_drop, ← HN.out] at hl
                    match rr, hl with
                    | [], hl => simp at hl; omega
                    | [_], hl => simp at hl; omega
                    | b1 :: t :: R, _ => exact ⟨b1, t, R, rfl⟩
                  obtain ⟨b', o', hA', _, p2⟩ := STR_cell (HS1.out.below hbr) hn2
                  injection hA' with hA'
                  injection hA' with e1 e2
                  subst e1; subst e2
                  rw [drop_word HDR.out 2, show (a :: b1 :: t :: R).getD 2 [] = t from rfl] at p2
                  have q2 := s8_sg t 123
                  have HHT : Hid (hasT (b1 :: t :: R) [123] = decide (t = [123])) := rfl
                  have j2 : (k : Int) + 2 < (n : Int) := by omega
                  by_cases hz : headW a = 0
                  · have HB : Hid (isBegin SS a (b1 :: t :: R) = false) := by show _ = _; rw [HB0.out, hz]; rfl
                    rw [hz] at HH
                    clear HB0 hz HHT q2 p2
                    go_wp2_with fail
                    refine (HH.out wr).mono ?_
                    rintro e w9 ⟨rfl, rfl⟩
                    go_wp2_with fail
                    go_meet
                    all_goals go_light
                    exact ⟨by rw [HB.out], rfl⟩
                  · have HB1 : Hid (isBegin SS a (b1 :: t :: R) = decide (t = [123])) := by show _ = _; rw [HB0.out, HHT.out, decide_eq_true hz]; rfl
                    have hpos : 0 < headW a := by rcases head_two a hz with ⟨_, e⟩ | ⟨_, e⟩ <;> rw [e] <;> decide
                    generalize headW a = hd at *
                    have HB : Hid (isBegin SS a (b1 :: t :: R) = decide (t = [123])) := HB1
                    generalize decide (t = [123]) = d at *
                    clear HB0 HB1 HHT hz
                    go_wp2_with fail
                    refine (HH.out wr).mono ?_
                    rintro e w9 ⟨rfl, rfl⟩
                    go_wp2_with fail
                    go_meet
                    all_goals go_light
                    exact ⟨by rw [HB.out], rfl⟩
                · have HB : Hid (isBegin SS a rr = false) := by
                    show _ = _
                    have hl := congrArg List.length HDR.out
                    rw [List.length_drop, ← HN.out] at hl
                    have : hasT rr [123] = false := by
                      match rr, hl with
                      | [], _ => rfl
                      | [_], _ => rfl
                      | b1 :: t :: R, hl => simp at hl; omega
                    rw [HB0.out, this, Bool.and_false]
                  have j2 : decide ((k : Int) + 2 < (n : Int)) = false := decide_eq_false (by omega)
                  clear HB0 HH
                  as_aux_lemma =>
                    go_wp2_with fail
                    go_meet
                    all_goals go_light
                    exact ⟨by rw [HB.out], rfl⟩
            case rest =>
              obtain ⟨rfl, rfl⟩ := hcut
              cases hB2 : isBegin SS a rr with
              | true =>
                have hb2 := hB2
                unfold isBegin at hb2
                rw [HSS.out] at hb2
                simp only [Bool.and_eq_true, decide_eq_true_eq, Bool.not_eq_true'] at hb2
                obtain ⟨hob, hh0, hT⟩ := hb2
                obtain ⟨nm2, R, rfl⟩ := has_two hT
                have hl := congrArg List.length HDR.out
                rw [List.length_drop, ← HN.out] at hl
                simp only [List.length_cons] at hl
                obtain ⟨b', o', hA', _, p1⟩ := STR_cell (HS1.out.below hbr) (show k + 1 < n by omega)
                injection hA' with hA'
                injection hA' with e1 e2
                subst e1; subst e2
                rw [drop_word HDR.out 1, show (a :: nm2 :: [123] :: R).getD 1 [] = nm2 from rfl] at p1
                have hnl : nm2.length ≤ 31 := HK.out.2.2.1 nm2 (by
                  have : SS.w = W := by rw [HSS.out]
                  rw [this, HWW.out, HDR.out]
                  simp)
                have hst : stepP SS = beginP SS a nm2 R := by
                  rw [HST.out, if_neg (by rw [hB1]; decide), if_pos hB2]
                  rfl
                have hH := fun w => refHead_any (S8 a) w
                simp only [bl_S8] at hH
                have hNA := fun w' => refNamed_any (headW a) (S8 nm2) w' (by rw [S8_size]; omega)
                simp only [bl_S8] at hNA
                have HBN : Hid (namedR (headW a) nm2 = false → T = ([], 3)) := fun e => HTN.out (by rw [hst]; unfold beginP; rw [e]; rfl)
                have HBY : Hid (namedR (headW a) nm2 = true → tellP ⟨R, headW a, nm2, true, C, fu⟩ = T ∧ Ok ⟨R, headW a, nm2, true, C, fu⟩ ∧ namedR (headW a) nm2 = true) := fun e => HTS.out ⟨R, headW a, nm2, true, C, fu⟩ (by rw [hst]; unfold beginP; rw [if_pos e, HSS.out])
                have HH := hid hH
                have HNA := hid hNA
                have hd3 : Hid (R = L.drop (k + 3)) := (drop_next HDR.out 2).symm
                have hn3 : k + 3 ≤ n := by omega
                have j1 : (k : Int) + 1 < (n : Int) := by omega
                have HRC : Hid (CF.RightC C = true) := by have := HK.out.1; rwa [HSS.out] at this
                subst hob
                clear HST HTN HTS hB1 hB2 hst hH hNA hl hT hh0 hnl HK HSS HDR
                obtain ⟨NB, hNB⟩ : ∃ NB, namedR (headW a) nm2 = NB := ⟨_, rfl⟩
                simp only [hNB] at HBN HNA HBY
                have HNB := hid hNB
                clear hNB
                generalize headW a = hd at *
                go_upto_region 14 with fail
                have z0 := fun z : WK (fun _ => False) wr => (wat_cell (p := ⟨b, o + k, none⟩) hbl (by simp) z).trans p0
                have z1 := fun z : WK (fun _ => False) wr => (wat_cell (p := ⟨b, o + (k + 1), none⟩) hbl (by simp) z).trans p1
                refine wp_region_loud (fun _ => False) [(4, plainL [] (.int .i64 hd)), (10, plainL [] (.bool NB))] (fun _ => Fact.none) (by kernel_rfl) (by kernel_rfl) (.cons (plainL_ok _ _) (.cons (plainL_ok _ _) .nil)) good_nothing sat_none (WX.out ?_)
                repeat (first | (refine wx_quietU (by rfl) (by rfl) (by rfl) (fun K hK => ?_); go_big_quiet_op; refine hK _ ?_; clear hK K) | (refine wx_quietG (by rfl) (by rfl) (by rfl) (by rfl) (by rfl) (fun K hK => ?_); go_big_quiet_op; refine hK _ ?_; clear hK K) | (refine wx_skipG (by rfl) (by rfl) (by rfl) (fun K hK => ?_); go_simp; refine hK _ ?_; clear hK K) | (refine wx_skipN (by rfl) (by rfl) (by rfl) (fun K hK => ?_); go_simp; refine hK _ ?_; clear hK K))
                refine wx_loudU (us := []) (by rfl) (by rfl) (fun S wS hC hS hU => runs_enter (f := 82) (by go_simp <;> rfl) ?_) (fun v hv K hK => ?_)
                · refine (HH.out wS).mono ?_
                  rintro e w' ⟨rfl, rfl⟩
                  exact ⟨_, rfl, rfl, Kept.refl _ _, trivial⟩
                obtain rfl := hv; (go_simp; refine hK _ ?_; clear hK K)
                repeat (first | (refine wx_quietU (by rfl) (by rfl) (by rfl) (fun K hK => ?_); go_big_quiet_op; refine hK _ ?_; clear hK K) | (refine wx_quietG (by rfl) (by rfl) (by rfl) (by rfl) (by rfl) (fun K hK => ?_); go_big_quiet_op; refine hK _ ?_; clear hK K) | (refine wx_skipG (by rfl) (by rfl) (by rfl) (fun K hK => ?_); go_simp; refine hK _ ?_; clear hK K) | (refine wx_skipN (by rfl) (by rfl) (by rfl) (fun K hK => ?_); go_simp; refine hK _ ?_; clear hK K))
                refine wx_loudU (us := []) (by rfl) (by rfl) (fun S wS hC hS hU => runs_enter (f := 64) (by go_simp <;> rfl) ?_) (fun v hv K hK => ?_)
                · refine (HNA.out wS).mono ?_
                  rintro e w' ⟨rfl, hb⟩
                  exact ⟨_, rfl, rfl, Kept.of_below hb, trivial⟩
                obtain rfl := hv; (go_simp; refine hK _ ?_; clear hK K)
                repeat (first | (refine wx_quietU (by rfl) (by rfl) (by rfl) (fun K hK => ?_); go_big_quiet_op; refine hK _ ?_; clear hK K) | (refine wx_quietG (by rfl) (by rfl) (by rfl) (by rfl) (by rfl) (fun K hK => ?_); go_big_quiet_op; refine hK _ ?_; clear hK K) | (refine wx_skipG (by rfl) (by rfl) (by rfl) (fun K hK => ?_); go_simp; refine hK _ ?_; clear hK K) | (refine wx_skipN (by rfl) (by rfl) (by rfl) (fun K hK => ?_); go_simp; refine hK _ ?_; clear hK K))
                refine wx_nil fun w3 hsat => ?_
                have hb3 := sat_below hsat
                clear hsat z0 z1 HNA
                have hbr3 := hbr.trans (hb3.mono hbr.size)
                have hbw3 := hb1.trans (hbr3.mono hb1s)
                cases NB with
                | false =>
                  have HV := hid (HBN.out rfl)
                  clear HBN HBY HH
                  as_aux_lemma =>
                    go_wp2_with fail
                    go_ret2
                    exact ⟨by rw [HV.out]; exact textPost_nil _ _, hbw3⟩
                | true =>
                  obtain ⟨k1, k2, k3⟩ := HBY.out rfl
                  have HK1 := hid k1
                  have HK2 := hid k2
                  have HK3 : Hid (namedR hd nm2 = true) := HNB
                  clear HBN HBY k1 k2 k3 hbw3
                  have hgl := blk_lt HG.out
                  have hg3 := blk_below HG.out hb3 hgl
                  have hsc3 := HSC.out.below hb3
                  have hgl3 := blk_lt hg3
                  have hbl3 := Nat.lt_of_lt_of_le hbl hb3.size
                  have hbg : b ≠ w1.heap.size := HBG.out
                  have z0 := fun z : WK (fun g => g = w1.heap.size) w3 => (wat_cell (p := ⟨b, o + k, none⟩) hbl3 (fun e => hbg e) z).trans ((hb3.cell (p := ⟨b, o + k, none⟩) hbl).trans p0)
                  have z1 := fun z : WK (fun g => g = w1.heap.size) w3 => (wat_cell (p := ⟨b, o + (k + 1), none⟩) hbl3 (fun e => hbg e) z).trans ((hb3.cell (p := ⟨b, o + (k + 1), none⟩) hbl).trans p1)
                  go_upto_region 16 with fail
                  refine wp_region_loud (fun g => g = w1.heap.size) [(4, plainL [] (.int .i64 hd)), (10, plainL [] (.agg (lnV ⟨hd, nm2, [], []⟩))), (13, keepL [100] (BlkF w1.heap.size 48 (lnV ⟨hd, nm2, [], []⟩)))] (labelled 100 (BlkF w1.heap.size 48 (lnV ⟨zh, nm, [], []⟩))) (by kernel_rfl) (by kernel_rfl)
                    (.cons (plainL_ok _ _) (.cons (plainL_ok _ _) (.cons (keepL_ok _ (good_blk _ _ _)) .nil))) (good_one 100 (good_blk _ _ _)) (sat_one 100 _ (fun g hg => by have e2 : g = w1.heap.size := hg; omega) ⟨rfl, hg3⟩) (WX.out ?_)
                  repeat (first | (refine wx_quietU (by rfl) (by rfl) (by rfl) (fun K hK => ?_); go_big_quiet_op; refine hK _ ?_; clear hK K) | (refine wx_quietG (by rfl) (by rfl) (by rfl) (by rfl) (by rfl) (fun K hK => ?_); go_big_quiet_op; refine hK _ ?_; clear hK K) | (refine wx_skipG (by rfl) (by rfl) (by rfl) (fun K hK => ?_); go_simp; refine hK _ ?_; clear hK K) | (refine wx_skipN (by rfl) (by rfl) (by rfl) (fun K hK => ?_); go_simp; refine hK _ ?_; clear hK K))
                  refine wx_loudU (us := []) (by rfl) (by rfl) (fun S wS hC hS hU => runs_enter (f := 82) (by go_simp <;> rfl) ?_) (fun v hv K hK => ?_)
                  · refine (HH.out wS).mono ?_
                    rintro e w' ⟨rfl, rfl⟩
                    exact ⟨_, rfl, rfl, Kept.refl _ _, trivial⟩
                  obtain rfl := hv; (go_simp; refine hK _ ?_; clear hK K)
                  repeat (first | (refine wx_quietU (by rfl) (by rfl) (by rfl) (fun K hK => ?_); go_big_quiet_op; refine hK _ ?_; clear hK K) | (refine wx_quietG (by rfl) (by rfl) (by rfl) (by rfl) (by rfl) (fun K hK => ?_); go_big_quiet_op; refine hK _ ?_; clear hK K) | (refine wx_skipG (by rfl) (by rfl) (by rfl) (fun K hK => ?_); go_simp; refine hK _ ?_; clear hK K) | (refine wx_skipN (by rfl) (by rfl) (by rfl) (fun K hK => ?_); go_simp; refine hK _ ?_; clear hK K))
                  refine wx_loudU (us := []) (by rfl) (by rfl) (fun S wS hC hS hU => ?_) (fun v hv K hK => ?_)
                  · exact runs_buildV 48 [(0, .tmp 82), (1, .tmp 87)] rfl [(0, .int .i64 hd), (1, .string (S8 nm2))] rfl (lnV ⟨hd, nm2, [], []⟩) (rln_2 hd nm2) ⟨rfl, Kept.refl _ _, trivial⟩
                  obtain rfl := hv; (go_simp; refine hK _ ?_; clear hK K)
                  repeat (first | (refine wx_quietU (by rfl) (by rfl) (by rfl) (fun K hK => ?_); go_big_quiet_op; refine hK _ ?_; clear hK K) | (refine wx_quietG (by rfl) (by rfl) (by rfl) (by rfl) (by rfl) (fun K hK => ?_); go_big_quiet_op; refine hK _ ?_; clear hK K) | (refine wx_skipG (by rfl) (by rfl) (by rfl) (fun K hK => ?_); go_simp; refine hK _ ?_; clear hK K) | (refine wx_skipN (by rfl) (by rfl) (by rfl) (fun K hK => ?_); go_simp; refine hK _ ?_; clear hK K))
                  refine wx_loudU (us := [100]) (by rfl) (by rfl) (fun S wS hC hS hU => ?_) (fun v hv K hK => ?_)
                  · have hB : BlkF w1.heap.size 48 (lnV ⟨zh, nm, [], []⟩) S wS := hU 100 (by simp)
                    exact store4_x 48 (.tmp 8) (.tmp 88) rfl 0 rfl ⟨hd, nm2, [], []⟩ rfl hB (by show 0 + 4 ≤ 4; omega) CF.k4
                  (go_simp; refine hK _ ?_; clear hK K)
                  repeat (first | (refine wx_quietU (by rfl) (by rfl) (by rfl) (fun K hK => ?_); go_big_quiet_op; refine hK _ ?_; clear hK K) | (refine wx_quietG (by rfl) (by rfl) (by rfl) (by rfl) (by rfl) (fun K hK => ?_); go_big_quiet_op; refine hK _ ?_; clear hK K) | (refine wx_skipG (by rfl) (by rfl) (by rfl) (fun K hK => ?_); go_simp; refine hK _ ?_; clear hK K) | (refine wx_skipN (by rfl) (by rfl) (by rfl) (fun K hK => ?_); go_simp; refine hK _ ?_; clear hK K))
                  refine wx_nil fun w4 hsat => ?_
                  obtain ⟨S9, hS9, hF9⟩ := sat_get hsat 13
                  have hg4 := (show BlkF w1.heap.size 48 (lnV ⟨hd, nm2, [], []⟩) S9 w4 from hF9).2
                  have hk4 := hsat.1
                  have hsc4 := sl_box hg3 hsc3 rfl HRC.out (fun b hb hbn => hk4.block b hb hbn) hk4.size
                  have hbr4 := hbr3.trans (hk4.below_of (B := w1.heap.size) hbr3.size (fun g hg => by have e2 : g = w1.heap.size := hg; omega))
                  have HG4 := hid hg4
                  have HS4 := hid hsc4
                  clear hsat hF9 hS9 z0 z1 HH hg3 hsc3 hg4 hsc4 hk4
                  as_aux_lemma =>
                    go_wp2_with fail
                    go_light
                    exact ⟨⟨k + 3, ⟨R, hd, nm2, true, C, fu⟩, A2, c2, by omega, by go_num, rfl, rfl, rfl, hd3, HK1, HK2, HK3, HG4, HS4, hbr4⟩, by simp [intOf]; omega⟩
              | false =>
                go_upto_region 17 with fail
                go_cut [91] (fun s wx => s = .bool (isSet a rr) ∧ wr = wx)
                case first =>
                  have hH1 := fun w => refSign_any (S8 a) w
                  simp only [bl_S8] at hH1
                  have HH1 := hid hH1
                  clear HST HTN HTS HSC HG HNM HK hB1 hB2 hH1
                  by_cases hn2 : k + 2 < n
                  · obtain ⟨b1, t, R, rfl⟩ : ∃ b1 t R, rr = b1 :: t :: R := by
                      have hl := congrArg List.length HDR.out
                      rw [List.length_drop, ← HN.out] at hl
                      match rr, hl with
                      | [], hl => simp at hl; omega
                      | [_], hl => simp at hl; omega
                      | b1 :: t :: R, _ => exact ⟨b1, t, R, rfl⟩
                    obtain ⟨b', o', hA', _, p2⟩ := STR_cell (HS1.out.below hbr) hn2
                    injection hA' with hA'
                    injection hA' with e1 e2
                    subst e1; subst e2
                    obtain ⟨b', o', hA', _, p1⟩ := STR_cell (HS1.out.below hbr) (show k + 1 < n by omega)
                    injection hA' with hA'
                    injection hA' with e1 e2
                    subst e1; subst e2
                    rw [drop_word HDR.out 2, show (a :: b1 :: t :: R).getD 2 [] = t from rfl] at p2
                    rw [drop_word HDR.out 1, show (a :: b1 :: t :: R).getD 1 [] = b1 from rfl] at p1
                    have q2 := s8_sg t 59
                    have hH2 := fun w => refSign_any (S8 b1) w
                    simp only [bl_S8] at hH2
                    have HH2 := hid hH2
                    clear hH2
                    have HB0 : Hid (isSet a (b1 :: t :: R) = (decide (t = [59]) && (!isSgn a && !isSgn b1))) := rfl
                    have j2 : (k : Int) + 2 < (n : Int) := by omega
                    have j1 : (k : Int) + 1 < (n : Int) := by omega
                    generalize isSgn a = sa at *
                    generalize isSgn b1 = sb at *
                    generalize decide (t = [59]) = d at *
                    cases sa with
                    | true =>
                      have HB : Hid (isSet a (b1 :: t :: R) = false) := by show _ = _; rw [HB0.out]; cases d <;> rfl
                      clear HB0 HH2 p1 p2 q2
                      go_wp2_with fail
                      refine (HH1.out wr).mono ?_
                      rintro e w9 ⟨rfl, rfl⟩
                      go_wp2_with fail
                      go_meet
                      all_goals go_light
                      exact ⟨by rw [HB.out], rfl⟩
                    | false =>
                      cases sb with
                      | true =>
                        have HB : Hid (isSet a (b1 :: t :: R) = false) := by show _ = _; rw [HB0.out]; cases d <;> rfl
                        clear HB0 p2 q2
                        go_wp2_with fail
                        refine (HH1.out wr).mono ?_
                        rintro e w9 ⟨rfl, rfl⟩
                        go_wp2_with fail
                        refine (HH2.out w9).mono ?_
                        rintro e w8 ⟨rfl, rfl⟩
                        go_wp2_with fail
                        go_meet
                        all_goals go_light
                        exact ⟨by rw [HB.out], rfl⟩
                      | false =>
                        have HB : Hid (isSet a (b1 :: t :: R) = d) := by show _ = _; rw [HB0.out]; cases d <;> rfl
                        clear HB0
                        go_wp2_with fail
                        refine (HH1.out wr).mono ?_
                        rintro e w9 ⟨rfl, rfl⟩
                        go_wp2_with fail
                        refine (HH2.out w9).mono ?_
                        rintro e w8 ⟨rfl, rfl⟩
                        go_wp2_with fail
                        go_meet
                        all_goals go_light
                        exact ⟨by rw [HB.out], rfl⟩
                  · have HB : Hid (isSet a rr = false) := by
                      show _ = _
                      have hl := congrArg List.length HDR.out
                      rw [List.length_drop, ← HN.out] at hl
                      have : hasT rr [59] = false := by
                        match rr, hl with
                        | [], _ => rfl
                        | [_], _ => rfl
                        | b1 :: t :: R, hl => simp at hl; omega
                      unfold isSet
                      rw [this, Bool.false_and]
                    clear HH1
                    as_aux_lemma =>
                      go_wp2_with fail
                      go_meet
                      all_goals go_light
                      exact ⟨by rw [HB.out], rfl⟩
                case rest =>
                  obtain ⟨rfl, rfl⟩ := hcut
                  cases hB3 : isSet a rr with
                  | false =>
                    have HV := hid (HTN.out (by rw [HST.out, if_neg (by rw [hB1]; decide), if_neg (by rw [hB2]; decide), if_neg (by rw [hB3]; decide)]))
                    clear HST HTN HTS hB1 hB2 hB3
                    as_aux_lemma =>
                      go_wp2_with fail
                      go_ret2
                      exact ⟨by rw [HV.out]; exact textPost_nil _ _, hbw⟩
                  | true =>
                    have hb3 := hB3
                    unfold isSet at hb3
                    rw [Bool.and_eq_true] at hb3
                    obtain ⟨vl, R, rfl⟩ := has_two hb3.1
                    clear hb3
                    have hl := congrArg List.length HDR.out
                    rw [List.length_drop, ← HN.out] at hl
                    simp only [List.length_cons] at hl
                    obtain ⟨b', o', hA', _, p1⟩ := STR_cell (HS1.out.below hbr) (show k + 1 < n by omega)
                    injection hA' with hA'
                    injection hA' with e1 e2
                    subst e1; subst e2
                    rw [drop_word HDR.out 1, show (a :: vl :: [59] :: R).getD 1 [] = vl from rfl] at p1
                    have hwm : ∀ x ∈ a :: vl :: [59] :: R, x.length ≤ 31 := fun x hx => HK.out.2.2.1 x (by
                      have : SS.w = W := by rw [HSS.out]
                      rw [this, HWW.out, HDR.out]
                      exact hx)
                    have hla := hwm a List.mem_cons_self
                    have hlv := hwm vl (List.mem_cons_of_mem _ List.mem_cons_self)
                    obtain ⟨kk1, kk2, kk3, kk4⟩ := HK.out
                    rw [HSS.out] at kk1 kk2 kk4
                    simp only at kk1 kk2 kk4
                    have HLO : Hid (CF.LnOk ⟨zh, nm, a, vl⟩) := ⟨kk4, by show a.length ≤ _; omega, by show vl.length ≤ _; omega⟩
                    have HRC := hid kk1
                    have HCO := hid kk2
                    have hst : stepP SS = setP SS a vl R := by
                      rw [HST.out, if_neg (by rw [hB1]; decide), if_neg (by rw [hB2]; decide), if_pos hB3]
                      rfl
                    have hrl : CF.rightL ⟨zh, nm, a, vl⟩ = ((findR zh a).2 && rightR (findR zh a).1 vl) := right_of ⟨W, zh, nm, ob, C, fu⟩ a vl HNM.out
                    have HBN : Hid (CF.rightL ⟨zh, nm, a, vl⟩ = false → T = ([], 3)) := fun e => HTN.out (by
                      rw [hst, HSS.out]
                      exact setP_no _ a vl R (by rw [← e, hrl]))
                    have HBY : Hid (CF.rightL ⟨zh, nm, a, vl⟩ = true → ∀ CX FX, CX = confP ⟨W, zh, nm, ob, C, fu⟩ ⟨zh, nm, a, vl⟩ → FX = fullP ⟨W, zh, nm, ob, C, fu⟩ ⟨zh, nm, a, vl⟩ → tellP ⟨R, zh, nm, ob, CX, FX⟩ = T ∧ Ok ⟨R, zh, nm, ob, CX, FX⟩) := fun e CX FX h1 h2 => by
                      subst h1; subst h2
                      have e2 := e
                      rw [hrl, Bool.and_eq_true] at e2
                      have := HTS.out ⟨R, zh, nm, ob, confP ⟨W, zh, nm, ob, C, fu⟩ ⟨zh, nm, a, vl⟩, fullP ⟨W, zh, nm, ob, C, fu⟩ ⟨zh, nm, a, vl⟩⟩ (by rw [hst, HSS.out]; exact setP_yes _ a vl R e2.1 e2.2)
                      exact ⟨this.1, this.2.1⟩
                    have HFX : Hid (fullP ⟨W, zh, nm, ob, C, fu⟩ ⟨zh, nm, a, vl⟩ = (fu || decide (CF.setE C ⟨zh, nm, a, vl⟩ = 5))) := rfl
                    have HCX : Hid (confP ⟨W, zh, nm, ob, C, fu⟩ ⟨zh, nm, a, vl⟩ = if fullP ⟨W, zh, nm, ob, C, fu⟩ ⟨zh, nm, a, vl⟩ = true then C else if CF.setE C ⟨zh, nm, a, vl⟩ = 0 then CF.setC C ⟨zh, nm, a, vl⟩ else C) := rfl
                    have hd3 : Hid (R = L.drop (k + 3)) := (drop_next HDR.out 2).symm
                    have hn3 : k + 3 ≤ n := by omega
                    have j1 : (k : Int) + 1 < (n : Int) := by omega
                    clear HST HTN HTS hB1 hB2 hB3 hst hl hwm hla hlv kk1 kk2 kk3 kk4 hrl HK HSS HDR HWW
                    have hgl := blk_lt HG.out
                    have z0 := fun z : WK (fun _ => False) wr => (wat_cell (p := ⟨b, o + k, none⟩) hbl (by simp) z).trans p0
                    have z1 := fun z : WK (fun _ => False) wr => (wat_cell (p := ⟨b, o + (k + 1), none⟩) hbl (by simp) z).trans p1
                    have y0 := CF.box_z (S0 := fun _ => False) HG.out (fun e => e) 0 _ rfl
                    have y1 := CF.box_z (S0 := fun _ => False) HG.out (fun e => e) 1 _ rfl
                    go_upto_region 18 with fail
                    refine wp_region_loud (fun _ => False) [(13, plainL [] (.agg (lnV ⟨zh, nm, a, vl⟩))), (14, newL 48 #[.int .i64 0, .string ⟨#[]⟩, .string ⟨#[]⟩, .string ⟨#[]⟩]), (15, storeC [14] 48 (lnV ⟨zh, nm, a, vl⟩))] (fun _ => Fact.none) (by kernel_rfl) (by kernel_rfl)
                      (.cons (plainL_ok _ _) (.cons (newL_ok _ _) (.cons (storeC_ok _ _ _) .nil))) good_nothing sat_none (WX.out ?_)
                    repeat (first | (refine wx_quietU (by rfl) (by rfl) (by rfl) (fun K hK => ?_); go_big_quiet_op; refine hK _ ?_; clear hK K) | (refine wx_quietG (by rfl) (by rfl) (by rfl) (by rfl) (by rfl) (fun K hK => ?_); go_big_quiet_op; refine hK _ ?_; clear hK K) | (refine wx_skipG (by rfl) (by rfl) (by rfl) (fun K hK => ?_); go_simp; refine hK _ ?_; clear hK K) | (refine wx_skipN (by rfl) (by rfl) (by rfl) (fun K hK => ?_); go_simp; refine hK _ ?_; clear hK K))
                    refine wx_loudU (us := []) (by rfl) (by rfl) (fun S wS hC hS hU => ?_) (fun v hv K hK => ?_)
                    · exact runs_buildV 48 [(0, .tmp 123), (1, .tmp 125), (2, .tmp 129), (3, .tmp 134)] rfl [(0, .int .i64 zh), (1, .string (S8 nm)), (2, .string (S8 a)), (3, .string (S8 vl))] rfl (lnV ⟨zh, nm, a, vl⟩) (rln_4 ⟨zh, nm, a, vl⟩) ⟨rfl, Kept.refl _ _, trivial⟩
                    obtain rfl := hv; (go_simp; refine hK _ ?_; clear hK K)
                    repeat (first | (refine wx_quietU (by rfl) (by rfl) (by rfl) (fun K hK => ?_); go_big_quiet_op; refine hK _ ?_; clear hK K) | (refine wx_quietG (by rfl) (by rfl) (by rfl) (by rfl) (by rfl) (fun K hK => ?_); go_big_quiet_op; refine hK _ ?_; clear hK K) | (refine wx_skipG (by rfl) (by rfl) (by rfl) (fun K hK => ?_); go_simp; refine hK _ ?_; clear hK K) | (refine wx_skipN (by rfl) (by rfl) (by rfl) (fun K hK => ?_); go_simp; refine hK _ ?_; clear hK K))
                    refine wx_loudU (us := []) (by rfl) (by rfl) (fun S wS hC hS hU => ?_) (fun v hv K hK => ?_)
                    · exact runs_value (by go_simp <;> rfl) (newB_x rfl)
                    obtain ⟨g9, rfl⟩ := hv; (go_simp; refine hK _ ?_; clear hK K)
                    repeat (first | (refine wx_quietU (by rfl) (by rfl) (by rfl) (fun K hK => ?_); go_big_quiet_op; refine hK _ ?_; clear hK K) | (refine wx_quietG (by rfl) (by rfl) (by rfl) (by rfl) (by rfl) (fun K hK => ?_); go_big_quiet_op; refine hK _ ?_; clear hK K) | (refine wx_skipG (by rfl) (by rfl) (by rfl) (fun K hK => ?_); go_simp; refine hK _ ?_; clear hK K) | (refine wx_skipN (by rfl) (by rfl) (by rfl) (fun K hK => ?_); go_simp; refine hK _ ?_; clear hK K))
                    refine wx_loudU (us := [14]) (by rfl) (by rfl) (fun S wS hC hS hU => ?_) (fun v hv K hK => ?_)
                    · have hB := newB_get (g := g9) (T := 48) (cs := #[.int .i64 0, .string ⟨#[]⟩, .string ⟨#[]⟩, .string ⟨#[]⟩]) (hU 14 (by simp))
                      clear hU
                      exact runs_store_whole 48 (.tmp 12) (.tmp 135) rfl (lnV ⟨zh, nm, a, vl⟩) rfl rfl hB.2 CF.k4 rfl (lnV_one _)
                        ⟨trivial, kept_setRow wS g9 _ hB.1, g9, rfl, .inl hB.1, setRow_heap _ _ _ _ _ _ hB.2⟩
                    (go_simp; refine hK _ ?_; clear hK K)
                    repeat (first | (refine wx_quietU (by rfl) (by rfl) (by rfl) (fun K hK => ?_); go_big_quiet_op; refine hK _ ?_; clear hK K) | (refine wx_quietG (by rfl) (by rfl) (by rfl) (by rfl) (by rfl) (fun K hK => ?_); go_big_quiet_op; refine hK _ ?_; clear hK K) | (refine wx_skipG (by rfl) (by rfl) (by rfl) (fun K hK => ?_); go_simp; refine hK _ ?_; clear hK K) | (refine wx_skipN (by rfl) (by rfl) (by rfl) (fun K hK => ?_); go_simp; refine hK _ ?_; clear hK K))
                    refine wx_nil fun w3 hsat => ?_
                    obtain ⟨S15, hS15, hF15⟩ := sat_get hsat 15
                    have hg9 : w3.heap[g9]? = some (.cells (lnV ⟨zh, nm, a, vl⟩) 48 (0, 0)) := (storeC_get (g := g9) hF15).2
                    have hb3 := sat_below hsat
                    clear hsat hF15 hS15 z0 z1 y0 y1
                    have hbr3 := hbr.trans (hb3.mono hbr.size)
                    have hbw3 := hb1.trans (hbr3.mono hb1s)
                    have HG3 := hid (blk_below HG.out hb3 hgl)
                    have HS3 := hid (HSC.out.below hb3)
                    have HRL := hid (CF.refRight1_any ⟨zh, nm, a, vl⟩ w3 HLO.out (HO1.out.below hbr3))
                    clear HG HSC hb3 hgl
                    go_wp2_with (refine wpList_load_row rfl 48 (.tmp 12) rfl g9 rfl 48 (lnV ⟨zh, nm, a, vl⟩) (0, 0) _ hg9 Tryz.underlying48 rfl CF.k4 ?_)
                    refine HRL.out.mono ?_
                    rintro e w4 ⟨rfl, hb4⟩
                    have hbr4 := hbr3.trans (hb4.mono hbr3.size)
                    have hbw4 := hb1.trans (hbr4.mono hb1s)
                    have HG4 := hid (blk_below HG3.out hb4 (blk_lt HG3.out))
                    have HS4 := hid (HS3.out.below hb4)
                    have hg94 := blk_below hg9 hb4 (blk_lt hg9)
                    clear HRL HG3 HS3 hb4 hg9 hbr3 hbw3
                    cases hrl : CF.rightL ⟨zh, nm, a, vl⟩ with
                    | false =>
                      have HV := hid (HBN.out hrl)
                      clear HBN HBY hrl
                      as_aux_lemma =>
                        go_wp2_with fail
                        go_ret2
                        exact ⟨by rw [HV.out]; exact textPost_nil _ _, hbw4⟩
                    | true =>
                      have HRL := hid hrl
                      have HBY2 := hid (HBY.out hrl)
                      clear HBN HBY hrl hbw4
                      cases fu with
                      | true =>
                        have hf : fullP ⟨W, zh, nm, ob, C, true⟩ ⟨zh, nm, a, vl⟩ = true := by rw [HFX.out]; rfl
                        have hc : confP ⟨W, zh, nm, ob, C, true⟩ ⟨zh, nm, a, vl⟩ = C := by rw [HCX.out, if_pos hf]
                        obtain ⟨k1, k2⟩ := HBY2.out C true hc.symm hf.symm
                        have HK1 := hid k1
                        have HK2 := hid k2
                        clear HBY2 HFX HCX hf hc k1 k2 HRL hg94
                        as_aux_lemma =>
                          go_wp2_with fail
                          go_light
                          exact ⟨⟨k + 3, ⟨R, zh, nm, ob, C, true⟩, A2, c2, by omega, by go_num, rfl, rfl, rfl, hd3, HK1, HK2, HNM, HG4, HS4, hbr4⟩, by simp [intOf]; omega⟩
                      | false =>
                        have HST := hid (CF.refSet_any C ⟨zh, nm, a, vl⟩ A2 C.length c2 w4 HS4.out HCO.out HLO.out (HO1.out.below hbr4))
                        have HE2 : Hid (CF.setE C ⟨zh, nm, a, vl⟩ ≠ 5 → CF.setE C ⟨zh, nm, a, vl⟩ = 0) := setE_two C _ HRC.out HRL.out
                        generalize CF.setE C ⟨zh, nm, a, vl⟩ = E at *
                        generalize CF.setC C ⟨zh, nm, a, vl⟩ = D at *
                        obtain ⟨m, hm⟩ : ∃ m, m = C.length := ⟨_, rfl⟩
                        go_wp2_with (refine wpList_load_row rfl 48 (.tmp 12) rfl g9 rfl 48 (lnV ⟨zh, nm, a, vl⟩) (0, 0) _ hg94 Tryz.underlying48 rfl CF.k4 ?_)
                        refine HST.out.mono ?_
                        rintro e w5 ⟨⟨A5, c5, rfl, hs5⟩, hb5⟩
                        have hbr5 := hbr4.trans (hb5.mono hbr4.size)
                        have HG5 := hid (blk_below HG4.out hb5 (blk_lt HG4.out))
                        have HS5 := hid (HS4.out.below hb5)
                        have HD5 := hid hs5
                        clear HST HG4 HS4 hb5 hs5 hg94 hbr4 hm
                        by_cases hE5 : E = 5
                        · have te : (E == 5) = true := by simpa using hE5
                          have hf : fullP ⟨W, zh, nm, ob, C, false⟩ ⟨zh, nm, a, vl⟩ = true := by rw [HFX.out, hE5]; rfl
                          have hc : confP ⟨W, zh, nm, ob, C, false⟩ ⟨zh, nm, a, vl⟩ = C := by rw [HCX.out, if_pos hf]
                          obtain ⟨k1, k2⟩ := HBY2.out C true hc.symm hf.symm
                          have HK1 := hid k1
                          have HK2 := hid k2
                          clear HBY2 HFX HCX hf hc k1 k2 HRL hE5 HE2
                          as_aux_lemma =>
                            go_wp2_with fail
                            go_light
                            exact ⟨⟨k + 3, ⟨R, zh, nm, ob, C, true⟩, A2, c2, by omega, by go_num, rfl, rfl, rfl, hd3, HK1, HK2, HNM, HG5, HS5, hbr5⟩, by simp [intOf]; omega⟩
                        · have te : (E == 5) = false := by simpa using hE5
                          have hf : fullP ⟨W, zh, nm, ob, C, false⟩ ⟨zh, nm, a, vl⟩ = false := by rw [HFX.out, decide_eq_false hE5]; rfl
                          have hc : confP ⟨W, zh, nm, ob, C, false⟩ ⟨zh, nm, a, vl⟩ = D := by rw [HCX.out, hf, if_neg (by decide), if_pos (HE2.out hE5)]
                          obtain ⟨k1, k2⟩ := HBY2.out D false hc.symm hf.symm
                          have HK1 := hid k1
                          have HK2 := hid k2
                          clear HBY2 HFX HCX hf hc k1 k2 HRL hE5 HE2
                          as_aux_lemma =>
                            go_wp2_with fail
                            go_light
                            exact ⟨⟨k + 3, ⟨R, zh, nm, ob, D, false⟩, A5, c5, by omega, by go_num, rfl, rfl, rfl, hd3, HK1, HK2, HNM, HG5, HD5, hbr5⟩, by simp [intOf]; omega⟩
      · obtain rfl : k = n := by omega
        have hw0 : S.w = [] := by rw [HW.out, HN.out]; exact List.drop_length
        have hT := tellP_nil S hw0
        rw [HT.out] at hT
        obtain ⟨W, hh, nm, ob, C, fu⟩ := S
        simp only at hT HSC
        clear HT HK HG HW HNM hw0 HN
        have HTT := hid hT
        clear hT
        cases ob with
        | true =>
          have HV : Hid (T = ([], 3)) := by show _ = _; rw [HTT.out]; rfl
          clear HTT HSC
          go_wp2_with fail
          go_ret2
          exact ⟨by rw [HV.out]; exact textPost_nil _ _, hbw⟩
        | false =>
          cases fu with
          | true =>
            have HV : Hid (T = ([], 5)) := by show _ = _; rw [HTT.out]; rfl
            clear HTT HSC
            go_wp2_with fail
            go_ret2
            exact ⟨by rw [HV.out]; exact textPost_nil _ _, hbw⟩
          | false =>
            have HV : Hid (T = (C, 0)) := by show _ = _; rw [HTT.out]; rfl
            clear HTT
            go_wp2_with fail
            go_ret2
            exact ⟨by rw [HV.out]; exact ⟨A2, c2, rfl, HSC.out⟩, hbw⟩
  · have HT := hid (HT3.out her)
    have te : (er != 0) = true := by rw [bne_iff_ne]; exact her
    clear HT3 HT0
    go_wp2_with fail
    go_ret2
    exact ⟨by rw [HT.out]; exact textPost_nil _ _, hb1⟩
end PT
end Go.Proofs.YtecfkhgocjbocaaGreatDoor
