/-
  Contract of layer 6's reference: Read.
-/
import Derived.Test.YtfojgimficdjhaaGreatDoorPr6
namespace Go.Proofs.YtfojgimficdjhaaGreatDoor
set_option linter.unusedVariables false
set_option linter.unusedSimpArgs false
open Go Go.RowKit

def PLs : List (List UInt8) := [[], [], [], wShow, wCompare, wCheck, wCommit, [], wConfirm]
theorem pl_hit (x : List UInt8) (k : Nat) (h3 : 3 ≤ k) (h9 : k < 9) (h7 : k ≠ 7) (h : PLs.getD k [] = x) : plainW x = (k : Int) := by
  subst h
  match k, h3, h9, h7 with
  | 3, _, _, _ | 4, _, _, _ | 5, _, _, _ | 6, _, _, _ | 8, _, _, _ => decide
  | 7, _, _, h => exact absurd rfl h
  | _ + 9, _, h, _ => omega
theorem pl_no (x : List UInt8) (h : ∀ j, 3 ≤ j → j < 9 → j ≠ 7 → PLs.getD j [] ≠ x) : plainW x = 0 := by
  unfold plainW
  rw [if_neg (fun e => h 3 (by omega) (by omega) (by omega) e.symm), if_neg (fun e => h 4 (by omega) (by omega) (by omega) e.symm), if_neg (fun e => h 5 (by omega) (by omega) (by omega) e.symm), if_neg (fun e => h 6 (by omega) (by omega) (by omega) e.symm), if_neg (fun e => h 8 (by omega) (by omega) (by omega) e.symm)]
theorem j6 : (Tryz.prog.info? 31).map (·.size) = some 6 := by kernel_rfl
theorem j4 : (Tryz.prog.info? 29).map (·.size) = some 4 := by kernel_rfl
theorem j8 : (Tryz.prog.info? 88).map (·.size) = some 8 := by kernel_rfl
set_option maxRecDepth 100000 in
set_option maxHeartbeats 1600000 in
theorem refRead_err (s : ByteArray) (w : World) (hs : s.size ≤ 100000) (L : List (List UInt8)) (k : Nat) (hR : LX.run (bl s) 0 [] = (L, k, 3)) :
    Calls Tryz.prog 9 #[.string s] w fun e w' => CmdPost none e ∧ Below w.heap.size w w' := by
  have hV := refWords_any s
  have h31 := toks31 (bl s)
  generalize LX.run (bl s) 0 [] = R at *
  subst hR
  simp only at hV h31
  have HV := hid (fun w => hV w hs)
  have H31 := hid h31
  clear hV h31
  obtain ⟨hb0, hx0, hl0⟩ := box1 w (.cells #[.int .i64 0, .int .i64 0, .string ⟨#[]⟩, .string ⟨#[]⟩, .string ⟨#[]⟩, .int .i64 0] 31)
  go_enter Tryz.func9, Tryz.ntmps9
  go_upto_region 1 with fail
  generalize w.alloc (.cells #[.int .i64 0, .int .i64 0, .string ⟨#[]⟩, .string ⟨#[]⟩, .string ⟨#[]⟩, .int .i64 0] 31) = w0 at *
  go_wp2_with fail
  refine (HV.out w0).mono ?_
  rintro e w1 ⟨A, c, rfl, ho, hb1⟩
  replace hx0 := blk_below hx0 hb1 hl0
  replace hb0 := hb0.trans (hb1.mono hb0.size)
  have hsl := own_sl ho
  clear hb1 hl0 HV ho
  go_wp2_with (refine wpList_store_whole rfl 31 (.tmp 2) (.tmp 32) rfl (cmV cmd0) rfl rfl hx0 j6 rfl (cmV_one _) ?_)
  intro wz hgz hgrz
  have hbz := grown1 hb0 hgrz (Nat.le_refl _)
  go_wp2_with fail
  exact ret_row2 (fn := Tryz.f9) (x := .bool false) (cs := cmV cmd0) rfl rfl rfl hgz Tryz.underlying31 rfl j6 rfl ⟨⟨_, _, rfl, rfl⟩, hbz⟩
set_option maxRecDepth 100000 in
set_option maxHeartbeats 1600000 in
theorem refRead_nil (s : ByteArray) (w : World) (hs : s.size ≤ 100000) (k : Nat) (hR : LX.run (bl s) 0 [] = ([], k, 0)) :
    Calls Tryz.prog 9 #[.string s] w fun e w' => CmdPost none e ∧ Below w.heap.size w w' := by
  have hV := refWords_any s
  have h31 := toks31 (bl s)
  generalize LX.run (bl s) 0 [] = R at *
  subst hR
  simp only at hV h31
  have HV := hid (fun w => hV w hs)
  have H31 := hid h31
  clear hV h31
  obtain ⟨hb0, hx0, hl0⟩ := box1 w (.cells #[.int .i64 0, .int .i64 0, .string ⟨#[]⟩, .string ⟨#[]⟩, .string ⟨#[]⟩, .int .i64 0] 31)
  go_enter Tryz.func9, Tryz.ntmps9
  go_upto_region 1 with fail
  generalize w.alloc (.cells #[.int .i64 0, .int .i64 0, .string ⟨#[]⟩, .string ⟨#[]⟩, .string ⟨#[]⟩, .int .i64 0] 31) = w0 at *
  go_wp2_with fail
  refine (HV.out w0).mono ?_
  rintro e w1 ⟨A, c, rfl, ho, hb1⟩
  replace hx0 := blk_below hx0 hb1 hl0
  replace hb0 := hb0.trans (hb1.mono hb0.size)
  have hsl := own_sl ho
  clear hb1 hl0 HV ho
  go_wp2_with (refine wpList_store_whole rfl 31 (.tmp 2) (.tmp 32) rfl (cmV cmd0) rfl rfl hx0 j6 rfl (cmV_one _) ?_)
  intro wz hgz hgrz
  have hbz := grown1 hb0 hgrz (Nat.le_refl _)
  go_wp2_with fail
  exact ret_row2 (fn := Tryz.f9) (x := .bool false) (cs := cmV cmd0) rfl rfl rfl hgz Tryz.underlying31 rfl j6 rfl ⟨⟨_, _, rfl, rfl⟩, hbz⟩
set_option maxRecDepth 100000 in
set_option maxHeartbeats 1600000 in
theorem refRead_sgn (s : ByteArray) (w : World) (hs : s.size ≤ 100000) (L : List (List UInt8)) (k : Nat) (hR : LX.run (bl s) 0 [] = (L, k, 0)) (hL0 : L ≠ []) (hG : L.any isSgn = true) :
    Calls Tryz.prog 9 #[.string s] w fun e w' => CmdPost none e ∧ Below w.heap.size w w' := by
  have HG := hid hG
  clear hG
  have hV := refWords_any s
  have h31 := toks31 (bl s)
  generalize LX.run (bl s) 0 [] = R at *
  subst hR
  simp only at hV h31
  have HV := hid (fun w => hV w hs)
  have H31 := hid h31
  clear hV h31
  obtain ⟨hb0, hx0, hl0⟩ := box1 w (.cells #[.int .i64 0, .int .i64 0, .string ⟨#[]⟩, .string ⟨#[]⟩, .string ⟨#[]⟩, .int .i64 0] 31)
  go_enter Tryz.func9, Tryz.ntmps9
  go_upto_region 1 with fail
  generalize w.alloc (.cells #[.int .i64 0, .int .i64 0, .string ⟨#[]⟩, .string ⟨#[]⟩, .string ⟨#[]⟩, .int .i64 0] 31) = w0 at *
  go_wp2_with fail
  refine (HV.out w0).mono ?_
  rintro e w1 ⟨A, c, rfl, ho, hb1⟩
  replace hx0 := blk_below hx0 hb1 hl0
  replace hb0 := hb0.trans (hb1.mono hb0.size)
  have hsl := own_sl ho
  clear hb1 hl0 HV ho
  have hlen := (sl_lensS hsl).1
  have hne : 0 < L.length := by cases L with
    | nil => exact absurd rfl hL0
    | cons a b => simp
  have t0 : ((L.length : Int) == 0) = false := by rw [beq_eq_false_iff_ne]; omega
  obtain ⟨hcn, hcm⟩ := (sl_lensS hsl).2
  generalize hn : L.length = n at *
  have HN := hid hn
  clear hn hlen
  go_wp2_with fail
  go_loop [7] (fun i => ∃ k : Nat, k ≤ n ∧ i = .int .i64 k ∧ Hid ((L.take k).any isSgn = false)) (fun i => n - (intOf i).toNat)
  case atStart => exact ⟨0, Nat.zero_le _, rfl, hid (by simp)⟩
  case round =>
    obtain ⟨k, hk, rfl, hok⟩ := hrel
    by_cases hlt : k < n
    · obtain ⟨b, off, rfl, hbl, p0⟩ := STR_cell hsl hlt
      have hS := refSign_any (S8 (L.getD k [])) w1
      rw [bl_S8] at hS
      have HS := hid hS
      have HT : Hid ((L.take (k + 1)).any isSgn = isSgn (L.getD k [])) := by
        show _ = _
        have hk2 : k < L.length := by rw [HN.out]; exact hlt
        rw [List.take_succ_eq_append_getElem hk2, List.any_append, hok.out, List.getD_eq_getElem?_getD, List.getElem?_eq_getElem hk2]
        simp
      clear hS
      generalize L.getD k [] = x at *
      generalize isSgn x = bs at *
      go_wp2_with fail
      refine HS.out.mono ?_
      rintro e w1 ⟨rfl, rfl⟩
      cases bs with
      | true =>
        go_wp2_with (refine wpList_store_whole rfl 31 (.tmp 2) (.tmp 44) rfl (cmV cmd0) rfl rfl hx0 j6 rfl (cmV_one _) ?_)
        intro wz hgz hgrz
        have hbz := grown1 hb0 hgrz (Nat.le_refl _)
        go_wp2_with fail
        exact ret_row2 (fn := Tryz.f9) (x := .bool false) (cs := cmV cmd0) rfl rfl rfl hgz Tryz.underlying31 rfl j6 rfl ⟨⟨_, _, rfl, rfl⟩, hbz⟩
      | false =>
        go_wp2_with fail
        go_light
        exact ⟨⟨k + 1, by omega, by go_num, HT⟩, by simp [intOf]; omega⟩
    · obtain rfl : k = n := by omega
      exfalso
      have h1 := hok.out
      rw [← HN.out, List.take_length, HG.out] at h1
      cases h1
set_option maxRecDepth 100000 in
set_option maxHeartbeats 3200000 in
theorem refRead_word (s : ByteArray) (w : World) (hs : s.size ≤ 100000) (hen : Env w) (L : List (List UInt8)) (x : List UInt8) (r : List (List UInt8)) (k : Nat) (hR : LX.run (bl s) 0 [] = (L, k, 0)) (hL : L = x :: r) (hG : L.any isSgn = false) (hxs : x ≠ wSet) (hxd : x ≠ wDelete) :
    Calls Tryz.prog 9 #[.string s] w fun e w' => CmdPost (readL x r) e ∧ Below w.heap.size w w' := by
  have HG := hid hG
  have hL0 : L ≠ [] := by rw [hL]; simp
  have HLL := hid hL
  have HEN := hid hen
  clear hG hL hen
  have hV := refWords_any s
  have h31 := toks31 (bl s)
  generalize LX.run (bl s) 0 [] = R at *
  subst hR
  simp only at hV h31
  have HV := hid (fun w => hV w hs)
  have H31 := hid h31
  clear hV h31
  obtain ⟨hb0, hx0, hl0⟩ := box1 w (.cells #[.int .i64 0, .int .i64 0, .string ⟨#[]⟩, .string ⟨#[]⟩, .string ⟨#[]⟩, .int .i64 0] 31)
  go_enter Tryz.func9, Tryz.ntmps9
  go_upto_region 1 with fail
  generalize w.alloc (.cells #[.int .i64 0, .int .i64 0, .string ⟨#[]⟩, .string ⟨#[]⟩, .string ⟨#[]⟩, .int .i64 0] 31) = w0 at *
  go_wp2_with fail
  refine (HV.out w0).mono ?_
  rintro e w1 ⟨A, c, rfl, ho, hb1⟩
  replace hx0 := blk_below hx0 hb1 hl0
  replace hb0 := hb0.trans (hb1.mono hb0.size)
  have hsl := own_sl ho
  clear hb1 hl0 HV ho
  have hlen := (sl_lensS hsl).1
  have hne : 0 < L.length := by cases L with
    | nil => exact absurd rfl hL0
    | cons a b => simp
  have t0 : ((L.length : Int) == 0) = false := by rw [beq_eq_false_iff_ne]; omega
  obtain ⟨hcn, hcm⟩ := (sl_lensS hsl).2
  generalize hn : L.length = n at *
  have HN := hid hn
  clear hn hlen
  go_wp2_with fail
  go_loop [7] (fun i => ∃ k : Nat, k ≤ n ∧ i = .int .i64 k) (fun i => n - (intOf i).toNat)
  case atStart => exact ⟨0, Nat.zero_le _, rfl⟩
  case round =>
    obtain ⟨k, hk, rfl⟩ := hrel
    by_cases hlt : k < n
    · obtain ⟨b, off, rfl, hbl, p0⟩ := STR_cell hsl hlt
      have hS := refSign_any (S8 (L.getD k [])) w1
      have hng : isSgn (L.getD k []) = false := by
        have hk2 : k < L.length := by rw [HN.out]; exact hlt
        have h1 := List.any_eq_false.1 HG.out L[k] (List.getElem_mem hk2)
        rw [List.getD_eq_getElem?_getD, List.getElem?_eq_getElem hk2]
        simpa using h1
      rw [bl_S8, hng] at hS
      have HS := hid hS
      clear hS hng
      generalize L.getD k [] = y at *
      go_wp2_with fail
      refine HS.out.mono ?_
      rintro e w1 ⟨rfl, rfl⟩
      go_wp2_with fail
      go_light
      exact ⟨⟨k + 1, by omega, by go_num⟩, by simp [intOf]; omega⟩
    · obtain rfl : n = k := by omega
      clear HG hL0 hlt hk
      go_upto_region 10 with fail
      have hpl : Sl (w1.alloc (.cells #[.string ⟨#[]⟩, .string ⟨#[]⟩, .string ⟨#[]⟩, .string ⟨#[115, 104, 111, 119]⟩, .string ⟨#[99, 111, 109, 112, 97, 114, 101]⟩, .string ⟨#[99, 104, 101, 99, 107]⟩, .string ⟨#[99, 111, 109, 109, 105, 116]⟩, .string ⟨#[]⟩, .string ⟨#[99, 111, 110, 102, 105, 114, 109]⟩] 9)) 1 (.slice (some ⟨w1.heap.size, 0, none⟩) 9 9) (STR PLs) := own_sl (own_made w1 0 9 1 9 _ (STR PLs) (Nat.zero_le _) rfl rfl (by omega) (by omega))
      have hb2 := (Below.refl w1.heap.size w1).alloc (Nat.le_refl _) (.cells #[.string ⟨#[]⟩, .string ⟨#[]⟩, .string ⟨#[]⟩, .string ⟨#[115, 104, 111, 119]⟩, .string ⟨#[99, 111, 109, 112, 97, 114, 101]⟩, .string ⟨#[99, 104, 101, 99, 107]⟩, .string ⟨#[99, 111, 109, 109, 105, 116]⟩, .string ⟨#[]⟩, .string ⟨#[99, 111, 110, 102, 105, 114, 109]⟩] 9)
      replace hsl := hsl.below hb2
      have hx2 := blk_below hx0 hb2 (blk_lt hx0)
      have hbw2 := hb0.trans (hb2.mono hb0.size)
      clear hb2 hx0 hb0
      generalize w1.alloc (.cells #[.string ⟨#[]⟩, .string ⟨#[]⟩, .string ⟨#[]⟩, .string ⟨#[115, 104, 111, 119]⟩, .string ⟨#[99, 111, 109, 112, 97, 114, 101]⟩, .string ⟨#[99, 104, 101, 99, 107]⟩, .string ⟨#[99, 111, 109, 109, 105, 116]⟩, .string ⟨#[]⟩, .string ⟨#[99, 111, 110, 102, 105, 114, 109]⟩] 9) = w2 at *
      obtain ⟨nb, hnb⟩ : ∃ nb, ((n : Int) == 1) = nb := ⟨_, rfl⟩
      have HNB : Hid (r = [] ↔ nb = true) := by
        show _ ↔ _
        rw [← hnb, ← HN.out, HLL.out]
        simp
        exact ⟨fun h => by rw [h]; rfl, fun h => List.eq_nil_of_length_eq_zero (by omega)⟩
      go_wp2_with fail
      go_loopw [9] (fun i wr => ∃ k : Nat, 3 ≤ k ∧ k ≤ 9 ∧ i = .int .i64 k ∧ Hid (∀ j, 3 ≤ j → j < k → j ≠ 7 → PLs.getD j [] ≠ x) ∧ Below w2.heap.size w2 wr) (fun i _ => 9 - (intOf i).toNat)
      case atStart => exact ⟨3, by omega, by omega, rfl, hid (fun j h1 h2 => by omega), Below.refl _ _⟩
      case round =>
        obtain ⟨k, hk3, hk9, rfl, hnok, hbr⟩ := hrel
        have hslr := hsl.below hbr
        have hbwr := hbw2.trans (hbr.mono hbw2.size)
        have hxr := blk_below hx2 hbr (blk_lt hx2)
        obtain ⟨b, off, rfl, hbl, p0⟩ := STR_cell hslr (k := 0) hne
        rw [HLL.out] at p0
        simp only [List.getD_cons_zero, Nat.add_zero] at p0
        by_cases hlt : k < 9
        · obtain ⟨b1, off1, he1, hbl1, p1⟩ := STR_cell (hpl.below hbr) (k := k) hlt
          injection he1 with he1
          injection he1 with he1 he2
          subst he1
          subst he2
          rw [Nat.zero_add] at p1
          have z0 := fun (z : WK (fun _ => False) wr) => (wat_cell (p := ⟨b, off, none⟩) hbl (fun e => e) z).trans p0
          have z1 := fun (z : WK (fun _ => False) wr) => (wat_cell (p := ⟨w1.heap.size, k, none⟩) hbl1 (fun e => e) z).trans p1
          clear p0 p1
          have hx8 : (S8 x).toList = x := Lib.toList_data _
          have hy8 : (S8 (PLs.getD k [])).toList = PLs.getD k [] := Lib.toList_data _
          have HY := hid (show ((S8 (PLs.getD k [])).toList == (S8 x).toList) = decide (PLs.getD k [] = x) by rw [hx8, hy8, Bool.eq_iff_iff]; simp)
          have HIT : Hid (k ≠ 7 → PLs.getD k [] = x → plainW x = (k : Int)) := fun h7 h => pl_hit x k hk3 hlt h7 h
          have HNX : Hid (k = 7 ∨ PLs.getD k [] ≠ x → ∀ j, 3 ≤ j → j < k + 1 → j ≠ 7 → PLs.getD j [] ≠ x) := by
            show _ → _
            intro h j h3 h4 h7
            by_cases hjk : j < k
            · exact hnok.out j h3 hjk h7
            · obtain rfl : j = k := by omega
              rcases h with h | h
              · exact absurd h h7
              · exact h
          clear hx8 hy8 hnok hpl hsl hslr hbl hbl1
          obtain ⟨be, hbe⟩ : ∃ be, ((S8 (PLs.getD k [])).toList == (S8 x).toList) = be := ⟨_, rfl⟩
          rw [hbe] at HY
          generalize PLs.getD k [] = y at *
          cases be with
          | false =>
            have HN2 := hid (HNX.out (.inr (by have := HY.out; simpa using this)))
            clear HNX HIT HY
            go_wp2_with fail
            refine wp_region_loud (fun _ => False) [] (fun _ => Fact.none) (by kernel_rfl) (by kernel_rfl) .nil good_nothing sat_none (WX.out ?_)
            repeat (first | (refine wx_quietU (by rfl) (by rfl) (by rfl) (fun K hK => ?_); go_big_quiet_op; refine hK _ ?_; clear hK K) | (refine wx_quietG (by rfl) (by rfl) (by rfl) (by rfl) (by rfl) (fun K hK => ?_); go_big_quiet_op; refine hK _ ?_; clear hK K) | (refine wx_skipG (by rfl) (by rfl) (by rfl) (fun K hK => ?_); go_simp; refine hK _ ?_; clear hK K) | (refine wx_skipN (by rfl) (by rfl) (by rfl) (fun K hK => ?_); go_simp; refine hK _ ?_; clear hK K))
            refine wx_nil fun w3 hsat => ?_
            have hb3 := sat_below hsat
            clear hsat z0 z1
            go_wp2_with fail
            go_light
            exact ⟨⟨k + 1, by omega, by omega, by go_num, HN2, hbr.trans (hb3.mono hbr.size)⟩, by simp [intOf]; omega⟩
          | true =>
            by_cases h7 : k = 7
            · have HN2 := hid (HNX.out (.inl h7))
              subst h7
              clear HNX HIT HY
              go_wp2_with fail
              refine wp_region_loud (fun _ => False) [] (fun _ => Fact.none) (by kernel_rfl) (by kernel_rfl) .nil good_nothing sat_none (WX.out ?_)
              repeat (first | (refine wx_quietU (by rfl) (by rfl) (by rfl) (fun K hK => ?_); go_big_quiet_op; refine hK _ ?_; clear hK K) | (refine wx_quietG (by rfl) (by rfl) (by rfl) (by rfl) (by rfl) (fun K hK => ?_); go_big_quiet_op; refine hK _ ?_; clear hK K) | (refine wx_skipG (by rfl) (by rfl) (by rfl) (fun K hK => ?_); go_simp; refine hK _ ?_; clear hK K) | (refine wx_skipN (by rfl) (by rfl) (by rfl) (fun K hK => ?_); go_simp; refine hK _ ?_; clear hK K))
              refine wx_nil fun w3 hsat => ?_
              have hb3 := sat_below hsat
              clear hsat z0 z1
              go_wp2_with fail
              go_light
              exact ⟨⟨7 + 1, by omega, by omega, by go_num, HN2, hbr.trans (hb3.mono hbr.size)⟩, by simp [intOf]⟩
            · have t7 : ((k : Int) != 7) = true := by rw [bne_iff_ne]; omega
              have HPW := hid (HIT.out h7 (by have := HY.out; simpa using this.symm))
              have HQ : Hid (readL x r = if nb = true then some ⟨(k : Int), ln0, 0⟩ else none) := by
                show _ = _
                unfold readL
                rw [if_pos (by rw [HPW.out]; omega), HPW.out]
                have := HNB.out
                by_cases hr : r = [] <;> simp_all
              clear HNX HIT HY h7
              go_wp2_with fail
              refine wp_region_loud (fun _ => False) [] (fun _ => Fact.none) (by kernel_rfl) (by kernel_rfl) .nil good_nothing sat_none (WX.out ?_)
              repeat (first | (refine wx_quietU (by rfl) (by rfl) (by rfl) (fun K hK => ?_); go_big_quiet_op; refine hK _ ?_; clear hK K) | (refine wx_quietG (by rfl) (by rfl) (by rfl) (by rfl) (by rfl) (fun K hK => ?_); go_big_quiet_op; refine hK _ ?_; clear hK K) | (refine wx_skipG (by rfl) (by rfl) (by rfl) (fun K hK => ?_); go_simp; refine hK _ ?_; clear hK K) | (refine wx_skipN (by rfl) (by rfl) (by rfl) (fun K hK => ?_); go_simp; refine hK _ ?_; clear hK K))
              refine wx_nil fun w3 hsat => ?_
              have hb3 := sat_below hsat
              clear hsat z0 z1
              replace hxr := blk_below hxr hb3 (blk_lt hxr)
              replace hbwr := hbwr.trans (hb3.mono hbwr.size)
              clear hb3
              go_wp2_with (refine wpList_store_whole rfl 31 (.tmp 2) (.tmp 63) rfl (cmV ⟨(k : Int), ln0, 0⟩) rfl rfl hxr j6 rfl (cmV_one _) ?_)
              intro wz hgz hgrz
              have hbz := grown1 hbwr hgrz (Nat.le_refl _)
              go_wp2_with fail
              exact ret_row2 (fn := Tryz.f9) (x := .bool nb) (cs := cmV ⟨(k : Int), ln0, 0⟩) rfl rfl rfl hgz Tryz.underlying31 rfl j6 rfl ⟨⟨_, _, rfl, HQ.out.symm⟩, hbz⟩
        · obtain rfl : k = 9 := by omega
          have h0 := pl_no x (fun j h3 h9 h7 => hnok.out j h3 h9 h7)
          clear hnok hpl hsl hx2 hbw2 hbr hlt hk3 hk9 hnb
          have hx0 := hxr
          have hb0 := hbwr
          clear hxr hbwr
          have HPW := hid h0
          clear h0
          have e1 := eqS (S8 x) wCC
          have e2 := eqS (S8 x) wRoll
          have e3 := eqS (S8 x) wSet
          have e4 := eqS (S8 x) wDelete
          rw [bl_S8] at e1 e2 e3 e4
          by_cases h1 : x = wCC
          · have h2 : x ≠ wRoll := by rw [h1]; decide
            rw [decide_eq_true h1] at e1
            rw [decide_eq_false h2] at e2
            rw [decide_eq_false hxs] at e3
            rw [decide_eq_false hxd] at e4
            by_cases hr : ∃ y, r = [y]
            · obtain ⟨y, rfl⟩ := hr
              have HQ : Hid (readL x [y] = countW 7 y 1 65535) := by
                show _ = _
                unfold readL
                rw [if_neg (by rw [HPW.out]; simp), if_pos h1]
              clear h1 h2 hxs hxd
              simp only [wCC, wRoll, wSet, wDelete] at e1 e2 e3 e4
              have hn2 : n = 2 := by have := HN.out; rw [HLL.out] at this; simpa using this.symm
              subst hn2
              obtain ⟨b1, off1, he1, -, p1⟩ := STR_cell hslr (k := 1) (by omega)
              injection he1 with he1
              injection he1 with he1 he2
              subst he1
              subst he2
              rw [HLL.out] at p1
              simp only [List.getD_cons_zero, List.getD_cons_succ] at p1
              have hyl := H31.out y (by rw [HLL.out]; simp)
              have hD := fun w => refDecimal_any (S8 y) w (by rw [S8_size]; omega)
              rw [bl_S8] at hD
              have HCW : Hid (countW 7 y 1 65535 = if SC.decB y = true ∧ 1 ≤ SC.decV y ∧ SC.decV y ≤ 65535 then some ⟨7, ln0, (SC.decV y : Nat)⟩ else none) := rfl
              rw [HCW.out] at HQ
              clear HCW
              have hdl := SC.decV_lt y
              generalize SC.decV y = d at *
              generalize SC.decB y = db at *
              have HD := hid hD
              clear hD hyl
              go_wp2_with fail
              refine (HD.out wr).mono ?_
              rintro e wr ⟨rfl, rfl⟩
              clear HD p0 p1 hbl
              cases db with
              | false =>
                have HP : Hid (readL x [y] = none) := by show _ = _; rw [HQ.out]; simp
                go_wp2_with (refine wpList_store_whole rfl 31 (.tmp 2) (.tmp 84) rfl (cmV ⟨7, ln0, (d : Nat)⟩) rfl rfl hx0 j6 rfl (cmV_one _) ?_)
                intro wz hgz hgrz
                have hbz := grown1 hb0 hgrz (Nat.le_refl _)
                go_wp2_with fail
                exact ret_row2 (fn := Tryz.f9) (x := .bool false) (cs := cmV ⟨7, ln0, (d : Nat)⟩) rfl rfl rfl hgz Tryz.underlying31 rfl j6 rfl ⟨⟨_, _, rfl, HP.out.symm⟩, hbz⟩
              | true =>
                by_cases k1 : 1 ≤ d
                · have t1 : decide ((1 : Int) ≤ (d : Int)) = true := by rw [decide_eq_true_iff]; omega
                  by_cases k2 : d ≤ 65535
                  · have t2 : decide ((d : Int) ≤ 65535) = true := by rw [decide_eq_true_iff]; omega
                    have HP : Hid (readL x [y] = some ⟨7, ln0, (d : Nat)⟩) := by show _ = _; rw [HQ.out, if_pos ⟨rfl, k1, k2⟩]
                    go_wp2_with (refine wpList_store_whole rfl 31 (.tmp 2) (.tmp 84) rfl (cmV ⟨7, ln0, (d : Nat)⟩) rfl rfl hx0 j6 rfl (cmV_one _) ?_)
                    intro wz hgz hgrz
                    have hbz := grown1 hb0 hgrz (Nat.le_refl _)
                    go_wp2_with fail
                    exact ret_row2 (fn := Tryz.f9) (x := .bool true) (cs := cmV ⟨7, ln0, (d : Nat)⟩) rfl rfl rfl hgz Tryz.underlying31 rfl j6 rfl ⟨⟨_, _, rfl, HP.out.symm⟩, hbz⟩
                  · have t2 : decide ((d : Int) ≤ 65535) = false := by rw [decide_eq_false_iff_not]; omega
                    have HP : Hid (readL x [y] = none) := by show _ = _; rw [HQ.out, if_neg (fun h => k2 h.2.2)]
                    go_wp2_with (refine wpList_store_whole rfl 31 (.tmp 2) (.tmp 84) rfl (cmV ⟨7, ln0, (d : Nat)⟩) rfl rfl hx0 j6 rfl (cmV_one _) ?_)
                    intro wz hgz hgrz
                    have hbz := grown1 hb0 hgrz (Nat.le_refl _)
                    go_wp2_with fail
                    exact ret_row2 (fn := Tryz.f9) (x := .bool false) (cs := cmV ⟨7, ln0, (d : Nat)⟩) rfl rfl rfl hgz Tryz.underlying31 rfl j6 rfl ⟨⟨_, _, rfl, HP.out.symm⟩, hbz⟩
                · have t1 : decide ((1 : Int) ≤ (d : Int)) = false := by rw [decide_eq_false_iff_not]; omega
                  have HP : Hid (readL x [y] = none) := by show _ = _; rw [HQ.out, if_neg (fun h => k1 h.2.1)]
                  go_wp2_with (refine wpList_store_whole rfl 31 (.tmp 2) (.tmp 84) rfl (cmV ⟨7, ln0, (d : Nat)⟩) rfl rfl hx0 j6 rfl (cmV_one _) ?_)
                  intro wz hgz hgrz
                  have hbz := grown1 hb0 hgrz (Nat.le_refl _)
                  go_wp2_with fail
                  exact ret_row2 (fn := Tryz.f9) (x := .bool false) (cs := cmV ⟨7, ln0, (d : Nat)⟩) rfl rfl rfl hgz Tryz.underlying31 rfl j6 rfl ⟨⟨_, _, rfl, HP.out.symm⟩, hbz⟩
            · have HQ : Hid (readL x r = none) := by
                show _ = _
                unfold readL
                rw [if_neg (by rw [HPW.out]; simp), if_pos h1]
                split
                · exact absurd ⟨_, rfl⟩ hr
                · rfl
              have t2 : ((n : Int) == 2) = false := by
                rw [beq_eq_false_iff_ne]
                intro e
                have h5 := HN.out
                rw [HLL.out] at h5
                simp at h5
                refine hr ?_
                match r, h5 with
                | [y], _ => exact ⟨y, rfl⟩
                | [], h5 => simp at h5; omega
                | _ :: _ :: _, h5 => simp at h5; omega
              clear hr
              clear h1 h2 hxs hxd
              simp only [wCC, wRoll, wSet, wDelete] at e1 e2 e3 e4
              go_wp2_with (refine wpList_store_whole rfl 31 (.tmp 2) (.tmp 132) rfl (cmV cmd0) rfl rfl hx0 j6 rfl (cmV_one _) ?_)
              intro wz hgz hgrz
              have hbz := grown1 hb0 hgrz (Nat.le_refl _)
              go_wp2_with fail
              exact ret_row2 (fn := Tryz.f9) (x := .bool false) (cs := cmV cmd0) rfl rfl rfl hgz Tryz.underlying31 rfl j6 rfl ⟨⟨_, _, rfl, HQ.out.symm⟩, hbz⟩
          rw [decide_eq_false h1] at e1
          by_cases h2 : x = wRoll
          · rw [decide_eq_true h2] at e2
            rw [decide_eq_false hxs] at e3
            rw [decide_eq_false hxd] at e4
            by_cases hr : ∃ y, r = [y]
            · obtain ⟨y, rfl⟩ := hr
              have HQ : Hid (readL x [y] = countW 9 y 0 5) := by
                show _ = _
                unfold readL
                rw [if_neg (by rw [HPW.out]; simp), if_neg h1, if_pos h2]
              clear h1 h2 hxs hxd
              simp only [wCC, wRoll, wSet, wDelete] at e1 e2 e3 e4
              have hn2 : n = 2 := by have := HN.out; rw [HLL.out] at this; simpa using this.symm
              subst hn2
              obtain ⟨b1, off1, he1, -, p1⟩ := STR_cell hslr (k := 1) (by omega)
              injection he1 with he1
              injection he1 with he1 he2
              subst he1
              subst he2
              rw [HLL.out] at p1
              simp only [List.getD_cons_zero, List.getD_cons_succ] at p1
              have hyl := H31.out y (by rw [HLL.out]; simp)
              have hD := fun w => refDecimal_any (S8 y) w (by rw [S8_size]; omega)
              rw [bl_S8] at hD
              have HCW : Hid (countW 9 y 0 5 = if SC.decB y = true ∧ 0 ≤ SC.decV y ∧ SC.decV y ≤ 5 then some ⟨9, ln0, (SC.decV y : Nat)⟩ else none) := rfl
              rw [HCW.out] at HQ
              clear HCW
              have hdl := SC.decV_lt y
              generalize SC.decV y = d at *
              generalize SC.decB y = db at *
              have HD := hid hD
              clear hD hyl
              go_wp2_with fail
              refine (HD.out wr).mono ?_
              rintro e wr ⟨rfl, rfl⟩
              clear HD p0 p1 hbl
              cases db with
              | false =>
                have HP : Hid (readL x [y] = none) := by show _ = _; rw [HQ.out]; simp
                go_wp2_with (refine wpList_store_whole rfl 31 (.tmp 2) (.tmp 111) rfl (cmV ⟨9, ln0, (d : Nat)⟩) rfl rfl hx0 j6 rfl (cmV_one _) ?_)
                intro wz hgz hgrz
                have hbz := grown1 hb0 hgrz (Nat.le_refl _)
                go_wp2_with fail
                exact ret_row2 (fn := Tryz.f9) (x := .bool false) (cs := cmV ⟨9, ln0, (d : Nat)⟩) rfl rfl rfl hgz Tryz.underlying31 rfl j6 rfl ⟨⟨_, _, rfl, HP.out.symm⟩, hbz⟩
              | true =>
                by_cases k2 : d ≤ 5
                · have t2 : decide ((d : Int) ≤ 5) = true := by rw [decide_eq_true_iff]; omega
                  have HP : Hid (readL x [y] = some ⟨9, ln0, (d : Nat)⟩) := by show _ = _; rw [HQ.out, if_pos ⟨rfl, by omega, k2⟩]
                  go_wp2_with (refine wpList_store_whole rfl 31 (.tmp 2) (.tmp 111) rfl (cmV ⟨9, ln0, (d : Nat)⟩) rfl rfl hx0 j6 rfl (cmV_one _) ?_)
                  intro wz hgz hgrz
                  have hbz := grown1 hb0 hgrz (Nat.le_refl _)
                  go_wp2_with fail
                  exact ret_row2 (fn := Tryz.f9) (x := .bool true) (cs := cmV ⟨9, ln0, (d : Nat)⟩) rfl rfl rfl hgz Tryz.underlying31 rfl j6 rfl ⟨⟨_, _, rfl, HP.out.symm⟩, hbz⟩
                · have t2 : decide ((d : Int) ≤ 5) = false := by rw [decide_eq_false_iff_not]; omega
                  have HP : Hid (readL x [y] = none) := by show _ = _; rw [HQ.out, if_neg (fun h => k2 h.2.2)]
                  go_wp2_with (refine wpList_store_whole rfl 31 (.tmp 2) (.tmp 111) rfl (cmV ⟨9, ln0, (d : Nat)⟩) rfl rfl hx0 j6 rfl (cmV_one _) ?_)
                  intro wz hgz hgrz
                  have hbz := grown1 hb0 hgrz (Nat.le_refl _)
                  go_wp2_with fail
                  exact ret_row2 (fn := Tryz.f9) (x := .bool false) (cs := cmV ⟨9, ln0, (d : Nat)⟩) rfl rfl rfl hgz Tryz.underlying31 rfl j6 rfl ⟨⟨_, _, rfl, HP.out.symm⟩, hbz⟩
            · have HQ : Hid (readL x r = none) := by
                show _ = _
                unfold readL
                rw [if_neg (by rw [HPW.out]; simp), if_neg h1, if_pos h2]
                split
                · exact absurd ⟨_, rfl⟩ hr
                · rfl
              have t2 : ((n : Int) == 2) = false := by
                rw [beq_eq_false_iff_ne]
                intro e
                have h5 := HN.out
                rw [HLL.out] at h5
                simp at h5
                refine hr ?_
                match r, h5 with
                | [y], _ => exact ⟨y, rfl⟩
                | [], h5 => simp at h5; omega
                | _ :: _ :: _, h5 => simp at h5; omega
              clear hr
              clear h1 h2 hxs hxd
              simp only [wCC, wRoll, wSet, wDelete] at e1 e2 e3 e4
              go_wp2_with (refine wpList_store_whole rfl 31 (.tmp 2) (.tmp 132) rfl (cmV cmd0) rfl rfl hx0 j6 rfl (cmV_one _) ?_)
              intro wz hgz hgrz
              have hbz := grown1 hb0 hgrz (Nat.le_refl _)
              go_wp2_with fail
              exact ret_row2 (fn := Tryz.f9) (x := .bool false) (cs := cmV cmd0) rfl rfl rfl hgz Tryz.underlying31 rfl j6 rfl ⟨⟨_, _, rfl, HQ.out.symm⟩, hbz⟩
          rw [decide_eq_false h2] at e2
          rw [decide_eq_false hxs] at e3
          rw [decide_eq_false hxd] at e4
          have HQ : Hid (readL x r = none) := by
            show _ = _
            unfold readL
            rw [if_neg (by rw [HPW.out]; simp), if_neg h1, if_neg h2, if_neg hxs, if_neg hxd]
          clear h1 h2 hxs hxd
          simp only [wCC, wRoll, wSet, wDelete] at e1 e2 e3 e4
          go_wp2_with (refine wpList_store_whole rfl 31 (.tmp 2) (.tmp 132) rfl (cmV cmd0) rfl rfl hx0 j6 rfl (cmV_one _) ?_)
          intro wz hgz hgrz
          have hbz := grown1 hb0 hgrz (Nat.le_refl _)
          go_wp2_with fail
          exact ret_row2 (fn := Tryz.f9) (x := .bool false) (cs := cmV cmd0) rfl rfl rfl hgz Tryz.underlying31 rfl j6 rfl ⟨⟨_, _, rfl, HQ.out.symm⟩, hbz⟩
end Go.Proofs.YtfojgimficdjhaaGreatDoor
