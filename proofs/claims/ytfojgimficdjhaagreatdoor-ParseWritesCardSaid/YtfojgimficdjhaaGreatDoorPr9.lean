/-
  Contract of layer 6's reference: Read, of 'delete'.
-/
import Derived.Test.YtfojgimficdjhaaGreatDoorPr8
namespace Go.Proofs.YtfojgimficdjhaaGreatDoor
set_option linter.unusedVariables false
set_option linter.unusedSimpArgs false
open Go Go.RowKit

theorem namedW_head (L : List (List UInt8)) (l : Ln) (r : List (List UInt8)) (h : namedW L = some (l, r)) : 0 ≤ l.head := by
  match L, h with
  | [], h => unfold namedW at h; injection h with h; injection h with h _; subst h; decide
  | a :: t, h =>
    have ha := headW_eq a
    unfold namedW at h
    simp only at h
    split at h
    · injection h with h; injection h with h _; subst h; decide
    · split at h
      · cases h
      · split at h
        · injection h with h; injection h with h _; subst h; simp only; omega
        · cases h
set_option maxRecDepth 100000 in
set_option maxHeartbeats 6400000 in
theorem refRead_del (s : ByteArray) (w : World) (hs : s.size ≤ 100000) (hen : Env w) (L : List (List UInt8)) (x : List UInt8) (h : List UInt8) (r3 : List (List UInt8)) (k : Nat) (hR : LX.run (bl s) 0 [] = (L, k, 0)) (hL : L = x :: h :: r3) (hG : L.any isSgn = false) (hbs : ((S8 x).toList == wSet) = false) (hbd : ((S8 x).toList == wDelete) = true)
    (hcc : ((S8 x).toList == wCC) = false) (hrl : ((S8 x).toList == wRoll) = false) (HQ : Hid (readL x (h :: r3) = (pathW (h :: r3)).map (fun l => ⟨2, l, 0⟩))) :
    Calls Tryz.prog 9 #[.string s] w fun e w' => CmdPost (readL x (h :: r3)) e ∧ Below w.heap.size w w' := by
  simp only [wCC, wRoll, wSet, wDelete] at hcc hrl hbs hbd
  obtain ⟨r, hrr⟩ : ∃ r, h :: r3 = r := ⟨_, rfl⟩
  rw [hrr] at HQ hL
  rw [hrr]
  have HR0 : Hid (r ≠ []) := by show _ ≠ _; rw [← hrr]; simp
  have HRR := hid hrr
  clear hrr
  have HG := hid hG
  have hL0 : L ≠ [] := by rw [hL]; simp
  have HLL := hid hL
  have HEN := hid hen
  clear hG hL hen
  have hV := refWords_any s
  have h31 := toks31 (bl s)
  generalize LX.run (bl s) 0 [] = R at *
  subst hR
  simp only at hV h31
  have HV := hid (fun w => hV w hs)
  have H31 := hid h31
  clear hV h31
  obtain ⟨hb0, hx0, hl0⟩ := box1 w (.cells #[.int .i64 0, .int .i64 0, .string ⟨#[]⟩, .string ⟨#[]⟩, .string ⟨#[]⟩, .int .i64 0] 31)
  go_enter Tryz.func9, Tryz.ntmps9
  go_upto_region 1 with fail
  generalize w.alloc (.cells #[.int .i64 0, .int .i64 0, .string ⟨#[]⟩, .string ⟨#[]⟩, .string ⟨#[]⟩, .int .i64 0] 31) = w0 at *
  go_wp2_with fail
  refine (HV.out w0).mono ?_
  rintro e w1 ⟨A, c, rfl, ho, hb1⟩
  replace hx0 := blk_below hx0 hb1 hl0
  replace hb0 := hb0.trans (hb1.mono hb0.size)
  have hsl := own_sl ho
  have HFA : Hid (∀ ad, A = some ad → w.heap.size < ad.block) := by
    show ∀ _, _
    intro ad had
    subst had
    have := (ho.lt ad.block rfl).1
    omega
  clear hb1 hl0 HV ho
  have hlen := (sl_lensS hsl).1
  have hne : 0 < L.length := by cases L with
    | nil => exact absurd rfl hL0
    | cons a b => simp
  have t0 : ((L.length : Int) == 0) = false := by rw [beq_eq_false_iff_ne]; omega
  obtain ⟨hcn, hcm⟩ := (sl_lensS hsl).2
  generalize hn : L.length = n at *
  have HN := hid hn
  clear hn hlen
  go_wp2_with fail
  go_loop [7] (fun i => ∃ k : Nat, k ≤ n ∧ i = .int .i64 k) (fun i => n - (intOf i).toNat)
  case atStart => exact ⟨0, Nat.zero_le _, rfl⟩
  case round =>
    obtain ⟨k, hk, rfl⟩ := hrel
    by_cases hlt : k < n
    · obtain ⟨b, off, rfl, hbl, p0⟩ := STR_cell hsl hlt
      have hS := refSign_any (S8 (L.getD k [])) w1
      have hng : isSgn (L.getD k []) = false := by
        have hk2 : k < L.length := by rw [HN.out]; exact hlt
        have h1 := List.any_eq_false.1 HG.out L[k] (List.getElem_mem hk2)
        rw [List.getD_eq_getElem?_getD, List.getElem?_eq_getElem hk2]
        simpa using h1
      rw [bl_S8, hng] at hS
      have HS := hid hS
      clear hS hng
      generalize L.getD k [] = y at *
      go_wp2_with fail
      refine HS.out.mono ?_
      rintro e w1 ⟨rfl, rfl⟩
      go_wp2_with fail
      go_light
      exact ⟨⟨k + 1, by omega, by go_num⟩, by simp [intOf]; omega⟩
    · obtain rfl : n = k := by omega
      clear HG hL0 hlt hk
      go_upto_region 10 with fail
      have hpl : Sl (w1.alloc (.cells #[.string ⟨#[]⟩, .string ⟨#[]⟩, .string ⟨#[]⟩, .string ⟨#[115, 104, 111, 119]⟩, .string ⟨#[99, 111, 109, 112, 97, 114, 101]⟩, .string ⟨#[99, 104, 101, 99, 107]⟩, .string ⟨#[99, 111, 109, 109, 105, 116]⟩, .string ⟨#[]⟩, .string ⟨#[99, 111, 110, 102, 105, 114, 109]⟩] 9)) 1 (.slice (some ⟨w1.heap.size, 0, none⟩) 9 9) (STR PLs) := own_sl (own_made w1 0 9 1 9 _ (STR PLs) (Nat.zero_le _) rfl rfl (by omega) (by omega))
      have hb2 := (Below.refl w1.heap.size w1).alloc (Nat.le_refl _) (.cells #[.string ⟨#[]⟩, .string ⟨#[]⟩, .string ⟨#[]⟩, .string ⟨#[115, 104, 111, 119]⟩, .string ⟨#[99, 111, 109, 112, 97, 114, 101]⟩, .string ⟨#[99, 104, 101, 99, 107]⟩, .string ⟨#[99, 111, 109, 109, 105, 116]⟩, .string ⟨#[]⟩, .string ⟨#[99, 111, 110, 102, 105, 114, 109]⟩] 9)
      replace hsl := hsl.below hb2
      have hx2 := blk_below hx0 hb2 (blk_lt hx0)
      have hbw2 := hb0.trans (hb2.mono hb0.size)
      clear hb2 hx0 hb0
      generalize w1.alloc (.cells #[.string ⟨#[]⟩, .string ⟨#[]⟩, .string ⟨#[]⟩, .string ⟨#[115, 104, 111, 119]⟩, .string ⟨#[99, 111, 109, 112, 97, 114, 101]⟩, .string ⟨#[99, 104, 101, 99, 107]⟩, .string ⟨#[99, 111, 109, 109, 105, 116]⟩, .string ⟨#[]⟩, .string ⟨#[99, 111, 110, 102, 105, 114, 109]⟩] 9) = w2 at *
      obtain ⟨nb, hnb⟩ : ∃ nb, ((n : Int) == 1) = nb := ⟨_, rfl⟩
      have HNB : Hid (r = [] ↔ nb = true) := by
        show _ ↔ _
        rw [← hnb, ← HN.out, HLL.out]
        simp
        exact ⟨fun h => by rw [h]; rfl, fun h => List.eq_nil_of_length_eq_zero (by omega)⟩
      go_wp2_with fail
      go_loopw [9] (fun i wr => ∃ k : Nat, 3 ≤ k ∧ k ≤ 9 ∧ i = .int .i64 k ∧ Hid (∀ j, 3 ≤ j → j < k → j ≠ 7 → PLs.getD j [] ≠ x) ∧ Below w2.heap.size w2 wr) (fun i _ => 9 - (intOf i).toNat)
      case atStart => exact ⟨3, by omega, by omega, rfl, hid (fun j h1 h2 => by omega), Below.refl _ _⟩
      case round =>
        obtain ⟨k, hk3, hk9, rfl, hnok, hbr⟩ := hrel
        have hslr := hsl.below hbr
        have hbwr := hbw2.trans (hbr.mono hbw2.size)
        have hxr := blk_below hx2 hbr (blk_lt hx2)
        obtain ⟨b, off, rfl, hbl, p0⟩ := STR_cell hslr (k := 0) hne
        rw [HLL.out] at p0
        simp only [List.getD_cons_zero, Nat.add_zero] at p0
        by_cases hlt : k < 9
        · obtain ⟨b1, off1, he1, hbl1, p1⟩ := STR_cell (hpl.below hbr) (k := k) hlt
          injection he1 with he1
          injection he1 with he1 he2
          subst he1
          subst he2
          rw [Nat.zero_add] at p1
          have z0 := fun (z : WK (fun _ => False) wr) => (wat_cell (p := ⟨b, off, none⟩) hbl (fun e => e) z).trans p0
          have z1 := fun (z : WK (fun _ => False) wr) => (wat_cell (p := ⟨w1.heap.size, k, none⟩) hbl1 (fun e => e) z).trans p1
          clear p0 p1
          have hx8 : (S8 x).toList = x := Lib.toList_data _
          have hy8 : (S8 (PLs.getD k [])).toList = PLs.getD k [] := Lib.toList_data _
          have HY := hid (show ((S8 (PLs.getD k [])).toList == (S8 x).toList) = decide (PLs.getD k [] = x) by rw [hx8, hy8, Bool.eq_iff_iff]; simp)
          have HIT : Hid (k ≠ 7 → PLs.getD k [] = x → plainW x = (k : Int)) := fun h7 h => pl_hit x k hk3 hlt h7 h
          have HNX : Hid (k = 7 ∨ PLs.getD k [] ≠ x → ∀ j, 3 ≤ j → j < k + 1 → j ≠ 7 → PLs.getD j [] ≠ x) := by
            show _ → _
            intro h j h3 h4 h7
            by_cases hjk : j < k
            · exact hnok.out j h3 hjk h7
            · obtain rfl : j = k := by omega
              rcases h with h | h
              · exact absurd h h7
              · exact h
          clear hx8 hy8 hnok hpl hsl hslr hbl hbl1
          obtain ⟨be, hbe⟩ : ∃ be, ((S8 (PLs.getD k [])).toList == (S8 x).toList) = be := ⟨_, rfl⟩
          rw [hbe] at HY
          generalize PLs.getD k [] = y at *
          cases be with
          | false =>
            have HN2 := hid (HNX.out (.inr (by have := HY.out; simpa using this)))
            clear HNX HIT HY
            go_wp2_with fail
            refine wp_region_loud (fun _ => False) [] (fun _ => Fact.none) (by kernel_rfl) (by kernel_rfl) .nil good_nothing sat_none (WX.out ?_)
            repeat (first | (refine wx_quietU (by rfl) (by rfl) (by rfl) (fun K hK => ?_); go_big_quiet_op; refine hK _ ?_; clear hK K) | (refine wx_quietG (by rfl) (by rfl) (by rfl) (by rfl) (by rfl) (fun K hK => ?_); go_big_quiet_op; refine hK _ ?_; clear hK K) | (refine wx_skipG (by rfl) (by rfl) (by rfl) (fun K hK => ?_); go_simp; refine hK _ ?_; clear hK K) | (refine wx_skipN (by rfl) (by rfl) (by rfl) (fun K hK => ?_); go_simp; refine hK _ ?_; clear hK K))
            refine wx_nil fun w3 hsat => ?_
            have hb3 := sat_below hsat
            clear hsat z0 z1
            go_wp2_with fail
            go_light
            exact ⟨⟨k + 1, by omega, by omega, by go_num, HN2, hbr.trans (hb3.mono hbr.size)⟩, by simp [intOf]; omega⟩
          | true =>
            by_cases h7 : k = 7
            · have HN2 := hid (HNX.out (.inl h7))
              subst h7
              clear HNX HIT HY
              go_wp2_with fail
              refine wp_region_loud (fun _ => False) [] (fun _ => Fact.none) (by kernel_rfl) (by kernel_rfl) .nil good_nothing sat_none (WX.out ?_)
              repeat (first | (refine wx_quietU (by rfl) (by rfl) (by rfl) (fun K hK => ?_); go_big_quiet_op; refine hK _ ?_; clear hK K) | (refine wx_quietG (by rfl) (by rfl) (by rfl) (by rfl) (by rfl) (fun K hK => ?_); go_big_quiet_op; refine hK _ ?_; clear hK K) | (refine wx_skipG (by rfl) (by rfl) (by rfl) (fun K hK => ?_); go_simp; refine hK _ ?_; clear hK K) | (refine wx_skipN (by rfl) (by rfl) (by rfl) (fun K hK => ?_); go_simp; refine hK _ ?_; clear hK K))
              refine wx_nil fun w3 hsat => ?_
              have hb3 := sat_below hsat
              clear hsat z0 z1
              go_wp2_with fail
              go_light
              exact ⟨⟨7 + 1, by omega, by omega, by go_num, HN2, hbr.trans (hb3.mono hbr.size)⟩, by simp [intOf]⟩
            · have t7 : ((k : Int) != 7) = true := by rw [bne_iff_ne]; omega
              have HPW := hid (HIT.out h7 (by have := HY.out; simpa using this.symm))
              have HQ : Hid (readL x r = if nb = true then some ⟨(k : Int), ln0, 0⟩ else none) := by
                show _ = _
                unfold readL
                rw [if_pos (by rw [HPW.out]; omega), HPW.out]
                have := HNB.out
                by_cases hr : r = [] <;> simp_all
              clear HNX HIT HY h7
              go_wp2_with fail
              refine wp_region_loud (fun _ => False) [] (fun _ => Fact.none) (by kernel_rfl) (by kernel_rfl) .nil good_nothing sat_none (WX.out ?_)
              repeat (first | (refine wx_quietU (by rfl) (by rfl) (by rfl) (fun K hK => ?_); go_big_quiet_op; refine hK _ ?_; clear hK K) | (refine wx_quietG (by rfl) (by rfl) (by rfl) (by rfl) (by rfl) (fun K hK => ?_); go_big_quiet_op; refine hK _ ?_; clear hK K) | (refine wx_skipG (by rfl) (by rfl) (by rfl) (fun K hK => ?_); go_simp; refine hK _ ?_; clear hK K) | (refine wx_skipN (by rfl) (by rfl) (by rfl) (fun K hK => ?_); go_simp; refine hK _ ?_; clear hK K))
              refine wx_nil fun w3 hsat => ?_
              have hb3 := sat_below hsat
              clear hsat z0 z1
              replace hxr := blk_below hxr hb3 (blk_lt hxr)
              replace hbwr := hbwr.trans (hb3.mono hbwr.size)
              clear hb3
              go_wp2_with (refine wpList_store_whole rfl 31 (.tmp 2) (.tmp 63) rfl (cmV ⟨(k : Int), ln0, 0⟩) rfl rfl hxr j6 rfl (cmV_one _) ?_)
              intro wz hgz hgrz
              have hbz := grown1 hbwr hgrz (Nat.le_refl _)
              go_wp2_with fail
              exact ret_row2 (fn := Tryz.f9) (x := .bool nb) (cs := cmV ⟨(k : Int), ln0, 0⟩) rfl rfl rfl hgz Tryz.underlying31 rfl j6 rfl ⟨⟨_, _, rfl, HQ.out.symm⟩, hbz⟩
        · obtain rfl : k = 9 := by omega
          have h0 := pl_no x (fun j h3 h9 h7 => hnok.out j h3 h9 h7)
          clear hnok hpl hsl hx2 hbw2 hbr hlt hk3 hk9 hnb
          have hx0 := hxr
          have hb0 := hbwr
          clear hxr hbwr
          have HPW := hid h0
          clear h0
          have hn2 : 2 ≤ n := by
            have := HN.out
            rw [HLL.out] at this
            have h2 := HR0.out
            cases r with
            | nil => exact absurd rfl h2
            | cons a b => simp at this; omega
          have t2 : decide ((n : Int) < 2) = false := by rw [decide_eq_false_iff_not]; omega
          obtain ⟨hb4, hg4, hl4⟩ := box1 wr (.cells (cmV ⟨1, ln0, 0⟩) 31)
          have hgl := blk_lt hx0
          have hgl2 := hb0.size
          have HW4 := hid (And.intro hg4 (And.intro (blk_below hx0 hb4 (blk_lt hx0)) (And.intro (hb0.trans (hb4.mono hb0.size)) (And.intro ((hb4.cell (p := ⟨b, off, none⟩) hbl).trans p0) (hslr.below hb4)))))
          clear hb4 hg4 hx0 hb0
          have hc1 : ¬ c = 1 := by omega
          go_upto_region 23 with fail
          go_upto_region 24 with (refine wpList_store_last rfl 31 (.tmp 14) (.tmp 133) rfl (cmV ⟨1, ln0, 0⟩) rfl rfl j6 rfl (cmV_one _) ?_)
          generalize wr.alloc (.cells (cmV ⟨1, ln0, 0⟩) 31) = w4 at *
          obtain ⟨hg4, hx4, hbw4, q0, hsl4⟩ := HW4.out
          clear HW4 p0 hslr t2 hcc hrl
          obtain rfl := HRR.out
          clear HRR
          have hs5 : Sl w4 1 (.slice (some ⟨b, off + 1, none⟩) (n - 1) (c - 1)) (STR (h :: r3)) := by
            have := sl_dropS hsl4 1 (by omega)
            rw [if_neg hc1, HLL.out] at this
            simpa [addr_add] using this
          have f0 : w4.frozen? ⟨wr.heap.size, 0, none⟩ = false := by simp [World.frozen?, hg4]
          have c0 : w4.cell? ⟨wr.heap.size, 0, none⟩ = some (.int .i64 1) := blkCell hg4 0
          have HG4 := hid hg4
          have HX4 := hid hx4
          have hs4' := hs5
          clear hg4 hx4 hsl4 HNB HR0 hs5
          go_upto_region 27 with fail
          have hke := Kept.setCell (S := fun g => g = wr.heap.size) (Kept.refl _ w4) (p := ⟨wr.heap.size, 0, none⟩) (.inl rfl) (.int .i64 2)
          have HW5 := hid (And.intro (show (w4.setCell ⟨wr.heap.size, 0, none⟩ (.int .i64 2)).heap[wr.heap.size]? = some (.cells (cmV ⟨2, ln0, 0⟩) 31 (0, 0)) from blk_set HG4.out 0 (.int .i64 2)) (And.intro (blk_set_far HX4.out (p := ⟨wr.heap.size, 0, none⟩) (by show w.heap.size ≠ wr.heap.size; omega) (.int .i64 2))
            (And.intro (hbw4.setCell (p := ⟨wr.heap.size, 0, none⟩) hgl2 (.int .i64 2)) (And.intro (show (w4.setCell ⟨wr.heap.size, 0, none⟩ (.int .i64 2)).heap.size = w4.heap.size by simp [World.setCell]) (sl_kept hs4' hke (fun ad had e => by injection had with had; subst had; have e2 : b = wr.heap.size := e; omega))))))
          clear hke hs4' hbw4 f0 c0 HG4 HX4
          generalize w4.setCell ⟨wr.heap.size, 0, none⟩ (.int .i64 2) = w5 at *
          obtain ⟨hg5, hx5, hbw5, hs45, hs5⟩ := HW5.out
          have HG5 := hid hg5
          have HX5 := hid hx5
          have hl5 : wr.heap.size < w5.heap.size := by omega
          clear HW5 q0 hg5 hx5 hs45 hl4
          have hbg : w.heap.size < b := HFA.out _ rfl
          clear HFA
          have hn1 : 1 ≤ n - 1 := by omega
          have hnc1 : n - 1 ≤ c - 1 := by omega
          have hcm1 : c - 1 ≤ 9223372036854775807 := by omega
          generalize n - 1 = n1 at *
          generalize c - 1 = c1 at *
          generalize off + 1 = o1 at *
          have hH := fun w => refHead_any (S8 h) w
          rw [bl_S8] at hH
          obtain ⟨h9, hh9⟩ : ∃ h9, headW h = h9 := ⟨_, rfl⟩
          rw [hh9] at hH
          have HH := hid hH
          have HH9 := hid hh9
          clear hH hh9
          obtain ⟨b1, off1, he1, hbl5, p5⟩ := STR_cell hs5 (k := 0) (by omega)
          injection he1 with he1
          injection he1 with he1 he2
          subst he1
          subst he2
          simp only [List.getD_cons_zero, Nat.add_zero] at p5
          -- w5: HG5, HX5 (hidden), hbw5, hs5 : the rest of the words
          go_upto_if 146 with fail
          refine (HH.out w5).mono ?_
          rintro e w5 ⟨rfl, rfl⟩
          go_upto_if 146 with fail
          go_cut [15] (fun v wx => MidR (h :: r3) w wr.heap.size w5.heap.size 2 v wx)
          case first =>
            by_cases h0 : h9 = 0
            · have HM0 := hid (namedW_top h r3 (HH9.out.trans h0))
              subst h0
              go_wp2_with fail
              go_meet
              all_goals go_light
              exact ⟨ln0, h :: r3, _, _, _, rfl, HM0.out, hs5, fun _ ad had => by injection had with had; subst had; exact ⟨by show b ≠ _; omega, by show b ≠ _; omega⟩, HG5.out, HX5.out, hbw5, Nat.le_refl _⟩
            · have hpos : 0 < h9 := by have := headW_eq h; have := HH9.out; omega
              have hhd : headW h ≠ 0 := fun e => h0 (HH9.out.symm.trans e)
              cases r3 with
              | nil =>
                have hn1 : n1 = 1 := by have := (sl_lensS hs5).1; simpa using this.symm
                subst hn1
                have HQ2 : Hid (readL x [h] = none) := by show _ = _; rw [HQ.out, pathW_none _ (namedW_short h hhd)]; rfl
                clear h0 hhd
                have hx0 := HX5.out
                have hb0 := hbw5
                go_wp2_with (refine wpList_store_whole rfl 31 (.tmp 2) (.tmp 150) rfl (cmV cmd0) rfl rfl hx0 j6 rfl (cmV_one _) ?_)
                intro wz hgz hgrz
                have hbz := grown1 hb0 hgrz (Nat.le_refl _)
                go_wp2_with fail
                exact ret_row2 (fn := Tryz.f9) (x := .bool false) (cs := cmV cmd0) rfl rfl rfl hgz Tryz.underlying31 rfl j6 rfl ⟨⟨_, _, rfl, HQ2.out.symm⟩, hbz⟩
              | cons nm r2 =>
                have HM2 := hid (namedW_two h nm r2 hhd)
                have hn1 : 2 ≤ n1 := by have := (sl_lensS hs5).1; simp at this; omega
                have t7 : decide ((n1 : Int) < 2) = false := by rw [decide_eq_false_iff_not]; omega
                obtain ⟨hnc1, hcm1⟩ := (sl_lensS hs5).2
                obtain ⟨b1, off1, he1, hbl5, p1⟩ := STR_cell hs5 (k := 1) (by omega)
                injection he1 with he1
                injection he1 with he1 he2
                subst he1
                subst he2
                simp only [List.getD_cons_zero, List.getD_cons_succ] at p1
                have hd2 := sl_dropS hs5 2 hn1
                have hnml := H31.out nm (by rw [HLL.out]; simp)
                have hc2 : 2 ≤ c1 := by omega
                clear h0 hhd
                have y1 := fun (z : WK (fun g => g = wr.heap.size) w5) => (wat_cell (p := ⟨b, o1 + 1, none⟩) hbl5 (fun e => by have e2 : b = wr.heap.size := e; omega) z).trans p1
                clear p1 p5
                by_cases hcc : c1 = 2
                · obtain rfl : n1 = 2 := by omega
                  subst hcc
                  simp only [if_true, Nat.sub_self] at hd2
                  have HD2 := hid hd2
                  clear hd2
                  go_wp2_with fail
                  refine wp_region_loud (fun g => g = wr.heap.size) [(8, keepL [100] (BlkF wr.heap.size 31 (cmV ⟨2, ⟨h9, [], [], []⟩, 0⟩))), (11, keepL [8] (BlkF wr.heap.size 31 (cmV ⟨2, ⟨h9, nm, [], []⟩, 0⟩)))] (labelled 100 (BlkF wr.heap.size 31 (cmV ⟨2, ln0, 0⟩))) (by kernel_rfl) (by kernel_rfl)
                    (.cons (keepL_ok _ (good_blk _ _ _)) (.cons (keepL_ok _ (good_blk _ _ _)) .nil)) (good_one 100 (good_blk _ _ _)) (sat_one 100 _ (fun g hg => by have e2 : g = wr.heap.size := hg; have := blk_lt HG5.out; omega) ⟨rfl, HG5.out⟩) (WX.out ?_)
                  repeat (first | (refine wx_quietU (by rfl) (by rfl) (by rfl) (fun K hK => ?_); go_big_quiet_op; refine hK _ ?_; clear hK K) | (refine wx_quietG (by rfl) (by rfl) (by rfl) (by rfl) (by rfl) (fun K hK => ?_); go_big_quiet_op; refine hK _ ?_; clear hK K) | (refine wx_skipG (by rfl) (by rfl) (by rfl) (fun K hK => ?_); go_simp; refine hK _ ?_; clear hK K) | (refine wx_skipN (by rfl) (by rfl) (by rfl) (fun K hK => ?_); go_simp; refine hK _ ?_; clear hK K))
                  refine wx_loudU (us := [100]) (by rfl) (by rfl) (fun S wS hC hS hU => ?_) (fun v hv K hK => ?_)
                  · have hB : BlkF wr.heap.size 31 (cmV ⟨2, ln0, 0⟩) S wS := hU 100 (by simp)
                    obtain ⟨hc, hf⟩ := blkF_cells hB
                    exact runs_skip (by go_simp <;> rfl) ⟨trivial, (blkF_set (i := 1) hB (.int .i64 h9)).1, (blkF_set (i := 1) hB (.int .i64 h9)).2⟩
                  (go_simp; refine hK _ ?_; clear hK K)
                  repeat (first | (refine wx_quietU (by rfl) (by rfl) (by rfl) (fun K hK => ?_); go_big_quiet_op; refine hK _ ?_; clear hK K) | (refine wx_quietG (by rfl) (by rfl) (by rfl) (by rfl) (by rfl) (fun K hK => ?_); go_big_quiet_op; refine hK _ ?_; clear hK K) | (refine wx_skipG (by rfl) (by rfl) (by rfl) (fun K hK => ?_); go_simp; refine hK _ ?_; clear hK K) | (refine wx_skipN (by rfl) (by rfl) (by rfl) (fun K hK => ?_); go_simp; refine hK _ ?_; clear hK K))
                  refine wx_loudU (us := [8]) (by rfl) (by rfl) (fun S wS hC hS hU => ?_) (fun v hv K hK => ?_)
                  · have hB : BlkF wr.heap.size 31 (cmV ⟨2, ⟨h9, [], [], []⟩, 0⟩) S wS := hU 8 (by simp)
                    obtain ⟨hc, hf⟩ := blkF_cells hB
                    exact runs_skip (by go_simp <;> rfl) ⟨trivial, (blkF_set (i := 2) hB (.string (S8 nm))).1, (blkF_set (i := 2) hB (.string (S8 nm))).2⟩
                  (go_simp; refine hK _ ?_; clear hK K)
                  repeat (first | (refine wx_quietU (by rfl) (by rfl) (by rfl) (fun K hK => ?_); go_big_quiet_op; refine hK _ ?_; clear hK K) | (refine wx_quietG (by rfl) (by rfl) (by rfl) (by rfl) (by rfl) (fun K hK => ?_); go_big_quiet_op; refine hK _ ?_; clear hK K) | (refine wx_skipG (by rfl) (by rfl) (by rfl) (fun K hK => ?_); go_simp; refine hK _ ?_; clear hK K) | (refine wx_skipN (by rfl) (by rfl) (by rfl) (fun K hK => ?_); go_simp; refine hK _ ?_; clear hK K))
                  refine wx_nil fun w6 hsat => ?_
                  obtain ⟨S9, hS9, hF9⟩ := sat_get hsat 11
                  have hg6 := (show BlkF wr.heap.size 31 (cmV ⟨2, ⟨h9, nm, [], []⟩, 0⟩) S9 w6 from hF9).2
                  have hx6 := (hsat.1.block w.heap.size (blk_lt HX5.out) (fun e => by have e2 : w.heap.size = wr.heap.size := e; omega)).trans HX5.out
                  have hbw6 := hbw5.trans (hsat.1.below_of (B := w.heap.size) hbw5.size (fun g hg => by have e2 : g = wr.heap.size := hg; omega))
                  have hs6 := hsat.1.size
                  have hd6 := sl_kept HD2.out hsat.1 (fun ad had e => by injection had with had; subst had; have e2 : b = wr.heap.size := e; omega)
                  clear hsat hF9 hS9 y1 HD2
                  have c1' : w6.cell? ⟨wr.heap.size, 1, none⟩ = some (.int .i64 h9) := blkCell hg6 1
                  have c2' : w6.cell? ⟨wr.heap.size, 2, none⟩ = some (.string (S8 nm)) := blkCell hg6 2
                  have HNMD := hid (refNamed_any h9 (S8 nm) w6 (by rw [S8_size]; omega))
                  have HG6 := hid hg6
                  have HX6 := hid hx6
                  have HD6 := hid hd6
                  clear hg6 hx6 hd6 HG5 HX5 hs5
                  go_wp2_with fail
                  refine HNMD.out.mono ?_
                  rintro e w7 ⟨rfl, hb7⟩
                  rw [bl_S8]
                  clear c1' c2' HNMD
                  have HM3 : Hid (namedW (h :: nm :: r2) = if namedR h9 nm = true then some (⟨h9, nm, [], []⟩, r2) else none) := by show _ = _; rw [HM2.out, HH9.out]
                  clear HM2
                  have hx7 := blk_below HX6.out hb7 (blk_lt HX6.out)
                  have hbw7 := hbw6.trans (hb7.mono hbw6.size)
                  cases hnr : namedR h9 nm with
                  | false =>
                    rw [hnr] at HM3
                    have HQ2 : Hid (readL x (h :: nm :: r2) = none) := by show _ = _; rw [HQ.out, pathW_none _ (by rw [HM3.out]; rfl)]; rfl
                    clear HM3
                    have hx0 := hx7
                    have hb0 := hbw7
                    clear hx7 hbw7
                    go_wp2_with (refine wpList_store_whole rfl 31 (.tmp 2) (.tmp 167) rfl (cmV cmd0) rfl rfl hx0 j6 rfl (cmV_one _) ?_)
                    intro wz hgz hgrz
                    have hbz := grown1 hb0 hgrz (Nat.le_refl _)
                    go_wp2_with fail
                    exact ret_row2 (fn := Tryz.f9) (x := .bool false) (cs := cmV cmd0) rfl rfl rfl hgz Tryz.underlying31 rfl j6 rfl ⟨⟨_, _, rfl, HQ2.out.symm⟩, hbz⟩
                  | true =>
                    rw [hnr, if_pos rfl] at HM3
                    have HG7 := hid (blk_below HG6.out hb7 (blk_lt HG6.out))
                    have HX7 := hid hx7
                    have HD7 := hid (HD6.out.below hb7)
                    have hs7 := hb7.size
                    clear hx7 HG6 HX6 HD6 hb7
                    go_wp2_with fail
                    go_meet
                    all_goals go_light
                    exact ⟨_, r2, _, _, _, rfl, HM3.out, HD7.out, fun _ ad had => by injection had with had; subst had; exact ⟨by show b ≠ _; omega, by show b ≠ _; omega⟩, HG7.out, HX7.out, hbw7, by omega⟩
                · rw [if_neg hcc] at hd2
                  simp only [Option.map_some, addr_add] at hd2
                  have HD2 := hid hd2
                  clear hd2
                  go_wp2_with fail
                  refine wp_region_loud (fun g => g = wr.heap.size) [(8, keepL [100] (BlkF wr.heap.size 31 (cmV ⟨2, ⟨h9, [], [], []⟩, 0⟩))), (11, keepL [8] (BlkF wr.heap.size 31 (cmV ⟨2, ⟨h9, nm, [], []⟩, 0⟩)))] (labelled 100 (BlkF wr.heap.size 31 (cmV ⟨2, ln0, 0⟩))) (by kernel_rfl) (by kernel_rfl)
                    (.cons (keepL_ok _ (good_blk _ _ _)) (.cons (keepL_ok _ (good_blk _ _ _)) .nil)) (good_one 100 (good_blk _ _ _)) (sat_one 100 _ (fun g hg => by have e2 : g = wr.heap.size := hg; have := blk_lt HG5.out; omega) ⟨rfl, HG5.out⟩) (WX.out ?_)
                  repeat (first | (refine wx_quietU (by rfl) (by rfl) (by rfl) (fun K hK => ?_); go_big_quiet_op; refine hK _ ?_; clear hK K) | (refine wx_quietG (by rfl) (by rfl) (by rfl) (by rfl) (by rfl) (fun K hK => ?_); go_big_quiet_op; refine hK _ ?_; clear hK K) | (refine wx_skipG (by rfl) (by rfl) (by rfl) (fun K hK => ?_); go_simp; refine hK _ ?_; clear hK K) | (refine wx_skipN (by rfl) (by rfl) (by rfl) (fun K hK => ?_); go_simp; refine hK _ ?_; clear hK K))
                  refine wx_loudU (us := [100]) (by rfl) (by rfl) (fun S wS hC hS hU => ?_) (fun v hv K hK => ?_)
                  · have hB : BlkF wr.heap.size 31 (cmV ⟨2, ln0, 0⟩) S wS := hU 100 (by simp)
                    obtain ⟨hc, hf⟩ := blkF_cells hB
                    exact runs_skip (by go_simp <;> rfl) ⟨trivial, (blkF_set (i := 1) hB (.int .i64 h9)).1, (blkF_set (i := 1) hB (.int .i64 h9)).2⟩
                  (go_simp; refine hK _ ?_; clear hK K)
                  repeat (first | (refine wx_quietU (by rfl) (by rfl) (by rfl) (fun K hK => ?_); go_big_quiet_op; refine hK _ ?_; clear hK K) | (refine wx_quietG (by rfl) (by rfl) (by rfl) (by rfl) (by rfl) (fun K hK => ?_); go_big_quiet_op; refine hK _ ?_; clear hK K) | (refine wx_skipG (by rfl) (by rfl) (by rfl) (fun K hK => ?_); go_simp; refine hK _ ?_; clear hK K) | (refine wx_skipN (by rfl) (by rfl) (by rfl) (fun K hK => ?_); go_simp; refine hK _ ?_; clear hK K))
                  refine wx_loudU (us := [8]) (by rfl) (by rfl) (fun S wS hC hS hU => ?_) (fun v hv K hK => ?_)
                  · have hB : BlkF wr.heap.size 31 (cmV ⟨2, ⟨h9, [], [], []⟩, 0⟩) S wS := hU 8 (by simp)
                    obtain ⟨hc, hf⟩ := blkF_cells hB
                    exact runs_skip (by go_simp <;> rfl) ⟨trivial, (blkF_set (i := 2) hB (.string (S8 nm))).1, (blkF_set (i := 2) hB (.string (S8 nm))).2⟩
                  (go_simp; refine hK _ ?_; clear hK K)
                  repeat (first | (refine wx_quietU (by rfl) (by rfl) (by rfl) (fun K hK => ?_); go_big_quiet_op; refine hK _ ?_; clear hK K) | (refine wx_quietG (by rfl) (by rfl) (by rfl) (by rfl) (by rfl) (fun K hK => ?_); go_big_quiet_op; refine hK _ ?_; clear hK K) | (refine wx_skipG (by rfl) (by rfl) (by rfl) (fun K hK => ?_); go_simp; refine hK _ ?_; clear hK K) | (refine wx_skipN (by rfl) (by rfl) (by rfl) (fun K hK => ?_); go_simp; refine hK _ ?_; clear hK K))
                  refine wx_nil fun w6 hsat => ?_
                  obtain ⟨S9, hS9, hF9⟩ := sat_get hsat 11
                  have hg6 := (show BlkF wr.heap.size 31 (cmV ⟨2, ⟨h9, nm, [], []⟩, 0⟩) S9 w6 from hF9).2
                  have hx6 := (hsat.1.block w.heap.size (blk_lt HX5.out) (fun e => by have e2 : w.heap.size = wr.heap.size := e; omega)).trans HX5.out
                  have hbw6 := hbw5.trans (hsat.1.below_of (B := w.heap.size) hbw5.size (fun g hg => by have e2 : g = wr.heap.size := hg; omega))
                  have hs6 := hsat.1.size
                  have hd6 := sl_kept HD2.out hsat.1 (fun ad had e => by injection had with had; subst had; have e2 : b = wr.heap.size := e; omega)
                  clear hsat hF9 hS9 y1 HD2
                  have c1' : w6.cell? ⟨wr.heap.size, 1, none⟩ = some (.int .i64 h9) := blkCell hg6 1
                  have c2' : w6.cell? ⟨wr.heap.size, 2, none⟩ = some (.string (S8 nm)) := blkCell hg6 2
                  have HNMD := hid (refNamed_any h9 (S8 nm) w6 (by rw [S8_size]; omega))
                  have HG6 := hid hg6
                  have HX6 := hid hx6
                  have HD6 := hid hd6
                  clear hg6 hx6 hd6 HG5 HX5 hs5
                  go_wp2_with fail
                  refine HNMD.out.mono ?_
                  rintro e w7 ⟨rfl, hb7⟩
                  rw [bl_S8]
                  clear c1' c2' HNMD
                  have HM3 : Hid (namedW (h :: nm :: r2) = if namedR h9 nm = true then some (⟨h9, nm, [], []⟩, r2) else none) := by show _ = _; rw [HM2.out, HH9.out]
                  clear HM2
                  have hx7 := blk_below HX6.out hb7 (blk_lt HX6.out)
                  have hbw7 := hbw6.trans (hb7.mono hbw6.size)
                  cases hnr : namedR h9 nm with
                  | false =>
                    rw [hnr] at HM3
                    have HQ2 : Hid (readL x (h :: nm :: r2) = none) := by show _ = _; rw [HQ.out, pathW_none _ (by rw [HM3.out]; rfl)]; rfl
                    clear HM3
                    have hx0 := hx7
                    have hb0 := hbw7
                    clear hx7 hbw7
                    go_wp2_with (refine wpList_store_whole rfl 31 (.tmp 2) (.tmp 167) rfl (cmV cmd0) rfl rfl hx0 j6 rfl (cmV_one _) ?_)
                    intro wz hgz hgrz
                    have hbz := grown1 hb0 hgrz (Nat.le_refl _)
                    go_wp2_with fail
                    exact ret_row2 (fn := Tryz.f9) (x := .bool false) (cs := cmV cmd0) rfl rfl rfl hgz Tryz.underlying31 rfl j6 rfl ⟨⟨_, _, rfl, HQ2.out.symm⟩, hbz⟩
                  | true =>
                    rw [hnr, if_pos rfl] at HM3
                    have HG7 := hid (blk_below HG6.out hb7 (blk_lt HG6.out))
                    have HX7 := hid hx7
                    have HD7 := hid (HD6.out.below hb7)
                    have hs7 := hb7.size
                    clear hx7 HG6 HX6 HD6 hb7
                    go_wp2_with fail
                    go_meet
                    all_goals go_light
                    exact ⟨_, r2, _, _, _, rfl, HM3.out, HD7.out, fun _ ad had => by injection had with had; subst had; exact ⟨by show b ≠ _; omega, by show b ≠ _; omega⟩, HG7.out, HX7.out, hbw7, by omega⟩
          case rest =>
            obtain ⟨l, rest, A6, n6, c6, rfl, hnw, hs6, hA6, hg6, hx6, hbw6, hs56⟩ := hcut
            have hbare := namedW_bare _ l rest hnw
            have hnonneg := namedW_head _ l rest hnw
            have HNW := hid hnw
            clear hnw HG5 HX5 hbw5 hs5 hbl5 p5 HH HH9 hA6
            obtain ⟨w6, rfl⟩ : ∃ w6 : World, w6 = wc := ⟨_, rfl⟩
            have hl6 := (sl_lensS hs6).1
            obtain ⟨hnc6, hcm6⟩ := (sl_lensS hs6).2
            obtain ⟨head, name, lf0, vl0⟩ := l
            obtain ⟨e1, e2⟩ := hbare
            simp only at e1 e2 hnonneg
            subst e1
            subst e2
            have c0 : w6.cell? ⟨wr.heap.size, 0, none⟩ = some (.int .i64 2) := blkCell hg6 0
            have c1h : w6.cell? ⟨wr.heap.size, 1, none⟩ = some (.int .i64 head) := blkCell hg6 1
            have HG6 := hid hg6
            have HX6 := hid hx6
            clear hg6 hx6
            by_cases h2 : 2 ≤ rest.length
            · have HQ2 : Hid (readL x (h :: r3) = none) := by show _ = _; rw [HQ.out, pathW_more _ _ rest HNW.out h2]; rfl
              have t0' : ((n6 : Int) == 0) = false := by rw [beq_eq_false_iff_ne]; omega
              have t1' : ((n6 : Int) != 1) = true := by rw [bne_iff_ne]; omega
              have hx0 := HX6.out
              have hb0 := hbw6
              clear HX6 h2 hl6 HNW HQ
              go_upto_region 37 with fail
              go_wp2_with (refine wpList_store_whole rfl 31 (.tmp 2) (.tmp 201) rfl (cmV cmd0) rfl rfl hx0 j6 rfl (cmV_one _) ?_)
              intro wz hgz hgrz
              have hbz := grown1 hb0 hgrz (Nat.le_refl _)
              go_wp2_with fail
              exact ret_row2 (fn := Tryz.f9) (x := .bool false) (cs := cmV cmd0) rfl rfl rfl hgz Tryz.underlying31 rfl j6 rfl ⟨⟨_, _, rfl, HQ2.out.symm⟩, hbz⟩
            by_cases h0 : rest.length = 0
            · obtain rfl : rest = [] := List.eq_nil_of_length_eq_zero h0
              obtain rfl : n6 = 0 := by simpa using hl6.symm
              by_cases hh : head = 0
              · subst hh
                have HQ2 : Hid (readL x (h :: r3) = none) := by show _ = _; rw [HQ.out, pathW_zero _ _ HNW.out]; rfl
                have hx0 := HX6.out
                have hb0 := hbw6
                clear HX6 h2 hl6 HNW HQ h0
                go_upto_region 37 with fail
                go_wp2_with (refine wpList_store_whole rfl 31 (.tmp 2) (.tmp 201) rfl (cmV cmd0) rfl rfl hx0 j6 rfl (cmV_one _) ?_)
                intro wz hgz hgrz
                have hbz := grown1 hb0 hgrz (Nat.le_refl _)
                go_wp2_with fail
                exact ret_row2 (fn := Tryz.f9) (x := .bool false) (cs := cmV cmd0) rfl rfl rfl hgz Tryz.underlying31 rfl j6 rfl ⟨⟨_, _, rfl, HQ2.out.symm⟩, hbz⟩
              · have HQ2 : Hid (readL x (h :: r3) = some ⟨2, ⟨head, name, [], []⟩, 0⟩) := by
                  show _ = _
                  rw [HQ.out, pathW_zero _ _ HNW.out, if_neg hh]
                  rfl
                have hpos' : 0 < head := by omega
                have hg6 := HG6.out
                have hx6 := HX6.out
                clear HX6 HG6 h2 hl6 HNW HQ h0 hh
                have HG6 := hid hg6
                have HX6 := hid hx6
                clear hg6 hx6
                go_upto_region 35 with fail
                have hg6 := HG6.out
                have hx6 := HX6.out
                go_wp2_with (first | refine wpList_load_row rfl 31 (.tmp 14) rfl wr.heap.size rfl 31 (cmV ⟨2, ⟨head, name, [], []⟩, 0⟩) (0, 0) _ hg6 Tryz.underlying31 rfl j6 ?_ | refine wpList_store_whole rfl 31 (.tmp 2) (.tmp 182) rfl (cmV ⟨2, ⟨head, name, [], []⟩, 0⟩) rfl rfl hx6 j6 rfl (cmV_one _) ?_)
                intro wz hgz hgrz
                have hbz := grown1 hbw6 hgrz (Nat.le_refl _)
                clear hg6 hx6
                go_wp2_with fail
                exact ret_row2 (fn := Tryz.f9) (x := .bool true) (cs := cmV ⟨2, ⟨head, name, [], []⟩, 0⟩) rfl rfl rfl hgz Tryz.underlying31 rfl j6 rfl ⟨⟨_, _, rfl, HQ2.out.symm⟩, hbz⟩
            obtain ⟨leaf, rfl⟩ : ∃ a, rest = [a] := by
              match rest, h2, h0 with
              | [a], _, _ => exact ⟨a, rfl⟩
              | [], _, h0 => exact absurd rfl h0
              | _ :: _ :: _, h2, _ => exact absurd (by simp) h2
            obtain rfl : n6 = 1 := by simpa using hl6.symm
            have HQ2 : Hid (readL x (h :: r3) = if (findR head leaf).2 = true then some ⟨2, ⟨head, name, leaf, []⟩, 0⟩ else none) := by
              show _ = _
              rw [HQ.out, pathW_one _ _ leaf HNW.out]
              simp only
              cases (findR head leaf).2 <;> rfl
            obtain ⟨b6, o6, rfl, hbl6, p0⟩ := STR_cell hs6 (k := 0) (by omega)
            simp only [List.getD_cons_zero, Nat.add_zero] at p0
            clear HQ HNW hl6 h2 h0 hs6 hnonneg
            have f3 : w6.frozen? ⟨wr.heap.size, 3, none⟩ = false := by have := HG6.out; simp [World.frozen?, this]
            have c3 : w6.cell? ⟨wr.heap.size, 3, none⟩ = some (.string ⟨#[]⟩) := blkCell HG6.out 3
            go_upto_region 39 with fail
            have HW7 := hid (And.intro (blk_set HG6.out 3 (.string (S8 leaf))) (And.intro (blk_set_far HX6.out (p := ⟨wr.heap.size, 3, none⟩) (by show w.heap.size ≠ wr.heap.size; omega) (.string (S8 leaf))) (And.intro (hbw6.setCell (p := ⟨wr.heap.size, 3, none⟩) hgl2 (.string (S8 leaf))) (show (w6.setCell ⟨wr.heap.size, 3, none⟩ (.string (S8 leaf))).heap.size = w6.heap.size by simp [World.setCell]))))
            generalize w6.setCell ⟨wr.heap.size, 3, none⟩ (.string (S8 leaf)) = w7 at *
            obtain ⟨hg7, hx7, hbw7, hs7⟩ := HW7.out
            clear HW7 HG6 HX6 p0 f3 c3 c0 c1h hbw6
            have hg7' : w7.heap[wr.heap.size]? = some (.cells (cmV ⟨2, ⟨head, name, leaf, []⟩, 0⟩) 31 (0, 0)) := hg7
            clear hg7
            have c1 : w7.cell? ⟨wr.heap.size, 1, none⟩ = some (.int .i64 head) := blkCell hg7' 1
            have c3 : w7.cell? ⟨wr.heap.size, 3, none⟩ = some (.string (S8 leaf)) := blkCell hg7' 3
            have hl7 : wr.heap.size < w7.heap.size := by omega
            have hl70 : w.heap.size < w7.heap.size := by omega
            clear hs7
            have hF := refFind_new head (S8 leaf) w7
            rw [bl_S8] at hF
            generalize findR head leaf = FR at *
            obtain ⟨row, fb⟩ := FR
            simp only at hF HQ2
            have HF := hid hF
            have HG7 := hid hg7'
            have HX7 := hid hx7
            clear hF hg7' hx7
            go_wp2_with fail
            refine HF.out.mono ?_
            rintro e w8 ⟨Aq, rfl, hb8, -, -⟩
            clear HF c1 c3
            have hg8 := blk_below HG7.out hb8 hl7
            have hx8 := blk_below HX7.out hb8 hl70
            have hbw8 := hbw7.trans (hb8.mono hbw7.size)
            have hs78 := hb8.size
            clear HG7 HX7 hbw7 hb8
            have hi8 : (Tryz.prog.info? 88).map (·.size) = some (rwV row Aq).size := j8
            obtain ⟨hb9, hr9, hl9⟩ := box1 w8 (.cells (rwV row Aq) 88)
            have HW9 := hid (And.intro (blk_below hg8 hb9 (by omega)) (And.intro (blk_below hx8 hb9 (by omega)) (hbw8.trans (hb9.mono hbw8.size))))
            clear hg8 hx8 hbw8 hr9 hb9
            go_upto_region 40 with (refine wpList_store_last rfl 88 (.tmp 17) (.tmp 215) rfl (rwV row Aq) rfl rfl hi8 rfl (rwV_one _ _) ?_)
            generalize w8.alloc (.cells (rwV row Aq) 88) = w9 at *
            obtain ⟨hg9, hx9, hbw9⟩ := HW9.out
            clear HW9
            cases fb with
            | false =>
              have HQ3 : Hid (readL x (h :: r3) = none) := by show _ = _; rw [HQ2.out]; rfl
              have hx0 := hx9
              have hb0 := hbw9
              clear hg9 hx9 hbw9 HQ2
              go_upto_region 41 with fail
              go_wp2_with (refine wpList_store_whole rfl 31 (.tmp 2) (.tmp 219) rfl (cmV cmd0) rfl rfl hx0 j6 rfl (cmV_one _) ?_)
              intro wz hgz hgrz
              have hbz := grown1 hb0 hgrz (Nat.le_refl _)
              go_wp2_with fail
              exact ret_row2 (fn := Tryz.f9) (x := .bool false) (cs := cmV cmd0) rfl rfl rfl hgz Tryz.underlying31 rfl j6 rfl ⟨⟨_, _, rfl, HQ3.out.symm⟩, hbz⟩
            | true =>
              have c0 : w9.cell? ⟨wr.heap.size, 0, none⟩ = some (.int .i64 2) := blkCell hg9 0
              have HQ3 : Hid (readL x (h :: r3) = some ⟨2, ⟨head, name, leaf, []⟩, 0⟩) := by show _ = _; rw [HQ2.out]; rfl
              have HG9 := hid hg9
              have HX9 := hid hx9
              clear hg9 hx9 HQ2
              go_upto_region 45 with fail
              have hg9 := HG9.out
              have hx9 := HX9.out
              clear c0
              go_wp2_with (first | refine wpList_load_row rfl 31 (.tmp 14) rfl wr.heap.size rfl 31 (cmV ⟨2, ⟨head, name, leaf, []⟩, 0⟩) (0, 0) _ hg9 Tryz.underlying31 rfl j6 ?_ | refine wpList_store_whole rfl 31 (.tmp 2) (.tmp 234) rfl (cmV ⟨2, ⟨head, name, leaf, []⟩, 0⟩) rfl rfl hx9 j6 rfl (cmV_one _) ?_)
              intro wz hgz hgrz
              have hbz := grown1 hbw9 hgrz (Nat.le_refl _)
              clear hg9 hx9
              go_wp2_with fail
              exact ret_row2 (fn := Tryz.f9) (x := .bool true) (cs := cmV ⟨2, ⟨head, name, leaf, []⟩, 0⟩) rfl rfl rfl hgz Tryz.underlying31 rfl j6 rfl ⟨⟨_, _, rfl, HQ3.out.symm⟩, hbz⟩
end Go.Proofs.YtfojgimficdjhaaGreatDoor
