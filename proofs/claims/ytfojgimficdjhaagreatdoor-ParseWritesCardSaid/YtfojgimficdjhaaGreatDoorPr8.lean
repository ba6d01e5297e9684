/-
  Contract of layer 6's reference: Read, of 'set' and 'delete'.
-/
import Derived.Test.YtfojgimficdjhaaGreatDoorPr7
namespace Go.Proofs.YtfojgimficdjhaaGreatDoor
set_option linter.unusedVariables false
set_option linter.unusedSimpArgs false
open Go Go.RowKit

/-- an operation that is not wanted is passed over -/
theorem wpList_pass {P : Program} {ops : Array Oper} {rest : List Oper} {o : Oper} {a : Act} {w : World} {Q : Exit → Act → World → Prop} (hw : Region.wanted o (yielded ops a.tmps) = false) (h : wpList P ops Q rest (a.put o.dst undef) w) : wpList P ops Q (o :: rest) a w :=
  wpList_step fun K hK => by
    rw [hw]
    exact hK _ _ h
theorem rcm_built (k : Int) : (Tryz.prog).built 31 [(0, .int .i64 k)] = some (cmV ⟨k, ln0, 0⟩) := by kernel_rfl
/-- behind the head and the name -/
def MidR (r : List (List UInt8)) (w : World) (g4 m : Nat) (wh : Int) (v : Value) (wx : World) : Prop := ∃ (l : Ln) (rest : List (List UInt8)) (A : Option Addr) (n c : Nat), v = .slice A n c ∧ namedW r = some (l, rest) ∧ Sl wx 1 (.slice A n c) (STR rest) ∧
  (0 < n → ∀ ad, A = some ad → ad.block ≠ g4 ∧ ad.block ≠ w.heap.size) ∧ wx.heap[g4]? = some (.cells (cmV ⟨wh, l, 0⟩) 31 (0, 0)) ∧ wx.heap[w.heap.size]? = some (.cells #[.int .i64 0, .int .i64 0, .string ⟨#[]⟩, .string ⟨#[]⟩, .string ⟨#[]⟩, .int .i64 0] 31 (0, 0)) ∧ Below w.heap.size w wx ∧ m ≤ wx.heap.size
theorem namedW_top (h : List UInt8) (r : List (List UInt8)) (h0 : headW h = 0) : namedW (h :: r) = some (ln0, h :: r) := by unfold namedW; simp only [if_pos h0]
theorem namedW_short (h : List UInt8) (h0 : headW h ≠ 0) : namedW [h] = none := by unfold namedW; simp only [if_neg h0]
theorem namedW_two (h nm : List UInt8) (r : List (List UInt8)) (h0 : headW h ≠ 0) : namedW (h :: nm :: r) = if namedR (headW h) nm = true then some (⟨headW h, nm, [], []⟩, r) else none := by unfold namedW; simp only [if_neg h0]
theorem pathW_none (r : List (List UInt8)) (h : namedW r = none) : pathW r = none := by unfold pathW; rw [h]
theorem lineW_none (r : List (List UInt8)) (h : namedW r = none) : lineW r = none := by unfold lineW; rw [h]
theorem lineW_two (r : List (List UInt8)) (l : Ln) (leaf value : List UInt8) (h : namedW r = some (l, [leaf, value])) : lineW r = if ((findR l.head leaf).2 && rightR (findR l.head leaf).1 value) = true then some ⟨l.head, l.name, leaf, value⟩ else none := by unfold lineW; rw [h]
theorem lineW_odd (r : List (List UInt8)) (l : Ln) (rest : List (List UInt8)) (h : namedW r = some (l, rest)) (hn : rest.length ≠ 2) : lineW r = none := by
  unfold lineW
  rw [h]
  match rest, hn with
  | [_, _], hn => exact absurd rfl hn
  | [], _ | [_], _ | _ :: _ :: _ :: _, _ => rfl
theorem pathW_zero (r : List (List UInt8)) (l : Ln) (h : namedW r = some (l, [])) : pathW r = if l.head = 0 then none else some l := by unfold pathW; rw [h]
theorem pathW_one (r : List (List UInt8)) (l : Ln) (leaf : List UInt8) (h : namedW r = some (l, [leaf])) : pathW r = if (findR l.head leaf).2 = true then some ⟨l.head, l.name, leaf, []⟩ else none := by unfold pathW; rw [h]
theorem pathW_more (r : List (List UInt8)) (l : Ln) (rest : List (List UInt8)) (h : namedW r = some (l, rest)) (hn : 2 ≤ rest.length) : pathW r = none := by
  unfold pathW
  rw [h]
  match rest, hn with
  | _ :: _ :: _, _ => rfl
  | [_], hn => simp at hn
  | [], hn => simp at hn
theorem cell_far {w : World} {b o g i : Nat} {u : Value} (h : w.cell? ⟨b, o, none⟩ = some u) (hne : b ≠ g) (v : Value) : (w.setCell ⟨g, i, none⟩ v).cell? ⟨b, o, none⟩ = some u :=
  (World.cell?_of_block (Below.heap_setCell w ⟨g, i, none⟩ v b hne)).trans h
set_option maxRecDepth 100000 in
set_option maxHeartbeats 6400000 in
theorem refRead_set (s : ByteArray) (w : World) (hs : s.size ≤ 100000) (hen : Env w) (L : List (List UInt8)) (x : List UInt8) (h : List UInt8) (r3 : List (List UInt8)) (k : Nat) (hR : LX.run (bl s) 0 [] = (L, k, 0)) (hL : L = x :: h :: r3) (hG : L.any isSgn = false) (hbs : ((S8 x).toList == wSet) = true) (hbd : ((S8 x).toList == wDelete) = false)
    (hcc : ((S8 x).toList == wCC) = false) (hrl : ((S8 x).toList == wRoll) = false) (HQ : Hid (readL x (h :: r3) = (lineW (h :: r3)).map (fun l => ⟨1, l, 0⟩))) :
    Calls Tryz.prog 9 #[.string s] w fun e w' => CmdPost (readL x (h :: r3)) e ∧ Below w.heap.size w w' := by
  simp only [wCC, wRoll, wSet, wDelete] at hcc hrl hbs hbd
  obtain ⟨r, hrr⟩ : ∃ r, h :: r3 = r := ⟨_, rfl⟩
  rw [hrr] at HQ hL
  rw [hrr]
  have HR0 : Hid (r ≠ []) := by show _ ≠ _; rw [← hrr]; simp
  have HRR := hid hrr
  clear hrr
  have HG := hid hG
  have hL0 : L ≠ [] := by rw [hL]; simp
  have HLL := hid hL
  have HEN := hid hen
  clear hG hL hen
  have hV := refWords_any s
  have h31 := toks31 (bl s)
  generalize LX.run (bl s) 0 [] = R at *
  subst hR
  simp only at hV h31
  have HV := hid (fun w => hV w hs)
  have H31 := hid h31
  clear hV h31
  obtain ⟨hb0, hx0, hl0⟩ := box1 w (.cells #[.int .i64 0, .int .i64 0, .string ⟨#[]⟩, .string ⟨#[]⟩, .string ⟨#[]⟩, .int .i64 0] 31)
  go_enter Tryz.func9, Tryz.ntmps9
  go_upto_region 1 with fail
  generalize w.alloc (.cells #[.int .i64 0, .int .i64 0, .string ⟨#[]⟩, .string ⟨#[]⟩, .string ⟨#[]⟩, .int .i64 0] 31) = w0 at *
  go_wp2_with fail
  refine (HV.out w0).mono ?_
  rintro e w1 ⟨A, c, rfl, ho, hb1⟩
  replace hx0 := blk_below hx0 hb1 hl0
  replace hb0 := hb0.trans (hb1.mono hb0.size)
  have hsl := own_sl ho
  have HFA : Hid (∀ ad, A = some ad → w.heap.size < ad.block) := by
    show ∀ _, _
    intro ad had
    subst had
    have := (ho.lt ad.block rfl).1
    omega
  clear hb1 hl0 HV ho
  have hlen := (sl_lensS hsl).1
  have hne : 0 < L.length := by cases L with
    | nil => exact absurd rfl hL0
    | cons a b => simp
  have t0 : ((L.length : Int) == 0) = false := by rw [beq_eq_false_iff_ne]; omega
  obtain ⟨hcn, hcm⟩ := (sl_lensS hsl).2
  generalize hn : L.length = n at *
  have HN := hid hn
  clear hn hlen
  go_wp2_with fail
  go_loop [7] (fun i => ∃ k : Nat, k ≤ n ∧ i = .int .i64 k) (fun i => n - (intOf i).toNat)
  case atStart => exact ⟨0, Nat.zero_le _, rfl⟩
  case round =>
    obtain ⟨k, hk, rfl⟩ := hrel
    by_cases hlt : k < n
    · obtain ⟨b, off, rfl, hbl, p0⟩ := STR_cell hsl hlt
      have hS := refSign_any (S8 (L.getD k [])) w1
      have hng : isSgn (L.getD k []) = false := by
        have hk2 : k < L.length := by rw [HN.out]; exact hlt
        have h1 := List.any_eq_false.1 HG.out L[k] (List.getElem_mem hk2)
        rw [List.getD_eq_getElem?_getD, List.getElem?_eq_getElem hk2]
        simpa using h1
      rw [bl_S8, hng] at hS
      have HS := hid hS
      clear hS hng
      generalize L.getD k [] = y at *
      go_wp2_with fail
      refine HS.out.mono ?_
      rintro e w1 ⟨rfl, rfl⟩
      go_wp2_with fail
      go_light
      exact ⟨⟨k + 1, by omega, by go_num⟩, by simp [intOf]; omega⟩
    · obtain rfl : n = k := by omega
      clear HG hL0 hlt hk
      go_upto_region 10 with fail
      have hpl : Sl (w1.alloc (.cells #[.string ⟨#[]⟩, .string ⟨#[]⟩, .string ⟨#[]⟩, .string ⟨#[115, 104, 111, 119]⟩, .string ⟨#[99, 111, 109, 112, 97, 114, 101]⟩, .string ⟨#[99, 104, 101, 99, 107]⟩, .string ⟨#[99, 111, 109, 109, 105, 116]⟩, .string ⟨#[]⟩, .string ⟨#[99, 111, 110, 102, 105, 114, 109]⟩] 9)) 1 (.slice (some ⟨w1.heap.size, 0, none⟩) 9 9) (STR PLs) := own_sl (own_made w1 0 9 1 9 _ (STR PLs) (Nat.zero_le _) rfl rfl (by omega) (by omega))
      have hb2 := (Below.refl w1.heap.size w1).alloc (Nat.le_refl _) (.cells #[.string ⟨#[]⟩, .string ⟨#[]⟩, .string ⟨#[]⟩, .string ⟨#[115, 104, 111, 119]⟩, .string ⟨#[99, 111, 109, 112, 97, 114, 101]⟩, .string ⟨#[99, 104, 101, 99, 107]⟩, .string ⟨#[99, 111, 109, 109, 105, 116]⟩, .string ⟨#[]⟩, .string ⟨#[99, 111, 110, 102, 105, 114, 109]⟩] 9)
      replace hsl := hsl.below hb2
      have hx2 := blk_below hx0 hb2 (blk_lt hx0)
      have hbw2 := hb0.trans (hb2.mono hb0.size)
      clear hb2 hx0 hb0
      generalize w1.alloc (.cells #[.string ⟨#[]⟩, .string ⟨#[]⟩, .string ⟨#[]⟩, .string ⟨#[115, 104, 111, 119]⟩, .string ⟨#[99, 111, 109, 112, 97, 114, 101]⟩, .string ⟨#[99, 104, 101, 99, 107]⟩, .string ⟨#[99, 111, 109, 109, 105, 116]⟩, .string ⟨#[]⟩, .string ⟨#[99, 111, 110, 102, 105, 114, 109]⟩] 9) = w2 at *
      obtain ⟨nb, hnb⟩ : ∃ nb, ((n : Int) == 1) = nb := ⟨_, rfl⟩
      have HNB : Hid (r = [] ↔ nb = true) := by
        show _ ↔ _
        rw [← hnb, ← HN.out, HLL.out]
        simp
        exact ⟨fun h => by rw [h]; rfl, fun h => List.eq_nil_of_length_eq_zero (by omega)⟩
      go_wp2_with fail
      go_loopw [9] (fun i wr => ∃ k : Nat, 3 ≤ k ∧ k ≤ 9 ∧ i = .int .i64 k ∧ Hid (∀ j, 3 ≤ j → j < k → j ≠ 7 → PLs.getD j [] ≠ x) ∧ Below w2.heap.size w2 wr) (fun i _ => 9 - (intOf i).toNat)
      case atStart => exact ⟨3, by omega, by omega, rfl, hid (fun j h1 h2 => by omega), Below.refl _ _⟩
      case round =>
        obtain ⟨k, hk3, hk9, rfl, hnok, hbr⟩ := hrel
        have hslr := hsl.below hbr
        have hbwr := hbw2.trans (hbr.mono hbw2.size)
        have hxr := blk_below hx2 hbr (blk_lt hx2)
        obtain ⟨b, off, rfl, hbl, p0⟩ := STR_cell hslr (k := 0) hne
        rw [HLL.out] at p0
        simp only [List.getD_cons_zero, Nat.add_zero] at p0
        by_cases hlt : k < 9
        · obtain ⟨b1, off1, he1, hbl1, p1⟩ := STR_cell (hpl.below hbr) (k := k) hlt
          injection he1 with he1
          injection he1 with he1 he2
          subst he1
          subst he2
          rw [Nat.zero_add] at p1
          have z0 := fun (z : WK (fun _ => False) wr) => (wat_cell (p := ⟨b, off, none⟩) hbl (fun e => e) z).trans p0
          have z1 := fun (z : WK (fun _ => False) wr) => (wat_cell (p := ⟨w1.heap.size, k, none⟩) hbl1 (fun e => e) z).trans p1
          clear p0 p1
          have hx8 : (S8 x).toList = x := Lib.toList_data _
          have hy8 : (S8 (PLs.getD k [])).toList = PLs.getD k [] := Lib.toList_data _
          have HY := hid (show ((S8 (PLs.getD k [])).toList == (S8 x).toList) = decide (PLs.getD k [] = x) by rw [hx8, hy8, Bool.eq_iff_iff]; simp)
          have HIT : Hid (k ≠ 7 → PLs.getD k [] = x → plainW x = (k : Int)) := fun h7 h => pl_hit x k hk3 hlt h7 h
          have HNX : Hid (k = 7 ∨ PLs.getD k [] ≠ x → ∀ j, 3 ≤ j → j < k + 1 → j ≠ 7 → PLs.getD j [] ≠ x) := by
            show _ → _
            intro h j h3 h4 h7
            by_cases hjk : j < k
            · exact hnok.out j h3 hjk h7
            · obtain rfl : j = k := by omega
              rcases h with h | h
              · exact absurd h h7
              · exact h
          clear hx8 hy8 hnok hpl hsl hslr hbl hbl1
          obtain ⟨be, hbe⟩ : ∃ be, ((S8 (PLs.getD k [])).toList == (S8 x).toList) = be := ⟨_, rfl⟩
          rw [hbe] at HY
          generalize PLs.getD k [] = y at *
          cases be with
          | false =>
            have HN2 := hid (HNX.out (.inr (by have := HY.out; simpa using this)))
            clear HNX HIT HY
            go_wp2_with fail
            refine wp_region_loud (fun _ => False) [] (fun _ => Fact.none) (by kernel_rfl) (by kernel_rfl) .nil good_nothing sat_none (WX.out ?_)
            repeat (first | (refine wx_quietU (by rfl) (by rfl) (by rfl) (fun K hK => ?_); go_big_quiet_op; refine hK _ ?_; clear hK K) | (refine wx_quietG (by rfl) (by rfl) (by rfl) (by rfl) (by rfl) (fun K hK => ?_); go_big_quiet_op; refine hK _ ?_; clear hK K) | (refine wx_skipG (by rfl) (by rfl) (by rfl) (fun K hK => ?_); go_simp; refine hK _ ?_; clear hK K) | (refine wx_skipN (by rfl) (by rfl) (by rfl) (fun K hK => ?_); go_simp; refine hK _ ?_; clear hK K))
            refine wx_nil fun w3 hsat => ?_
            have hb3 := sat_below hsat
            clear hsat z0 z1
            go_wp2_with fail
            go_light
            exact ⟨⟨k + 1, by omega, by omega, by go_num, HN2, hbr.trans (hb3.mono hbr.size)⟩, by simp [intOf]; omega⟩
          | true =>
            by_cases h7 : k = 7
            · have HN2 := hid (HNX.out (.inl h7))
              subst h7
              clear HNX HIT HY
              go_wp2_with fail
              refine wp_region_loud (fun _ => False) [] (fun _ => Fact.none) (by kernel_rfl) (by kernel_rfl) .nil good_nothing sat_none (WX.out ?_)
              repeat (first | (refine wx_quietU (by rfl) (by rfl) (by rfl) (fun K hK => ?_); go_big_quiet_op; refine hK _ ?_; clear hK K) | (refine wx_quietG (by rfl) (by rfl) (by rfl) (by rfl) (by rfl) (fun K hK => ?_); go_big_quiet_op; refine hK _ ?_; clear hK K) | (refine wx_skipG (by rfl) (by rfl) (by rfl) (fun K hK => ?_); go_simp; refine hK _ ?_; clear hK K) | (refine wx_skipN (by rfl) (by rfl) (by rfl) (fun K hK => ?_); go_simp; refine hK _ ?_; clear hK K))
              refine wx_nil fun w3 hsat => ?_
              have hb3 := sat_below hsat
              clear hsat z0 z1
              go_wp2_with fail
              go_light
              exact ⟨⟨7 + 1, by omega, by omega, by go_num, HN2, hbr.trans (hb3.mono hbr.size)⟩, by simp [intOf]⟩
            · have t7 : ((k : Int) != 7) = true := by rw [bne_iff_ne]; omega
              have HPW := hid (HIT.out h7 (by have := HY.out; simpa using this.symm))
              have HQ : Hid (readL x r = if nb = true then some ⟨(k : Int), ln0, 0⟩ else none) := by
                show _ = _
                unfold readL
                rw [if_pos (by rw [HPW.out]; omega), HPW.out]
                have := HNB.out
                by_cases hr : r = [] <;> simp_all
              clear HNX HIT HY h7
              go_wp2_with fail
              refine wp_region_loud (fun _ => False) [] (fun _ => Fact.none) (by kernel_rfl) (by kernel_rfl) .nil good_nothing sat_none (WX.out ?_)
              repeat (first | (refine wx_quietU (by rfl) (by rfl) (by rfl) (fun K hK => ?_); go_big_quiet_op; refine hK _ ?_; clear hK K) | (refine wx_quietG (by rfl) (by rfl) (by rfl) (by rfl) (by rfl) (fun K hK => ?_); go_big_quiet_op; refine hK _ ?_; clear hK K) | (refine wx_skipG (by rfl) (by rfl) (by rfl) (fun K hK => ?_); go_simp; refine hK _ ?_; clear hK K) | (refine wx_skipN (by rfl) (by rfl) (by rfl) (fun K hK => ?_); go_simp; refine hK _ ?_; clear hK K))
              refine wx_nil fun w3 hsat => ?_
              have hb3 := sat_below hsat
              clear hsat z0 z1
              replace hxr := blk_below hxr hb3 (blk_lt hxr)
              replace hbwr := hbwr.trans (hb3.mono hbwr.size)
              clear hb3
              go_wp2_with (refine wpList_store_whole rfl 31 (.tmp 2) (.tmp 63) rfl (cmV ⟨(k : Int), ln0, 0⟩) rfl rfl hxr j6 rfl (cmV_one _) ?_)
              intro wz hgz hgrz
              have hbz := grown1 hbwr hgrz (Nat.le_refl _)
              go_wp2_with fail
              exact ret_row2 (fn := Tryz.f9) (x := .bool nb) (cs := cmV ⟨(k : Int), ln0, 0⟩) rfl rfl rfl hgz Tryz.underlying31 rfl j6 rfl ⟨⟨_, _, rfl, HQ.out.symm⟩, hbz⟩
        · obtain rfl : k = 9 := by omega
          have h0 := pl_no x (fun j h3 h9 h7 => hnok.out j h3 h9 h7)
          clear hnok hpl hsl hx2 hbw2 hbr hlt hk3 hk9 hnb
          have hx0 := hxr
          have hb0 := hbwr
          clear hxr hbwr
          have HPW := hid h0
          clear h0
          have hn2 : 2 ≤ n := by
            have := HN.out
            rw [HLL.out] at this
            have h2 := HR0.out
            cases r with
            | nil => exact absurd rfl h2
            | cons a b => simp at this; omega
          have t2 : decide ((n : Int) < 2) = false := by rw [decide_eq_false_iff_not]; omega
          obtain ⟨hb4, hg4, hl4⟩ := box1 wr (.cells (cmV ⟨1, ln0, 0⟩) 31)
          have hgl := blk_lt hx0
          have hgl2 := hb0.size
          have HW4 := hid (And.intro hg4 (And.intro (blk_below hx0 hb4 (blk_lt hx0)) (And.intro (hb0.trans (hb4.mono hb0.size)) (And.intro ((hb4.cell (p := ⟨b, off, none⟩) hbl).trans p0) (hslr.below hb4)))))
          clear hb4 hg4 hx0 hb0
          have hc1 : ¬ c = 1 := by omega
          go_upto_region 23 with fail
          go_upto_region 24 with (refine wpList_store_last rfl 31 (.tmp 14) (.tmp 133) rfl (cmV ⟨1, ln0, 0⟩) rfl rfl j6 rfl (cmV_one _) ?_)
          generalize wr.alloc (.cells (cmV ⟨1, ln0, 0⟩) 31) = w4 at *
          obtain ⟨hg4, hx4, hbw4, q0, hsl4⟩ := HW4.out
          clear HW4 p0 hslr t2 hcc hrl
          obtain rfl := HRR.out
          clear HRR
          have hs5 : Sl w4 1 (.slice (some ⟨b, off + 1, none⟩) (n - 1) (c - 1)) (STR (h :: r3)) := by
            have := sl_dropS hsl4 1 (by omega)
            rw [if_neg hc1, HLL.out] at this
            simpa [addr_add] using this
          have HG5 := hid hg4
          have HX5 := hid hx4
          have hbw5 := hbw4
          clear hg4 hx4 hbw4 hsl4 HNB HR0
          go_upto_region 27 with fail
          obtain ⟨w5, rfl⟩ : ∃ w5 : World, w5 = w4 := ⟨_, rfl⟩
          clear q0
          have hbg : w.heap.size < b := HFA.out _ rfl
          clear HFA
          have hn1 : 1 ≤ n - 1 := by omega
          have hnc1 : n - 1 ≤ c - 1 := by omega
          have hcm1 : c - 1 ≤ 9223372036854775807 := by omega
          generalize n - 1 = n1 at *
          generalize c - 1 = c1 at *
          generalize off + 1 = o1 at *
          have hH := fun w => refHead_any (S8 h) w
          rw [bl_S8] at hH
          obtain ⟨h9, hh9⟩ : ∃ h9, headW h = h9 := ⟨_, rfl⟩
          rw [hh9] at hH
          have HH := hid hH
          have HH9 := hid hh9
          clear hH hh9
          obtain ⟨b1, off1, he1, hbl5, p5⟩ := STR_cell hs5 (k := 0) (by omega)
          injection he1 with he1
          injection he1 with he1 he2
          subst he1
          subst he2
          simp only [List.getD_cons_zero, Nat.add_zero] at p5
          -- w5: HG5, HX5 (hidden), hbw5, hs5 : the rest of the words
          go_upto_if 146 with fail
          refine (HH.out w5).mono ?_
          rintro e w5 ⟨rfl, rfl⟩
          go_upto_if 146 with fail
          go_cut [15] (fun v wx => MidR (h :: r3) w wr.heap.size w5.heap.size 1 v wx)
          case first =>
            by_cases h0 : h9 = 0
            · have HM0 := hid (namedW_top h r3 (HH9.out.trans h0))
              subst h0
              go_wp2_with fail
              go_meet
              all_goals go_light
              exact ⟨ln0, h :: r3, _, _, _, rfl, HM0.out, hs5, fun _ ad had => by injection had with had; subst had; exact ⟨by show b ≠ _; omega, by show b ≠ _; omega⟩, HG5.out, HX5.out, hbw5, Nat.le_refl _⟩
            · have hpos : 0 < h9 := by have := headW_eq h; have := HH9.out; omega
              have hhd : headW h ≠ 0 := fun e => h0 (HH9.out.symm.trans e)
              cases r3 with
              | nil =>
                have hn1 : n1 = 1 := by have := (sl_lensS hs5).1; simpa using this.symm
                subst hn1
                have HQ2 : Hid (readL x [h] = none) := by show _ = _; rw [HQ.out, lineW_none _ (namedW_short h hhd)]; rfl
                clear h0 hhd
                have hx0 := HX5.out
                have hb0 := hbw5
                go_wp2_with (refine wpList_store_whole rfl 31 (.tmp 2) (.tmp 150) rfl (cmV cmd0) rfl rfl hx0 j6 rfl (cmV_one _) ?_)
                intro wz hgz hgrz
                have hbz := grown1 hb0 hgrz (Nat.le_refl _)
                go_wp2_with fail
                exact ret_row2 (fn := Tryz.f9) (x := .bool false) (cs := cmV cmd0) rfl rfl rfl hgz Tryz.underlying31 rfl j6 rfl ⟨⟨_, _, rfl, HQ2.out.symm⟩, hbz⟩
              | cons nm r2 =>
                have HM2 := hid (namedW_two h nm r2 hhd)
                have hn1 : 2 ≤ n1 := by have := (sl_lensS hs5).1; simp at this; omega
                have t7 : decide ((n1 : Int) < 2) = false := by rw [decide_eq_false_iff_not]; omega
                obtain ⟨hnc1, hcm1⟩ := (sl_lensS hs5).2
                obtain ⟨b1, off1, he1, hbl5, p1⟩ := STR_cell hs5 (k := 1) (by omega)
                injection he1 with he1
                injection he1 with he1 he2
                subst he1
                subst he2
                simp only [List.getD_cons_zero, List.getD_cons_succ] at p1
                have hd2 := sl_dropS hs5 2 hn1
                have hnml := H31.out nm (by rw [HLL.out]; simp)
                have hc2 : 2 ≤ c1 := by omega
                clear h0 hhd
                have y1 := fun (z : WK (fun g => g = wr.heap.size) w5) => (wat_cell (p := ⟨b, o1 + 1, none⟩) hbl5 (fun e => by have e2 : b = wr.heap.size := e; omega) z).trans p1
                clear p1 p5
                by_cases hcc : c1 = 2
                · obtain rfl : n1 = 2 := by omega
                  subst hcc
                  simp only [if_true, Nat.sub_self] at hd2
                  have HD2 := hid hd2
                  clear hd2
                  go_wp2_with fail
                  refine wp_region_loud (fun g => g = wr.heap.size) [(8, keepL [100] (BlkF wr.heap.size 31 (cmV ⟨1, ⟨h9, [], [], []⟩, 0⟩))), (11, keepL [8] (BlkF wr.heap.size 31 (cmV ⟨1, ⟨h9, nm, [], []⟩, 0⟩)))] (labelled 100 (BlkF wr.heap.size 31 (cmV ⟨1, ln0, 0⟩))) (by kernel_rfl) (by kernel_rfl)
                    (.cons (keepL_ok _ (good_blk _ _ _)) (.cons (keepL_ok _ (good_blk _ _ _)) .nil)) (good_one 100 (good_blk _ _ _)) (sat_one 100 _ (fun g hg => by have e2 : g = wr.heap.size := hg; have := blk_lt HG5.out; omega) ⟨rfl, HG5.out⟩) (WX.out ?_)
                  repeat (first | (refine wx_quietU (by rfl) (by rfl) (by rfl) (fun K hK => ?_); go_big_quiet_op; refine hK _ ?_; clear hK K) | (refine wx_quietG (by rfl) (by rfl) (by rfl) (by rfl) (by rfl) (fun K hK => ?_); go_big_quiet_op; refine hK _ ?_; clear hK K) | (refine wx_skipG (by rfl) (by rfl) (by rfl) (fun K hK => ?_); go_simp; refine hK _ ?_; clear hK K) | (refine wx_skipN (by rfl) (by rfl) (by rfl) (fun K hK => ?_); go_simp; refine hK _ ?_; clear hK K))
                  refine wx_loudU (us := [100]) (by rfl) (by rfl) (fun S wS hC hS hU => ?_) (fun v hv K hK => ?_)
                  · have hB : BlkF wr.heap.size 31 (cmV ⟨1, ln0, 0⟩) S wS := hU 100 (by simp)
                    obtain ⟨hc, hf⟩ := blkF_cells hB
                    exact runs_skip (by go_simp <;> rfl) ⟨trivial, (blkF_set (i := 1) hB (.int .i64 h9)).1, (blkF_set (i := 1) hB (.int .i64 h9)).2⟩
                  (go_simp; refine hK _ ?_; clear hK K)
                  repeat (first | (refine wx_quietU (by rfl) (by rfl) (by rfl) (fun K hK => ?_); go_big_quiet_op; refine hK _ ?_; clear hK K) | (refine wx_quietG (by rfl) (by rfl) (by rfl) (by rfl) (by rfl) (fun K hK => ?_); go_big_quiet_op; refine hK _ ?_; clear hK K) | (refine wx_skipG (by rfl) (by rfl) (by rfl) (fun K hK => ?_); go_simp; refine hK _ ?_; clear hK K) | (refine wx_skipN (by rfl) (by rfl) (by rfl) (fun K hK => ?_); go_simp; refine hK _ ?_; clear hK K))
                  refine wx_loudU (us := [8]) (by rfl) (by rfl) (fun S wS hC hS hU => ?_) (fun v hv K hK => ?_)
                  · have hB : BlkF wr.heap.size 31 (cmV ⟨1, ⟨h9, [], [], []⟩, 0⟩) S wS := hU 8 (by simp)
                    obtain ⟨hc, hf⟩ := blkF_cells hB
                    exact runs_skip (by go_simp <;> rfl) ⟨trivial, (blkF_set (i := 2) hB (.string (S8 nm))).1, (blkF_set (i := 2) hB (.string (S8 nm))).2⟩
                  (go_simp; refine hK _ ?_; clear hK K)
                  repeat (first | (refine wx_quietU (by rfl) (by rfl) (by rfl) (fun K hK => ?_); go_big_quiet_op; refine hK _ ?_; clear hK K) | (refine wx_quietG (by rfl) (by rfl) (by rfl) (by rfl) (by rfl) (fun K hK => ?_); go_big_quiet_op; refine hK _ ?_; clear hK K) | (refine wx_skipG (by rfl) (by rfl) (by rfl) (fun K hK => ?_); go_simp; refine hK _ ?_; clear hK K) | (refine wx_skipN (by rfl) (by rfl) (by rfl) (fun K hK => ?_); go_simp; refine hK _ ?_; clear hK K))
                  refine wx_nil fun w6 hsat => ?_
                  obtain ⟨S9, hS9, hF9⟩ := sat_get hsat 11
                  have hg6 := (show BlkF wr.heap.size 31 (cmV ⟨1, ⟨h9, nm, [], []⟩, 0⟩) S9 w6 from hF9).2
                  have hx6 := (hsat.1.block w.heap.size (blk_lt HX5.out) (fun e => by have e2 : w.heap.size = wr.heap.size := e; omega)).trans HX5.out
                  have hbw6 := hbw5.trans (hsat.1.below_of (B := w.heap.size) hbw5.size (fun g hg => by have e2 : g = wr.heap.size := hg; omega))
                  have hs6 := hsat.1.size
                  have hd6 := sl_kept HD2.out hsat.1 (fun ad had e => by injection had with had; subst had; have e2 : b = wr.heap.size := e; omega)
                  clear hsat hF9 hS9 y1 HD2
                  have c1' : w6.cell? ⟨wr.heap.size, 1, none⟩ = some (.int .i64 h9) := blkCell hg6 1
                  have c2' : w6.cell? ⟨wr.heap.size, 2, none⟩ = some (.string (S8 nm)) := blkCell hg6 2
                  have HNMD := hid (refNamed_any h9 (S8 nm) w6 (by rw [S8_size]; omega))
                  have HG6 := hid hg6
                  have HX6 := hid hx6
                  have HD6 := hid hd6
                  clear hg6 hx6 hd6 HG5 HX5 hs5
                  go_wp2_with fail
                  refine HNMD.out.mono ?_
                  rintro e w7 ⟨rfl, hb7⟩
                  rw [bl_S8]
                  clear c1' c2' HNMD
                  have HM3 : Hid (namedW (h :: nm :: r2) = if namedR h9 nm = true then some (⟨h9, nm, [], []⟩, r2) else none) := by show _ = _; rw [HM2.out, HH9.out]
                  clear HM2
                  have hx7 := blk_below HX6.out hb7 (blk_lt HX6.out)
                  have hbw7 := hbw6.trans (hb7.mono hbw6.size)
                  cases hnr : namedR h9 nm with
                  | false =>
                    rw [hnr] at HM3
                    have HQ2 : Hid (readL x (h :: nm :: r2) = none) := by show _ = _; rw [HQ.out, lineW_none _ (by rw [HM3.out]; rfl)]; rfl
                    clear HM3
                    have hx0 := hx7
                    have hb0 := hbw7
                    clear hx7 hbw7
                    go_wp2_with (refine wpList_store_whole rfl 31 (.tmp 2) (.tmp 167) rfl (cmV cmd0) rfl rfl hx0 j6 rfl (cmV_one _) ?_)
                    intro wz hgz hgrz
                    have hbz := grown1 hb0 hgrz (Nat.le_refl _)
                    go_wp2_with fail
                    exact ret_row2 (fn := Tryz.f9) (x := .bool false) (cs := cmV cmd0) rfl rfl rfl hgz Tryz.underlying31 rfl j6 rfl ⟨⟨_, _, rfl, HQ2.out.symm⟩, hbz⟩
                  | true =>
                    rw [hnr, if_pos rfl] at HM3
                    have HG7 := hid (blk_below HG6.out hb7 (blk_lt HG6.out))
                    have HX7 := hid hx7
                    have HD7 := hid (HD6.out.below hb7)
                    have hs7 := hb7.size
                    clear hx7 HG6 HX6 HD6 hb7
                    go_wp2_with fail
                    go_meet
                    all_goals go_light
                    exact ⟨_, r2, _, _, _, rfl, HM3.out, HD7.out, fun _ ad had => by injection had with had; subst had; exact ⟨by show b ≠ _; omega, by show b ≠ _; omega⟩, HG7.out, HX7.out, hbw7, by omega⟩
                · rw [if_neg hcc] at hd2
                  simp only [Option.map_some, addr_add] at hd2
                  have HD2 := hid hd2
                  clear hd2
                  go_wp2_with fail
                  refine wp_region_loud (fun g => g = wr.heap.size) [(8, keepL [100] (BlkF wr.heap.size 31 (cmV ⟨1, ⟨h9, [], [], []⟩, 0⟩))), (11, keepL [8] (BlkF wr.heap.size 31 (cmV ⟨1, ⟨h9, nm, [], []⟩, 0⟩)))] (labelled 100 (BlkF wr.heap.size 31 (cmV ⟨1, ln0, 0⟩))) (by kernel_rfl) (by kernel_rfl)
                    (.cons (keepL_ok _ (good_blk _ _ _)) (.cons (keepL_ok _ (good_blk _ _ _)) .nil)) (good_one 100 (good_blk _ _ _)) (sat_one 100 _ (fun g hg => by have e2 : g = wr.heap.size := hg; have := blk_lt HG5.out; omega) ⟨rfl, HG5.out⟩) (WX.out ?_)
                  repeat (first | (refine wx_quietU (by rfl) (by rfl) (by rfl) (fun K hK => ?_); go_big_quiet_op; refine hK _ ?_; clear hK K) | (refine wx_quietG (by rfl) (by rfl) (by rfl) (by rfl) (by rfl) (fun K hK => ?_); go_big_quiet_op; refine hK _ ?_; clear hK K) | (refine wx_skipG (by rfl) (by rfl) (by rfl) (fun K hK => ?_); go_simp; refine hK _ ?_; clear hK K) | (refine wx_skipN (by rfl) (by rfl) (by rfl) (fun K hK => ?_); go_simp; refine hK _ ?_; clear hK K))
                  refine wx_loudU (us := [100]) (by rfl) (by rfl) (fun S wS hC hS hU => ?_) (fun v hv K hK => ?_)
                  · have hB : BlkF wr.heap.size 31 (cmV ⟨1, ln0, 0⟩) S wS := hU 100 (by simp)
                    obtain ⟨hc, hf⟩ := blkF_cells hB
                    exact runs_skip (by go_simp <;> rfl) ⟨trivial, (blkF_set (i := 1) hB (.int .i64 h9)).1, (blkF_set (i := 1) hB (.int .i64 h9)).2⟩
                  (go_simp; refine hK _ ?_; clear hK K)
                  repeat (first | (refine wx_quietU (by rfl) (by rfl) (by rfl) (fun K hK => ?_); go_big_quiet_op; refine hK _ ?_; clear hK K) | (refine wx_quietG (by rfl) (by rfl) (by rfl) (by rfl) (by rfl) (fun K hK => ?_); go_big_quiet_op; refine hK _ ?_; clear hK K) | (refine wx_skipG (by rfl) (by rfl) (by rfl) (fun K hK => ?_); go_simp; refine hK _ ?_; clear hK K) | (refine wx_skipN (by rfl) (by rfl) (by rfl) (fun K hK => ?_); go_simp; refine hK _ ?_; clear hK K))
                  refine wx_loudU (us := [8]) (by rfl) (by rfl) (fun S wS hC hS hU => ?_) (fun v hv K hK => ?_)
                  · have hB : BlkF wr.heap.size 31 (cmV ⟨1, ⟨h9, [], [], []⟩, 0⟩) S wS := hU 8 (by simp)
                    obtain ⟨hc, hf⟩ := blkF_cells hB
                    exact runs_skip (by go_simp <;> rfl) ⟨trivial, (blkF_set (i := 2) hB (.string (S8 nm))).1, (blkF_set (i := 2) hB (.string (S8 nm))).2⟩
                  (go_simp; refine hK _ ?_; clear hK K)
                  repeat (first | (refine wx_quietU (by rfl) (by rfl) (by rfl) (fun K hK => ?_); go_big_quiet_op; refine hK _ ?_; clear hK K) | (refine wx_quietG (by rfl) (by rfl) (by rfl) (by rfl) (by rfl) (fun K hK => ?_); go_big_quiet_op; refine hK _ ?_; clear hK K) | (refine wx_skipG (by rfl) (by rfl) (by rfl) (fun K hK => ?_); go_simp; refine hK _ ?_; clear hK K) | (refine wx_skipN (by rfl) (by rfl) (by rfl) (fun K hK => ?_); go_simp; refine hK _ ?_; clear hK K))
                  refine wx_nil fun w6 hsat => ?_
                  obtain ⟨S9, hS9, hF9⟩ := sat_get hsat 11
                  have hg6 := (show BlkF wr.heap.size 31 (cmV ⟨1, ⟨h9, nm, [], []⟩, 0⟩) S9 w6 from hF9).2
                  have hx6 := (hsat.1.block w.heap.size (blk_lt HX5.out) (fun e => by have e2 : w.heap.size = wr.heap.size := e; omega)).trans HX5.out
                  have hbw6 := hbw5.trans (hsat.1.below_of (B := w.heap.size) hbw5.size (fun g hg => by have e2 : g = wr.heap.size := hg; omega))
                  have hs6 := hsat.1.size
                  have hd6 := sl_kept HD2.out hsat.1 (fun ad had e => by injection had with had; subst had; have e2 : b = wr.heap.size := e; omega)
                  clear hsat hF9 hS9 y1 HD2
                  have c1' : w6.cell? ⟨wr.heap.size, 1, none⟩ = some (.int .i64 h9) := blkCell hg6 1
                  have c2' : w6.cell? ⟨wr.heap.size, 2, none⟩ = some (.string (S8 nm)) := blkCell hg6 2
                  have HNMD := hid (refNamed_any h9 (S8 nm) w6 (by rw [S8_size]; omega))
                  have HG6 := hid hg6
                  have HX6 := hid hx6
                  have HD6 := hid hd6
                  clear hg6 hx6 hd6 HG5 HX5 hs5
                  go_wp2_with fail
                  refine HNMD.out.mono ?_
                  rintro e w7 ⟨rfl, hb7⟩
                  rw [bl_S8]
                  clear c1' c2' HNMD
                  have HM3 : Hid (namedW (h :: nm :: r2) = if namedR h9 nm = true then some (⟨h9, nm, [], []⟩, r2) else none) := by show _ = _; rw [HM2.out, HH9.out]
                  clear HM2
                  have hx7 := blk_below HX6.out hb7 (blk_lt HX6.out)
                  have hbw7 := hbw6.trans (hb7.mono hbw6.size)
                  cases hnr : namedR h9 nm with
                  | false =>
                    rw [hnr] at HM3
                    have HQ2 : Hid (readL x (h :: nm :: r2) = none) := by show _ = _; rw [HQ.out, lineW_none _ (by rw [HM3.out]; rfl)]; rfl
                    clear HM3
                    have hx0 := hx7
                    have hb0 := hbw7
                    clear hx7 hbw7
                    go_wp2_with (refine wpList_store_whole rfl 31 (.tmp 2) (.tmp 167) rfl (cmV cmd0) rfl rfl hx0 j6 rfl (cmV_one _) ?_)
                    intro wz hgz hgrz
                    have hbz := grown1 hb0 hgrz (Nat.le_refl _)
                    go_wp2_with fail
                    exact ret_row2 (fn := Tryz.f9) (x := .bool false) (cs := cmV cmd0) rfl rfl rfl hgz Tryz.underlying31 rfl j6 rfl ⟨⟨_, _, rfl, HQ2.out.symm⟩, hbz⟩
                  | true =>
                    rw [hnr, if_pos rfl] at HM3
                    have HG7 := hid (blk_below HG6.out hb7 (blk_lt HG6.out))
                    have HX7 := hid hx7
                    have HD7 := hid (HD6.out.below hb7)
                    have hs7 := hb7.size
                    clear hx7 HG6 HX6 HD6 hb7
                    go_wp2_with fail
                    go_meet
                    all_goals go_light
                    exact ⟨_, r2, _, _, _, rfl, HM3.out, HD7.out, fun _ ad had => by injection had with had; subst had; exact ⟨by show b ≠ _; omega, by show b ≠ _; omega⟩, HG7.out, HX7.out, hbw7, by omega⟩
          case rest =>
            obtain ⟨l, rest, A6, n6, c6, rfl, hnw, hs6, hA6, hg6, hx6, hbw6, hs56⟩ := hcut
            have hsub := namedW_sub _ l rest hnw
            have hbare := namedW_bare _ l rest hnw
            have HNW := hid hnw
            have HA6 := hid hA6
            clear hnw hA6 HG5 HX5 hbw5 hs5 hbl5 p5 HH HH9
            obtain ⟨w6, rfl⟩ : ∃ w6 : World, w6 = wc := ⟨_, rfl⟩
            have hl6 := (sl_lensS hs6).1
            obtain ⟨hnc6, hcm6⟩ := (sl_lensS hs6).2
            have c0 : w6.cell? ⟨wr.heap.size, 0, none⟩ = some (.int .i64 1) := blkCell hg6 0
            have HG6 := hid hg6
            have HX6 := hid hx6
            clear hg6 hx6
            obtain ⟨head, name, lf0, vl0⟩ := l
            obtain ⟨e1, e2⟩ := hbare
            simp only at e1 e2
            subst e1
            subst e2
            by_cases h2 : rest.length = 2
            case neg =>
              have HQ2 : Hid (readL x (h :: r3) = none) := by show _ = _; rw [HQ.out, lineW_odd _ _ rest HNW.out h2]; rfl
              have t2 : ((n6 : Int) != 2) = true := by rw [bne_iff_ne]; omega
              have hx0 := HX6.out
              have hb0 := hbw6
              clear HX6 h2 hl6 hsub
              go_upto_region 37 with fail
              go_wp2_with (refine wpList_store_whole rfl 31 (.tmp 2) (.tmp 201) rfl (cmV cmd0) rfl rfl hx0 j6 rfl (cmV_one _) ?_)
              intro wz hgz hgrz
              have hbz := grown1 hb0 hgrz (Nat.le_refl _)
              go_wp2_with fail
              exact ret_row2 (fn := Tryz.f9) (x := .bool false) (cs := cmV cmd0) rfl rfl rfl hgz Tryz.underlying31 rfl j6 rfl ⟨⟨_, _, rfl, HQ2.out.symm⟩, hbz⟩
            obtain ⟨leaf, value, rfl⟩ : ∃ a b, rest = [a, b] := by
              match rest, h2 with
              | [a, b], _ => exact ⟨a, b, rfl⟩
            obtain rfl : n6 = 2 := by simpa using hl6.symm
            have HQ2 : Hid (readL x (h :: r3) = if ((findR head leaf).2 && rightR (findR head leaf).1 value) = true then some ⟨1, ⟨head, name, leaf, value⟩, 0⟩ else none) := by
              show _ = _
              rw [HQ.out, lineW_two _ _ leaf value HNW.out]
              simp only
              cases ((findR head leaf).2 && rightR (findR head leaf).1 value) <;> rfl
            have hvl := H31.out value (by rw [HLL.out]; exact List.mem_cons_of_mem _ (hsub value (by simp)))
            obtain ⟨b6, o6, rfl, hbl6, p0⟩ := STR_cell hs6 (k := 0) (by omega)
            obtain ⟨b1, off1, he1, -, p1⟩ := STR_cell hs6 (k := 1) (by omega)
            injection he1 with he1
            injection he1 with he1 he2
            subst he1
            subst he2
            simp only [List.getD_cons_zero, List.getD_cons_succ, Nat.add_zero] at p0 p1
            have hne6 := HA6.out (by omega) _ rfl
            obtain ⟨hne61, hne62⟩ := hne6
            simp only at hne61 hne62
            have HX6' := HX6
            clear HQ HNW HA6 hl6 h2 hsub hs6
            have f3 : w6.frozen? ⟨wr.heap.size, 3, none⟩ = false := by have := HG6.out; simp [World.frozen?, this]
            have c3 : w6.cell? ⟨wr.heap.size, 3, none⟩ = some (.string ⟨#[]⟩) := blkCell HG6.out 3
            go_upto_region 39 with fail
            have HW7 := hid (And.intro (blk_set HG6.out 3 (.string (S8 leaf))) (And.intro (blk_set_far HX6.out (p := ⟨wr.heap.size, 3, none⟩) (by show w.heap.size ≠ wr.heap.size; omega) (.string (S8 leaf))) (And.intro (hbw6.setCell (p := ⟨wr.heap.size, 3, none⟩) hgl2 (.string (S8 leaf))) (And.intro (show (w6.setCell ⟨wr.heap.size, 3, none⟩ (.string (S8 leaf))).heap.size = w6.heap.size by simp [World.setCell]) (cell_far (i := 3) p1 hne61 (.string (S8 leaf)))))))
            generalize w6.setCell ⟨wr.heap.size, 3, none⟩ (.string (S8 leaf)) = w7 at *
            obtain ⟨hg7, hx7, hbw7, hs7, p1'⟩ := HW7.out
            clear HW7 HG6 HX6 HX6' p0 p1 f3 c3 c0 hbw6
            have hg7' : w7.heap[wr.heap.size]? = some (.cells (cmV ⟨1, ⟨head, name, leaf, []⟩, 0⟩) 31 (0, 0)) := hg7
            clear hg7
            have c1 : w7.cell? ⟨wr.heap.size, 1, none⟩ = some (.int .i64 head) := blkCell hg7' 1
            have c3 : w7.cell? ⟨wr.heap.size, 3, none⟩ = some (.string (S8 leaf)) := blkCell hg7' 3
            have hl7 : wr.heap.size < w7.heap.size := by omega
            have hl70 : w.heap.size < w7.heap.size := by omega
            have hbl7 : b6 < w7.heap.size := by omega
            clear hs7 hbl6
            have hF := refFind_new head (S8 leaf) w7
            rw [bl_S8] at hF
            have hfk := findR_kind head leaf
            have hfc := findR_cho head leaf
            generalize findR head leaf = FR at *
            obtain ⟨row, fb⟩ := FR
            simp only at hF HQ2 hfk hfc
            have HF := hid hF
            have HG7 := hid hg7'
            have HX7 := hid hx7
            clear hF hg7' hx7
            go_wp2_with fail
            refine HF.out.mono ?_
            rintro e w8 ⟨Aq, rfl, hb8, hch, hcf⟩
            clear HF c1 c3
            have hg8 := blk_below HG7.out hb8 hl7
            have hx8 := blk_below HX7.out hb8 hl70
            have hbw8 := hbw7.trans (hb8.mono hbw7.size)
            have p1'' := (hb8.cell (p := ⟨b6, o6 + 1, none⟩) hbl7).trans p1'
            have hs78 := hb8.size
            clear HG7 HX7 hbw7 p1' hb8
            have hi8 : (Tryz.prog.info? 88).map (·.size) = some (rwV row Aq).size := j8
            obtain ⟨hb9, hr9, hl9⟩ := box1 w8 (.cells (rwV row Aq) 88)
            have HW9 := hid (And.intro (blk_below hg8 hb9 (by omega)) (And.intro (blk_below hx8 hb9 (by omega)) (And.intro (hbw8.trans (hb9.mono hbw8.size)) (And.intro ((hb9.cell (p := ⟨b6, o6 + 1, none⟩) (by show b6 < _; omega)).trans p1'') (And.intro hr9 (hch.below hb9))))))
            clear hg8 hx8 hbw8 p1'' hr9 hch hb9
            go_upto_region 40 with (refine wpList_store_last rfl 88 (.tmp 17) (.tmp 215) rfl (rwV row Aq) rfl rfl hi8 rfl (rwV_one _ _) ?_)
            generalize w8.alloc (.cells (rwV row Aq) 88) = w9 at *
            obtain ⟨hg9, hx9, hbw9, q1, hr9, hch⟩ := HW9.out
            clear HW9
            have HG9 := hid hg9
            have HR9 := hid hr9
            clear hr9
            cases fb with
            | false =>
              have HQ3 : Hid (readL x (h :: r3) = none) := by show _ = _; rw [HQ2.out]; rfl
              have hx0 := hx9
              have hb0 := hbw9
              clear hg9 hx9 hbw9 HQ2 q1
              go_upto_region 41 with fail
              go_wp2_with (refine wpList_store_whole rfl 31 (.tmp 2) (.tmp 219) rfl (cmV cmd0) rfl rfl hx0 j6 rfl (cmV_one _) ?_)
              intro wz hgz hgrz
              have hbz := grown1 hb0 hgrz (Nat.le_refl _)
              go_wp2_with fail
              exact ret_row2 (fn := Tryz.f9) (x := .bool false) (cs := cmV cmd0) rfl rfl rfl hgz Tryz.underlying31 rfl j6 rfl ⟨⟨_, _, rfl, HQ3.out.symm⟩, hbz⟩
            | true =>
              have c0 : w9.cell? ⟨wr.heap.size, 0, none⟩ = some (.int .i64 1) := blkCell hg9 0
              have c4 : w9.cell? ⟨wr.heap.size, 4, none⟩ = some (.string ⟨#[]⟩) := blkCell hg9 4
              have f4 : w9.frozen? ⟨wr.heap.size, 4, none⟩ = false := by simp [World.frozen?, hg9]
              have HX9 := hid hx9
              clear hg9 hx9
              go_upto_region 44 with fail
              have hke := Kept.setCell (S := fun g => g = wr.heap.size) (Kept.refl _ w9) (p := ⟨wr.heap.size, 4, none⟩) (.inl rfl) (.string (S8 value))
              have HWA := hid (And.intro (show (w9.setCell ⟨wr.heap.size, 4, none⟩ (.string (S8 value))).heap[wr.heap.size]? = some (.cells (cmV ⟨1, ⟨head, name, leaf, value⟩, 0⟩) 31 (0, 0)) from blk_set HG9.out 4 (.string (S8 value))) (And.intro (blk_set_far HX9.out (p := ⟨wr.heap.size, 4, none⟩) (by show w.heap.size ≠ wr.heap.size; omega) (.string (S8 value)))
                (And.intro (hbw9.setCell (p := ⟨wr.heap.size, 4, none⟩) hgl2 (.string (S8 value))) (And.intro (show (w9.setCell ⟨wr.heap.size, 4, none⟩ (.string (S8 value))).heap.size = w9.heap.size by simp [World.setCell]) (And.intro (cell_far (i := 4) q1 hne61 (.string (S8 value)))
                (And.intro (blk_set_far HR9.out (p := ⟨wr.heap.size, 4, none⟩) (by show w8.heap.size ≠ wr.heap.size; omega) (.string (S8 value))) (sl_kept hch hke (fun ad had e => by have := hcf ad had; have e2 : ad.block = wr.heap.size := e; omega))))))))
              clear hke q1 hch HG9 HX9 HR9 c0 c4 f4 hbw9
              generalize w9.setCell ⟨wr.heap.size, 4, none⟩ (.string (S8 value)) = wA at *
              obtain ⟨hgA, hxA, hbwA, hsA, qA, hrA, hchA⟩ := HWA.out
              clear HWA
              have hblA : b6 < wA.heap.size := by omega
              have y0 := fun (z : WK (fun g => g = w.heap.size) wA) => (wat_cell (p := ⟨b6, o6 + 1, none⟩) hblA (fun e => by have e2 : b6 = w.heap.size := e; omega) z).trans qA
              have HGA : Hid (∀ wS, Kept (fun g => g = w.heap.size) wA wS → wS.heap[wr.heap.size]? = some (.cells (cmV ⟨1, ⟨head, name, leaf, value⟩, 0⟩) 31 (0, 0))) := fun wS hC => (hC.block wr.heap.size (by omega) (fun e => by have e2 : wr.heap.size = w.heap.size := e; omega)).trans hgA
              have HRA : Hid (∀ wS, Kept (fun g => g = w.heap.size) wA wS → wS.heap[w8.heap.size]? = some (.cells (rwV row Aq) 88 (0, 0))) := fun wS hC => (hC.block w8.heap.size (by omega) (fun e => by have e2 : w8.heap.size = w.heap.size := e; omega)).trans hrA
              have HRT : Hid (∀ wS, Kept (fun g => g = w.heap.size) wA wS → Calls Tryz.prog 46 #[.agg (rwV row Aq), .string (S8 value)] wS fun e w' => e = .returned (.bool (rightR row value)) ∧ Below wS.heap.size wS w') := by
                intro wS hC
                have := refRight_any row Aq (S8 value) wS (by rw [S8_size]; omega) (HEN.out.below (hbwA.trans (hC.below_of (B := w.heap.size) (by omega) (fun g hg => by have e2 : g = w.heap.size := hg; omega)))) (sl_kept hchA hC (fun ad had e => by have := hcf ad had; have e2 : ad.block = w.heap.size := e; omega)) (by omega) hfk
                rw [bl_S8] at this
                exact this
              have HXA := hid hxA
              have hlA : w.heap.size < wA.heap.size := by omega
              clear hgA hrA hchA qA hcf hfk hfc hxA
              have HQ3 : Hid (readL x (h :: r3) = if rightR row value = true then some ⟨1, ⟨head, name, leaf, value⟩, 0⟩ else none) := by show _ = _; rw [HQ2.out]; rfl
              clear HQ2
              generalize rightR row value = rb at *
              refine wp_region_loud (fun g => g = w.heap.size) [(0, plainL [] (.agg (cmV ⟨1, ⟨head, name, leaf, value⟩, 0⟩))), (1, plainL [] (.agg (rwV row Aq))), (5, plainL [] (.bool rb)), (6, keepL [100] (BlkF w.heap.size 31 (cmV ⟨1, ⟨head, name, leaf, value⟩, 0⟩)))] (labelled 100 (BlkF w.heap.size 31 #[.int .i64 0, .int .i64 0, .string ⟨#[]⟩, .string ⟨#[]⟩, .string ⟨#[]⟩, .int .i64 0])) (by kernel_rfl) (by kernel_rfl)
                (.cons (plainL_ok _ _) (.cons (plainL_ok _ _) (.cons (plainL_ok _ _) (.cons (keepL_ok _ (good_blk _ _ _)) .nil)))) (good_one 100 (good_blk _ _ _)) (sat_one 100 _ (fun g hg => by have e2 : g = w.heap.size := hg; omega) ⟨rfl, HXA.out⟩) (WX.out ?_)
              clear HXA
              repeat (first | (refine wx_quietU (by rfl) (by rfl) (by rfl) (fun K hK => ?_); go_big_quiet_op; refine hK _ ?_; clear hK K) | (refine wx_quietG (by rfl) (by rfl) (by rfl) (by rfl) (by rfl) (fun K hK => ?_); go_big_quiet_op; refine hK _ ?_; clear hK K) | (refine wx_skipG (by rfl) (by rfl) (by rfl) (fun K hK => ?_); go_simp; refine hK _ ?_; clear hK K) | (refine wx_skipN (by rfl) (by rfl) (by rfl) (fun K hK => ?_); go_simp; refine hK _ ?_; clear hK K))
              refine wx_loudU (us := []) (by rfl) (by rfl) (fun S wS hC hS hU => ?_) (fun v hv K hK => ?_)
              · exact runs_load_whole 31 (.tmp 14) rfl wr.heap.size rfl 31 (cmV ⟨1, ⟨head, name, leaf, value⟩, 0⟩) (0, 0) _ (HGA.out wS hC) Tryz.underlying31 rfl j6 ⟨rfl, Kept.refl _ _, trivial⟩
              obtain rfl := hv; (go_simp; refine hK _ ?_; clear hK K)
              repeat (first | (refine wx_quietU (by rfl) (by rfl) (by rfl) (fun K hK => ?_); go_big_quiet_op; refine hK _ ?_; clear hK K) | (refine wx_quietG (by rfl) (by rfl) (by rfl) (by rfl) (by rfl) (fun K hK => ?_); go_big_quiet_op; refine hK _ ?_; clear hK K) | (refine wx_skipG (by rfl) (by rfl) (by rfl) (fun K hK => ?_); go_simp; refine hK _ ?_; clear hK K) | (refine wx_skipN (by rfl) (by rfl) (by rfl) (fun K hK => ?_); go_simp; refine hK _ ?_; clear hK K))
              refine wx_loudU (us := []) (by rfl) (by rfl) (fun S wS hC hS hU => ?_) (fun v hv K hK => ?_)
              · exact runs_load_whole 88 (.tmp 17) rfl w8.heap.size rfl 88 (rwV row Aq) (0, 0) _ (HRA.out wS hC) Tryz.underlying88 rfl j8 ⟨rfl, Kept.refl _ _, trivial⟩
              obtain rfl := hv; (go_simp; refine hK _ ?_; clear hK K)
              repeat (first | (refine wx_quietU (by rfl) (by rfl) (by rfl) (fun K hK => ?_); go_big_quiet_op; refine hK _ ?_; clear hK K) | (refine wx_quietG (by rfl) (by rfl) (by rfl) (by rfl) (by rfl) (fun K hK => ?_); go_big_quiet_op; refine hK _ ?_; clear hK K) | (refine wx_skipG (by rfl) (by rfl) (by rfl) (fun K hK => ?_); go_simp; refine hK _ ?_; clear hK K) | (refine wx_skipN (by rfl) (by rfl) (by rfl) (fun K hK => ?_); go_simp; refine hK _ ?_; clear hK K))
              refine wx_loudU (us := []) (by rfl) (by rfl) (fun S wS hC hS hU => runs_enter (f := 46) (by go_simp <;> rfl) ?_) (fun v hv K hK => ?_)
              · refine (HRT.out wS hC).mono ?_
                rintro e w' ⟨rfl, hb⟩
                exact ⟨_, rfl, rfl, Kept.of_below hb, trivial⟩
              obtain rfl := hv; (go_simp; refine hK _ ?_; clear hK K)
              repeat (first | (refine wx_quietU (by rfl) (by rfl) (by rfl) (fun K hK => ?_); go_big_quiet_op; refine hK _ ?_; clear hK K) | (refine wx_quietG (by rfl) (by rfl) (by rfl) (by rfl) (by rfl) (fun K hK => ?_); go_big_quiet_op; refine hK _ ?_; clear hK K) | (refine wx_skipG (by rfl) (by rfl) (by rfl) (fun K hK => ?_); go_simp; refine hK _ ?_; clear hK K) | (refine wx_skipN (by rfl) (by rfl) (by rfl) (fun K hK => ?_); go_simp; refine hK _ ?_; clear hK K))
              refine wx_loudU (us := [100]) (by rfl) (by rfl) (fun S wS hC hS hU => ?_) (fun v hv K hK => ?_)
              · have hB : BlkF w.heap.size 31 #[.int .i64 0, .int .i64 0, .string ⟨#[]⟩, .string ⟨#[]⟩, .string ⟨#[]⟩, .int .i64 0] S wS := hU 100 (by simp)
                exact runs_store_whole 31 (.tmp 2) (.tmp 228) rfl (cmV ⟨1, ⟨head, name, leaf, value⟩, 0⟩) rfl rfl hB.2 j6 rfl (cmV_one _) ⟨trivial, kept_setRow wS w.heap.size _ hB.1, .inl hB.1, setRow_heap _ _ _ _ _ _ hB.2⟩
              (go_simp; refine hK _ ?_; clear hK K)
              repeat (first | (refine wx_quietU (by rfl) (by rfl) (by rfl) (fun K hK => ?_); go_big_quiet_op; refine hK _ ?_; clear hK K) | (refine wx_quietG (by rfl) (by rfl) (by rfl) (by rfl) (by rfl) (fun K hK => ?_); go_big_quiet_op; refine hK _ ?_; clear hK K) | (refine wx_skipG (by rfl) (by rfl) (by rfl) (fun K hK => ?_); go_simp; refine hK _ ?_; clear hK K) | (refine wx_skipN (by rfl) (by rfl) (by rfl) (fun K hK => ?_); go_simp; refine hK _ ?_; clear hK K))
              refine wx_nil fun wz hsat => ?_
              obtain ⟨S9, hS9, hF9⟩ := sat_get hsat 6
              have hgz := (show BlkF w.heap.size 31 (cmV ⟨1, ⟨head, name, leaf, value⟩, 0⟩) S9 wz from hF9).2
              have hbz := hbwA.trans (hsat.1.below_of (B := w.heap.size) (by omega) (fun g hg => by have e2 : g = w.heap.size := hg; omega))
              clear hsat hF9 hS9 y0
              go_wp2_with fail
              exact ret_row2 (fn := Tryz.f9) (x := .bool rb) (cs := cmV ⟨1, ⟨head, name, leaf, value⟩, 0⟩) rfl rfl rfl hgz Tryz.underlying31 rfl j6 rfl ⟨⟨_, _, rfl, HQ3.out.symm⟩, hbz⟩
end Go.Proofs.YtfojgimficdjhaaGreatDoor
