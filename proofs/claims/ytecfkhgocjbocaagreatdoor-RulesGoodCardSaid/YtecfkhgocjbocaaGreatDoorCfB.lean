/-
  Contract of package conf: Text.
-/
import Derived.Test.YtecfkhgocjbocaaGreatDoorCfA
namespace Go.Proofs.YtecfkhgocjbocaaGreatDoor
set_option linter.unusedVariables false
set_option linter.unusedSimpArgs false
open Go Go.RowKit

namespace CF
theorem own_keptB {w w' : World} {base b n : Nat} {v : Value} {xs : List Value} (h : w.ownsRow base 9 1 v n xs) (hk : KeptB b w w') (hb : b < base) : w'.ownsRow base 9 1 v n xs := by
  obtain ⟨hl, h1 | ⟨g', cap, cur, hv, hbb, hg, hnc, hm, hsz, ht⟩⟩ := h
  · exact ⟨hl, .inl h1⟩
  · exact ⟨hl, .inr ⟨g', cap, cur, hv, hbb, hk g' _ hg (by simp; omega) (fun c fz e => by injection e with _ e2 _; exact absurd e2 (by decide)), hnc, hm, hsz, ht⟩⟩
theorem lnames_mem {zs : List (List UInt8)} {x : List UInt8} (h : x ∈ Lib.compact zs) : x ∈ zs := by
  unfold Lib.compact Lib.compactUpTo at h
  obtain ⟨j, hj, rfl⟩ := List.mem_map.1 h
  have hj2 := List.mem_range.1 (List.mem_filter.1 hj).1
  rw [getElem!_pos zs.toArray j (by simpa using hj2)]
  simp
theorem namC_eq (C : List Ln) (h : Int) (hr : RightC C = true) (h0 : h ≠ 0) : namC C h = Lib.compact (namRaw C h) := by unfold namC; rw [if_pos ⟨hr, h0⟩, compact_fold, fold_raw]
theorem namC_len (C : List Ln) (h : Int) (hr : RightC C = true) : (namC C h).length ≤ 64 := by
  by_cases h0 : h = 0
  · unfold namC; rw [if_neg (fun k => k.2 h0)]; simp
  · rw [namC_eq C h hr h0]
    have h1 := compact_len (namRaw C h)
    have h2 := raw_len C h C.length
    rw [List.take_of_length_le (Nat.le_refl _)] at h2
    have h3 := ((RightC_iff C).1 hr).2.2
    omega
theorem namC_mem (C : List Ln) (h : Int) (x : List UInt8) (hx : x ∈ namC C h) : ∃ l ∈ C, l.head = h ∧ l.name = x := by
  by_cases hh : RightC C = true ∧ h ≠ 0
  · rw [namC_eq C h hh.1 hh.2] at hx
    have := lnames_mem hx
    unfold namRaw at this
    obtain ⟨l, hl, rfl⟩ := List.mem_map.1 this
    have h2 := List.mem_filter.1 hl
    exact ⟨l, h2.1, by simpa using h2.2, rfl⟩
  · unfold namC at hx
    rw [if_neg hh] at hx
    simp at hx
theorem blockT_len (C : List Ln) (h : Int) (nm : List UInt8) (hC : ∀ l ∈ C, LnOk l) (hn : C.length ≤ 64) (hnm : nm.length ≤ 2000000) : (blockT C h nm).length ≤ 260000000 := by
  have h1 := bodyB_len C h nm hC
  have hwl : (wordT h).length ≤ 10 := by unfold wordT; split <;> simp
  unfold blockT headB
  simp only [List.length_append, List.length_cons, List.length_nil]
  have h3 : C.length * 4000010 ≤ 64 * 4000010 := Nat.mul_le_mul_right _ hn
  omega
theorem topT_len (C : List Ln) (hC : ∀ l ∈ C, LnOk l) (hn : C.length ≤ 64) : (topT C).length ≤ 260000000 := by
  have h1 : (topT C).length ≤ C.length * 4000010 := flat_len C _ _ fun x hx => by
    split
    · exact lineX_len x (hC x hx)
    · simp
  have h3 : C.length * 4000010 ≤ 64 * 4000010 := Nat.mul_le_mul_right _ hn
  omega
def partT (C : List Ln) (h : Int) (j : Nat) : List UInt8 := ((namC C h).take j).flatMap (blockT C h)
theorem partT_len (C : List Ln) (h : Int) (j : Nat) (hC : ∀ l ∈ C, LnOk l) (hr : RightC C = true) : (partT C h j).length ≤ 17000000000 := by
  have hn := ((RightC_iff C).1 hr).2.2
  have h1 : (partT C h j).length ≤ ((namC C h).take j).length * 260000000 := flat_len _ _ _ fun x hx => by
    obtain ⟨l, hl, _, rfl⟩ := namC_mem C h x (List.mem_of_mem_take hx)
    exact blockT_len C h _ hC hn (hC l hl).1
  have h2 := namC_len C h hr
  have h4 : ((namC C h).take j).length ≤ 64 := by rw [List.length_take]; omega
  have h3 : ((namC C h).take j).length * 260000000 ≤ 64 * 260000000 := Nat.mul_le_mul_right _ h4
  omega
theorem partT_succ (C : List Ln) (h : Int) (j : Nat) (hj : j < (namC C h).length) : partT C h (j + 1) = partT C h j ++ blockT C h ((namC C h).getD j []) := by
  unfold partT
  rw [List.take_succ_eq_append_getElem hj, List.flatMap_append, List.getD_eq_getElem?_getD, List.getElem?_eq_getElem hj]
  simp
theorem partT_all (C : List Ln) (h : Int) : partT C h (namC C h).length = (namC C h).flatMap (blockT C h) := by
  unfold partT
  rw [List.take_of_length_le (Nat.le_refl _)]
set_option maxRecDepth 100000 in
set_option maxHeartbeats 6400000 in
theorem Text_any (C : List Ln) (A : Option Addr) (n c : Nat) (w : World) (hsl : Sl w 4 (.slice A n c) (LNS C)) (hC : ∀ l ∈ C, LnOk l) (hen : Env w) :
    Calls Tryz.prog 31 #[.slice A n c] w fun e w' => e = .returned (.string (S8 (textC C))) ∧ Below w.heap.size w w' := by
  have hn := (sl_lns hsl).1
  obtain ⟨-, hc1, hc2⟩ := sl_lns hsl
  have HV0 : Hid (RightC C = false → textC C = []) := fun hr => by unfold textC; rw [if_neg (by rw [hr]; simp)]
  have HV1 : Hid (RightC C = true → textC C = topT C ++ ((namC C 1).flatMap (blockT C 1) ++ (namC C 2).flatMap (blockT C 2))) := fun hr => by unfold textC; rw [if_pos hr]
  have H64 : Hid (RightC C = true → n ≤ 64) := fun h => by have := ((RightC_iff C).1 h).2.2; omega
  have HRC := hid (Right_any C A n c w hsl hC hen)
  have HSL0 := hid hsl
  have HEN0 := hid hen
  have HOKC : Hid (∀ l ∈ C, LnOk l) := hC
  have HTS : Hid (∀ k < n, topT (C.take (k + 1)) = topT (C.take k) ++ (if (lnAt C k).head = 0 then lineX (lnAt C k) else [])) := fun k hk => flat_succ C _ k (by omega)
  have HTZ : Hid (topT (C.take n) = topT C) := by show _ = _; rw [List.take_of_length_le (by omega)]
  have HTL : Hid (RightC C = true → ∀ k, (topT (C.take k)).length ≤ 260000000) := fun hr k => topT_len _ (fun l hl => hC l (List.mem_of_mem_take hl)) (by have := ((RightC_iff C).1 hr).2.2; rw [List.length_take]; omega)
  have HL : Hid (∀ k < n, LnOk (lnAt C k)) := fun k hk => by rw [lnAt_get C k (by omega)]; exact hC _ (List.getElem_mem _)
  clear hsl hC hen hn
  generalize textC C = V at *
  go_enter Tryz.func31, Tryz.ntmps31
  go_wp2_with fail
  refine HRC.out.mono ?_
  rintro e w1 ⟨rfl, hb1⟩
  clear HRC
  cases b1 : RightC C with
  | false =>
    have HE := hid (HV0.out b1)
    clear HV0 HV1 H64 HTS HTZ HTL HL b1
    go_wp2_with fail
    go_ret
    exact ⟨by rw [HE.out]; rfl, hb1⟩
  | true =>
    have HE := hid (HV1.out b1)
    have hn64 := H64.out b1
    have HTL1 := hid (HTL.out b1)
    have HRT := hid b1
    clear HV0 HV1 H64 HTL b1
    have hnew := isB_new w1
    obtain ⟨hb2, _, hl2⟩ := box1 w1 (.cells #[.pointer none, .slice none 0 0] 107)
    have HW2 := hid (And.intro hnew (And.intro hb2 hl2))
    clear hnew hb2 hl2
    go_upto_region 4 with fail
    generalize w1.alloc (.cells #[.pointer none, .slice none 0 0] 107) = w2 at *
    obtain ⟨hnew, hb2, hl2⟩ := HW2.out
    have HSL : Hid (∀ w', Below w1.heap.size w2 w' → Sl w' 4 (.slice A n c) (LNS C)) := fun w' hb => (HSL0.out.below hb1).below (hb2.trans hb)
    have HEN : Hid (∀ w', Below w1.heap.size w2 w' → Env w') := fun w' hb => (HEN0.out.below hb1).below (hb2.trans hb)
    have HFI : Hid (∀ w', Below w1.heap.size w2 w' → Below w.heap.size w w') := fun w' hb => hb1.trans ((hb2.trans hb).mono hb1.size)
    have hs12 := hb1.size
    clear HW2 hb2 HSL0 HEN0 hb1
    obtain ⟨b, hb⟩ : ∃ b, b = w1.heap.size := ⟨_, rfl⟩
    rw [← hb] at HSL HEN HFI hnew hl2 ⊢
    clear hb
    go_wp2_with fail
    go_loopw [15] (fun i wr => ∃ k : Nat, k ≤ n ∧ i = .int .i64 k ∧ IsB b b (topT (C.take k)) wr ∧ Below b w2 wr) (fun i _ => n - (intOf i).toNat)
    case atStart => exact ⟨0, Nat.zero_le _, rfl, hnew, Below.refl _ _⟩
    case round =>
      obtain ⟨k, hk, rfl, hib, hbl⟩ := hrel
      have hszr := hbl.size
      by_cases hlt : k < n
      · obtain ⟨bb, off, rfl, hbb, hcl⟩ := sl_ln (HSL.out wr hbl) hlt
        have HS := hid (HTS.out k hlt)
        have hll := HTL1.out k
        obtain ⟨hok1, hok2, hok3⟩ := HL.out k hlt
        obtain ⟨hb3, hg3, hl3⟩ := box1 wr (.cells (lnV (lnAt C k)) 29)
        clear HTS HTZ HTL1 HL HE
        generalize lnAt C k = l at *
        generalize topT (C.take k) = R at *
        go_upto_region 7 with (first | refine wpList_load_mid rfl 29 (.tmp 17) rfl bb (off + k * 4) rfl (lnC l) _ hcl Tryz.underlying29 rfl i4 ?_ | refine wpList_store_last rfl 29 (.tmp 5) (.tmp 18) rfl (lnV l) rfl rfl i4 rfl (lnV_one _) ?_)
        generalize wr.alloc (.cells (lnV l) 29) = w3 at *
        have HB3 := hid (isB_below hib hb3)
        have hbl3 := hbl.trans (hb3.mono (show b ≤ wr.heap.size by omega))
        have q0 : w3.cell? ⟨wr.heap.size, 0, none⟩ = some (.int .i64 l.head) := by rw [blkCell hg3 0]; rfl
        have q2 : w3.cell? ⟨wr.heap.size, 2, none⟩ = some (.string (S8 l.leaf)) := by rw [blkCell hg3 2]; rfl
        have q3 : w3.cell? ⟨wr.heap.size, 3, none⟩ = some (.string (S8 l.value)) := by rw [blkCell hg3 3]; rfl
        have hsz3 := hb3.size
        clear hcl hg3 hib hb3 hbl
        by_cases e1 : l.head = 0
        · have te1 : (l.head == 0) = true := by simpa using e1
          rw [if_pos e1] at HS
          obtain ⟨y1, hy1⟩ : ∃ z, z = l.leaf ++ [32] := ⟨_, rfl⟩
          obtain ⟨y2, hy2⟩ : ∃ z, z = y1 ++ l.value := ⟨_, rfl⟩
          obtain ⟨y3, hy3⟩ : ∃ z, z = y2 ++ [59, 10] := ⟨_, rfl⟩
          have hy1l : y1.length ≤ 2000001 := by rw [hy1, List.length_append]; simp only [List.length_cons, List.length_nil]; omega
          have hy2l : y2.length ≤ 4000001 := by rw [hy2, List.length_append]; omega
          have hy3l : y3.length ≤ 4000003 := by rw [hy3, List.length_append]; simp only [List.length_cons, List.length_nil]; omega
          have a1 := fun w' : World => cat8 (w := w') l.leaf [32] y1 hy1 (by simp; omega)
          have a2 := fun w' : World => cat8 (w := w') y1 l.value y2 hy2 (by omega)
          have a3 := fun w' : World => cat8 (w := w') y2 [59, 10] y3 hy3 (by simp; omega)
          rw [show S8 [32] = (⟨#[32]⟩ : ByteArray) from rfl] at a1
          rw [show S8 [59, 10] = (⟨#[59, 10]⟩ : ByteArray) from rfl] at a3
          have HY : Hid (y3 = lineX l) := by show _ = _; rw [hy3, hy2, hy1]; rfl
          clear hy1 hy2 hy3 e1
          go_wp2_with fail
          refine (writeString_any b b R y3 w3 HB3.out (by omega) (by omega)).mono ?_
          rintro e w4 ⟨rfl, hb4, hbl4, -⟩
          have hblz := hbl3.trans hbl4
          have HBZ3 : Hid (IsB b b (topT (C.take (k + 1))) w4) := by
            rw [HS.out, ← HY.out]
            exact hb4
          clear hb4 HB3 q0 q2 q3 a1 a2 a3 hbl3 hbl4
          go_wp2_with fail
          go_light
          exact ⟨⟨k + 1, by omega, by go_num, HBZ3.out, hblz⟩, by simp [intOf]; omega⟩
        · have te1 : (l.head == 0) = false := by simpa using e1
          rw [if_neg e1, List.append_nil] at HS
          clear e1
          go_wp2_with fail
          go_light
          exact ⟨⟨k + 1, by omega, by go_num, by rw [HS.out]; exact HB3.out, hbl3⟩, by simp [intOf]; omega⟩
      · obtain rfl : n = k := by omega
        have htl := HTL1.out n
        rw [HTZ.out] at hib htl
        clear HTS HTZ HTL1 HL
        generalize topT C = T at *
        have HIB := hid hib
        clear hib
        obtain ⟨hb4, hg4, hl4⟩ := box1 wr (.cells #[.int .i64 1, .int .i64 2] 3)
        have HW4 := hid (And.intro hb4 (And.intro hg4 hl4))
        clear hb4 hg4 hl4
        go_wp2_with fail
        obtain ⟨gI, hgi⟩ : ∃ g, g = wr.heap.size := ⟨_, rfl⟩
        rw [← hgi] at HW4 ⊢
        generalize wr.alloc (.cells #[.int .i64 1, .int .i64 2] 3) = w4 at *
        obtain ⟨hb4, hg4, hl4⟩ := HW4.out
        have HIB4 : Hid (IsB b b T w4) := isB_below HIB.out (by rw [← hgi]; exact hb4)
        have hbl4 := hbl.trans (hb4.mono (show b ≤ gI by omega))
        have hgb : b < gI := by omega
        clear HW4 hb4 HIB hbl hgi
        obtain ⟨T1, hT1⟩ : ∃ z, z = T ++ (namC C 1).flatMap (blockT C 1) := ⟨_, rfl⟩
        obtain ⟨T2, hT2⟩ : ∃ z, z = T1 ++ (namC C 2).flatMap (blockT C 2) := ⟨_, rfl⟩
        have hT1l : T1.length ≤ 18000000000 := by
          have := partT_len C 1 (namC C 1).length HOKC.out HRT.out
          rw [partT_all] at this
          rw [hT1, List.length_append]; omega
        have HT1 := hid hT1
        have HT2 := hid hT2
        have HV2 : Hid (V = T2) := by show _ = _; rw [HE.out, hT2, hT1, List.append_assoc]
        clear hT1 hT2 HE
        go_loopw [33] (fun i wq => ((i = .int .i64 0 ∧ IsB b b T wq) ∨ (i = .int .i64 1 ∧ IsB b b T1 wq) ∨ (i = .int .i64 2 ∧ IsB b b T2 wq)) ∧ Below b w2 wq ∧ wq.heap[gI]? = some (.cells #[.int .i64 1, .int .i64 2] 3 (0, 0))) (fun i _ => 2 - (intOf i).toNat)
        case atStart => exact ⟨.inl ⟨rfl, HIB4.out⟩, hbl4, hg4⟩
        case round =>
          clear HIB4 hbl4 hg4 hl4
          obtain ⟨hm, hbl, hgI⟩ := hrel
          rcases hm with ⟨rfl, hib⟩ | ⟨rfl, hib⟩ | ⟨rfl, hib⟩
          ·
            obtain ⟨wo, rfl⟩ : ∃ wo : World, wo = wr := ⟨_, rfl⟩
            have hslr := HSL.out wo hbl
            have HNM := hid (Names_any C 1 A n c wo hslr HOKC.out (HEN.out wo hbl))
            have HMEM : Hid (∀ j < (namC C 1).length, ((namC C 1).getD j []).length ≤ 2000000) := fun j hj => by
              rw [List.getD_eq_getElem?_getD, List.getElem?_eq_getElem hj]
              obtain ⟨l, hl, _, he⟩ := namC_mem C 1 _ (List.getElem_mem hj)
              show (((namC C 1)[j]).length) ≤ _
              rw [← he]
              exact (HOKC.out l hl).1
            have HPS : Hid (∀ j < (namC C 1).length, partT C 1 (j + 1) = partT C 1 j ++ blockT C 1 ((namC C 1).getD j [])) := partT_succ C 1
            have HPL : Hid (∀ j, (partT C 1 j).length ≤ 17000000000) := fun j => partT_len C 1 j HOKC.out HRT.out
            have HPA : Hid (partT C 1 (namC C 1).length = (namC C 1).flatMap (blockT C 1)) := partT_all C 1
            have HPZ : Hid (partT C 1 0 = []) := rfl
            have hnl := namC_len C 1 HRT.out
            have q0 : wo.cell? ⟨gI, 0, none⟩ = some (.int .i64 1) := by rw [blkCell hgI 0]; rfl
            clear hslr
            generalize hLL : namC C 1 = L at *
            have HLL := hid hLL
            clear hLL
            go_wp2_with fail
            refine HNM.out.mono ?_
            rintro e w5 ⟨⟨A5, c5, rfl, hown⟩, hb5⟩
            have HIB5 := hid (isB_below hib hb5)
            have hbl5 := hbl.trans (hb5.mono (by have := hbl.size; omega))
            have hgI5 := blk_below hgI hb5 (blk_lt hgI)
            have hblr := hbl.size
            have hbase : b < wo.heap.size := by omega
            clear HNM q0 hib hb5
            go_wp2_with fail
            go_loopw [41] (fun i wr => ∃ j : Nat, j ≤ L.length ∧ i = .int .i64 j ∧ IsB b b (T ++ partT C 1 j) wr ∧ Below b w2 wr ∧ wr.heap[gI]? = some (.cells #[.int .i64 1, .int .i64 2] 3 (0, 0)) ∧ wr.ownsRow wo.heap.size 9 1 (.slice A5 L.length c5) L.length (STR L)) (fun i _ => L.length - (intOf i).toNat)
            case atStart => exact ⟨0, Nat.zero_le _, rfl, by rw [HPZ.out, List.append_nil]; exact HIB5.out, hbl5, hgI5, hown⟩
            case round =>
              obtain ⟨j, hj, rfl, hib6, hbl6, hgI6, hown6⟩ := hrel
              have hs6 := hbl6.size
              by_cases hlt : j < L.length
              · obtain ⟨bb, off, rfl, hbb, hcj⟩ := STR_cell (own_sl hown6) hlt
                have hnm := HMEM.out j hlt
                have HP1 := hid (HPS.out j hlt)
                have hpl := HPL.out j
                clear HMEM HPS HPL HPA HPZ HIB5
                generalize L.getD j [] = nm at *
                generalize partT C 1 j = R at *
                have HBK := hid (block_any b b C 1 nm (T ++ R) A n c wr (by omega) hib6 (fun w' hb => HSL.out w' (hbl6.trans hb)) HOKC.out hnm hn64 (by rw [List.length_append]; omega))
                have HO6 := hid hown6
                clear hib6 hown6
                go_wp2_with fail
                refine HBK.out.mono ?_
                rintro e w7 ⟨rfl, hb7, hbl7, hk7⟩
                have HIB7 : Hid (IsB b b (T ++ partT C 1 (j + 1)) w7) := by rw [HP1.out, ← List.append_assoc]; exact hb7
                have hbl8 := hbl6.trans hbl7
                have hgI7 := hk7 gI _ hgI6 (by simp; omega) (fun c fz e => by injection e with _ e2 _; exact absurd e2 (by decide))
                have HO7 := hid (own_keptB HO6.out hk7 hbase)
                clear HBK HO6 hb7 hbl7 hk7 hcj hgI6 hbl6
                go_wp2_with fail
                go_light
                exact ⟨⟨j + 1, by omega, by go_num, HIB7.out, hbl8, hgI7, HO7.out⟩, by simp [intOf]; omega⟩
              · obtain rfl : j = L.length := by omega
                have HIB7 : Hid (IsB b b (T ++ L.flatMap (blockT C 1)) wr) := by rw [← HPA.out]; exact hib6
                clear HMEM HPS HPL HPA HPZ HIB5 hown6 hib6
                go_wp2_with fail
                go_light
                exact ⟨⟨.inr (.inl ⟨rfl, by rw [HT1.out]; exact HIB7.out⟩), hbl6, hgI6⟩, by simp [intOf]⟩
          ·
            obtain ⟨wo, rfl⟩ : ∃ wo : World, wo = wr := ⟨_, rfl⟩
            have hslr := HSL.out wo hbl
            have HNM := hid (Names_any C 2 A n c wo hslr HOKC.out (HEN.out wo hbl))
            have HMEM : Hid (∀ j < (namC C 2).length, ((namC C 2).getD j []).length ≤ 2000000) := fun j hj => by
              rw [List.getD_eq_getElem?_getD, List.getElem?_eq_getElem hj]
              obtain ⟨l, hl, _, he⟩ := namC_mem C 2 _ (List.getElem_mem hj)
              show (((namC C 2)[j]).length) ≤ _
              rw [← he]
              exact (HOKC.out l hl).1
            have HPS : Hid (∀ j < (namC C 2).length, partT C 2 (j + 1) = partT C 2 j ++ blockT C 2 ((namC C 2).getD j [])) := partT_succ C 2
            have HPL : Hid (∀ j, (partT C 2 j).length ≤ 17000000000) := fun j => partT_len C 2 j HOKC.out HRT.out
            have HPA : Hid (partT C 2 (namC C 2).length = (namC C 2).flatMap (blockT C 2)) := partT_all C 2
            have HPZ : Hid (partT C 2 0 = []) := rfl
            have hnl := namC_len C 2 HRT.out
            have q0 : wo.cell? ⟨gI, 1, none⟩ = some (.int .i64 2) := by rw [blkCell hgI 1]; rfl
            clear hslr
            generalize hLL : namC C 2 = L at *
            have HLL := hid hLL
            clear hLL
            go_wp2_with fail
            refine HNM.out.mono ?_
            rintro e w5 ⟨⟨A5, c5, rfl, hown⟩, hb5⟩
            have HIB5 := hid (isB_below hib hb5)
            have hbl5 := hbl.trans (hb5.mono (by have := hbl.size; omega))
            have hgI5 := blk_below hgI hb5 (blk_lt hgI)
            have hblr := hbl.size
            have hbase : b < wo.heap.size := by omega
            clear HNM q0 hib hb5
            go_wp2_with fail
            go_loopw [41] (fun i wr => ∃ j : Nat, j ≤ L.length ∧ i = .int .i64 j ∧ IsB b b (T1 ++ partT C 2 j) wr ∧ Below b w2 wr ∧ wr.heap[gI]? = some (.cells #[.int .i64 1, .int .i64 2] 3 (0, 0)) ∧ wr.ownsRow wo.heap.size 9 1 (.slice A5 L.length c5) L.length (STR L)) (fun i _ => L.length - (intOf i).toNat)
            case atStart => exact ⟨0, Nat.zero_le _, rfl, by rw [HPZ.out, List.append_nil]; exact HIB5.out, hbl5, hgI5, hown⟩
            case round =>
              obtain ⟨j, hj, rfl, hib6, hbl6, hgI6, hown6⟩ := hrel
              have hs6 := hbl6.size
              by_cases hlt : j < L.length
              · obtain ⟨bb, off, rfl, hbb, hcj⟩ := STR_cell (own_sl hown6) hlt
                have hnm := HMEM.out j hlt
                have HP1 := hid (HPS.out j hlt)
                have hpl := HPL.out j
                clear HMEM HPS HPL HPA HPZ HIB5
                generalize L.getD j [] = nm at *
                generalize partT C 2 j = R at *
                have HBK := hid (block_any b b C 2 nm (T1 ++ R) A n c wr (by omega) hib6 (fun w' hb => HSL.out w' (hbl6.trans hb)) HOKC.out hnm hn64 (by rw [List.length_append]; omega))
                have HO6 := hid hown6
                clear hib6 hown6
                go_wp2_with fail
                refine HBK.out.mono ?_
                rintro e w7 ⟨rfl, hb7, hbl7, hk7⟩
                have HIB7 : Hid (IsB b b (T1 ++ partT C 2 (j + 1)) w7) := by rw [HP1.out, ← List.append_assoc]; exact hb7
                have hbl8 := hbl6.trans hbl7
                have hgI7 := hk7 gI _ hgI6 (by simp; omega) (fun c fz e => by injection e with _ e2 _; exact absurd e2 (by decide))
                have HO7 := hid (own_keptB HO6.out hk7 hbase)
                clear HBK HO6 hb7 hbl7 hk7 hcj hgI6 hbl6
                go_wp2_with fail
                go_light
                exact ⟨⟨j + 1, by omega, by go_num, HIB7.out, hbl8, hgI7, HO7.out⟩, by simp [intOf]; omega⟩
              · obtain rfl : j = L.length := by omega
                have HIB7 : Hid (IsB b b (T1 ++ L.flatMap (blockT C 2)) wr) := by rw [← HPA.out]; exact hib6
                clear HMEM HPS HPL HPA HPZ HIB5 hown6 hib6
                go_wp2_with fail
                go_light
                exact ⟨⟨.inr (.inr ⟨rfl, by rw [HT2.out]; exact HIB7.out⟩), hbl6, hgI6⟩, by simp [intOf]⟩
          · have hszq := hbl.size
            have HIBQ := hid hib
            clear hib
            go_wp2_with fail
            refine (builderString_any b b T2 wr HIBQ.out (by omega)).mono ?_
            rintro e w9 ⟨rfl, hb9⟩
            have hblz := hbl.trans hb9
            clear hb9 HIBQ
            go_wp2_with fail
            go_ret
            exact ⟨by rw [HV2.out]; rfl, HFI.out w9 hblz⟩
end CF
end Go.Proofs.YtecfkhgocjbocaaGreatDoor
