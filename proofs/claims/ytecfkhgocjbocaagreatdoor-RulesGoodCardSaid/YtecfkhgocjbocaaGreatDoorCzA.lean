/-
  Contracts of layer 5's reference: Less, RightLine.
  Contract of layer 5's reference: Right.
  Contract of layer 5's reference: Set.
  Contracts of layer 5's law: To, From.
  Contract of layer 5's law: Build.
  Contract of layer 5's reference: Put.
  Bytes as lines (plain); contract of package conf: text.
  Contract of package conf: Get.
  Contract of layer 5's reference: Get.
  A line that may be is a short one.
  Two lines compared by value.
  Contracts: two configurations held against each other (the reference's Same; slices.Equal, conf.Same).
  The walk of ConfGets.
-/
import Derived.Test.YtecfkhgocjbocaaGreatDoorCf2
import Derived.Test.YtecfkhgocjbocaaGreatDoorCf7
import Derived.Test.YtecfkhgocjbocaaGreatDoorWb
import Derived.Test.YtecfkhgocjbocaaGreatDoorCfA
import Derived.Test.YtecfkhgocjbocaaGreatDoorApp
import Derived.Test.YtecfkhgocjbocaaGreatDoorCf3
import Derived.Laws.StructEq
import Derived.Test.YtecfkhgocjbocaaGreatDoorCfC
namespace Go.Proofs.YtecfkhgocjbocaaGreatDoor
set_option linter.unusedVariables false
set_option linter.unusedSimpArgs false
open Go Go.RowKit

namespace CF
set_option maxRecDepth 100000 in
set_option maxHeartbeats 1600000 in
theorem refLess_any (a b : Ln) (w : World) :
    Calls Tryz.prog 46 #[.agg (lnV a), .agg (lnV b)] w fun e w' => e = .returned (.bool (lessL a b)) ∧ Below w.heap.size w w' := by
  obtain ⟨h1, n1, l1, v1⟩ := a
  obtain ⟨h2, n2, l2, v2⟩ := b
  show Calls _ _ #[.agg #[.int .i64 h1, .string (S8 n1), .string (S8 l1), .string (S8 v1)], .agg #[.int .i64 h2, .string (S8 n2), .string (S8 l2), .string (S8 v2)]] _ _
  have hL := lessL_ref ⟨h1, n1, l1, v1⟩ ⟨h2, n2, l2, v2⟩
  simp only at hL
  have hb1 : Op.bytesLess n1 n2 = Op.bytesLess (S8 n1).toList (S8 n2).toList := by rw [show (S8 n1).toList = n1 from Lib.toList_data _, show (S8 n2).toList = n2 from Lib.toList_data _]
  have hb2 : Op.bytesLess l1 l2 = Op.bytesLess (S8 l1).toList (S8 l2).toList := by rw [show (S8 l1).toList = l1 from Lib.toList_data _, show (S8 l2).toList = l2 from Lib.toList_data _]
  have hq : ((S8 n1).toList == (S8 n2).toList) = decide (n1 = n2) := by
    rw [show (S8 n1).toList = n1 from Lib.toList_data _, show (S8 n2).toList = n2 from Lib.toList_data _, Bool.eq_iff_iff]
    simp
  rw [hb1, hb2] at hL
  clear hb1 hb2
  generalize lessL ⟨h1, n1, l1, v1⟩ ⟨h2, n2, l2, v2⟩ = LB at *
  generalize S8 n1 = t1 at *
  generalize S8 n2 = t2 at *
  generalize S8 l1 = f1 at *
  generalize S8 l2 = f2 at *
  generalize S8 v1 = u1 at *
  generalize S8 v2 = u2 at *
  by_cases c1 : h1 = h2
  · have te : (h1 != h2) = false := by rw [c1]; simp
    rw [if_pos c1] at hL
    by_cases c2 : n1 = n2
    · have ts : (t1.toList == t2.toList) = true := by rw [hq]; simpa using c2
      have ts2 : (t1.toList != t2.toList) = false := by rw [bne, ts]; rfl
      rw [if_pos c2] at hL
      have HL := hid hL
      clear hL hq c1 c2
      obtain ⟨hb0, hx0, hl0⟩ := box1 w (.cells #[.int .i64 h1, .string t1, .string f1, .string u1] 48)
      obtain ⟨hb1, hx1, hl1⟩ := box1 (w.alloc (.cells #[.int .i64 h1, .string t1, .string f1, .string u1] 48)) (.cells #[.int .i64 h2, .string t2, .string f2, .string u2] 48)
      have hp1 := blk_below hx0 hb1 hl0
      have hbw := hb0.trans (hb1.mono hb0.size)
      have hsz : (w.alloc (.cells #[.int .i64 h1, .string t1, .string f1, .string u1] 48)).heap.size = w.heap.size + 1 := by simp
      rw [hsz] at hx1
      have HW := hid (And.intro hx1 (And.intro hp1 hbw))
      clear hx1 hp1 hbw hb0 hx0 hl0 hb1 hl1 hsz
      go_enter Tryz.func46, Tryz.ntmps46
      go_upto_region 1 with fail
      generalize (w.alloc (.cells #[.int .i64 h1, .string t1, .string f1, .string u1] 48)).alloc (.cells #[.int .i64 h2, .string t2, .string f2, .string u2] 48) = w1 at *
      obtain ⟨hba, hbb, hbw⟩ := HW.out
      clear HW
      have a0 := blkCell hbb 0
      have a1 := blkCell hbb 1
      have a2 := blkCell hbb 2
      have b0 := blkCell hba 0
      have b1 := blkCell hba 1
      have b2 := blkCell hba 2
      simp only [List.getElem?_toArray, List.getElem?_cons_zero, List.getElem?_cons_succ] at a0 a1 a2 b0 b1 b2
      clear hba hbb
      go_wp2_with fail
      go_ret
      exact ⟨ret_bool (by rw [HL.out]), hbw⟩
    · have ts : (t1.toList == t2.toList) = false := by rw [hq]; simpa using c2
      have ts2 : (t1.toList != t2.toList) = true := by rw [bne, ts]; rfl
      rw [if_neg c2] at hL
      have HL := hid hL
      clear hL hq c1 c2
      obtain ⟨hb0, hx0, hl0⟩ := box1 w (.cells #[.int .i64 h1, .string t1, .string f1, .string u1] 48)
      obtain ⟨hb1, hx1, hl1⟩ := box1 (w.alloc (.cells #[.int .i64 h1, .string t1, .string f1, .string u1] 48)) (.cells #[.int .i64 h2, .string t2, .string f2, .string u2] 48)
      have hp1 := blk_below hx0 hb1 hl0
      have hbw := hb0.trans (hb1.mono hb0.size)
      have hsz : (w.alloc (.cells #[.int .i64 h1, .string t1, .string f1, .string u1] 48)).heap.size = w.heap.size + 1 := by simp
      rw [hsz] at hx1
      have HW := hid (And.intro hx1 (And.intro hp1 hbw))
      clear hx1 hp1 hbw hb0 hx0 hl0 hb1 hl1 hsz
      go_enter Tryz.func46, Tryz.ntmps46
      go_upto_region 1 with fail
      generalize (w.alloc (.cells #[.int .i64 h1, .string t1, .string f1, .string u1] 48)).alloc (.cells #[.int .i64 h2, .string t2, .string f2, .string u2] 48) = w1 at *
      obtain ⟨hba, hbb, hbw⟩ := HW.out
      clear HW
      have a0 := blkCell hbb 0
      have a1 := blkCell hbb 1
      have a2 := blkCell hbb 2
      have b0 := blkCell hba 0
      have b1 := blkCell hba 1
      have b2 := blkCell hba 2
      simp only [List.getElem?_toArray, List.getElem?_cons_zero, List.getElem?_cons_succ] at a0 a1 a2 b0 b1 b2
      clear hba hbb
      go_wp2_with fail
      go_ret
      exact ⟨ret_bool (by rw [HL.out]), hbw⟩
  · have te : (h1 != h2) = true := by simpa using c1
    rw [if_neg c1] at hL
    have HL := hid hL
    clear hL hq c1
    obtain ⟨hb0, hx0, hl0⟩ := box1 w (.cells #[.int .i64 h1, .string t1, .string f1, .string u1] 48)
    obtain ⟨hb1, hx1, hl1⟩ := box1 (w.alloc (.cells #[.int .i64 h1, .string t1, .string f1, .string u1] 48)) (.cells #[.int .i64 h2, .string t2, .string f2, .string u2] 48)
    have hp1 := blk_below hx0 hb1 hl0
    have hbw := hb0.trans (hb1.mono hb0.size)
    have hsz : (w.alloc (.cells #[.int .i64 h1, .string t1, .string f1, .string u1] 48)).heap.size = w.heap.size + 1 := by simp
    rw [hsz] at hx1
    have HW := hid (And.intro hx1 (And.intro hp1 hbw))
    clear hx1 hp1 hbw hb0 hx0 hl0 hb1 hl1 hsz
    go_enter Tryz.func46, Tryz.ntmps46
    go_upto_region 1 with fail
    generalize (w.alloc (.cells #[.int .i64 h1, .string t1, .string f1, .string u1] 48)).alloc (.cells #[.int .i64 h2, .string t2, .string f2, .string u2] 48) = w1 at *
    obtain ⟨hba, hbb, hbw⟩ := HW.out
    clear HW
    have a0 := blkCell hbb 0
    have a1 := blkCell hbb 1
    have a2 := blkCell hbb 2
    have b0 := blkCell hba 0
    have b1 := blkCell hba 1
    have b2 := blkCell hba 2
    simp only [List.getElem?_toArray, List.getElem?_cons_zero, List.getElem?_cons_succ] at a0 a1 a2 b0 b1 b2
    clear hba hbb
    go_wp2_with fail
    go_ret
    exact ⟨ret_bool (by rw [HL.out]), hbw⟩
set_option maxRecDepth 100000 in
set_option maxHeartbeats 1600000 in
theorem refRight1_any (l : Ln) (w : World) (hl : LnOk l) (hen : Env w) :
    Calls Tryz.prog 34 #[.agg (lnV l)] w fun e w' => e = .returned (.bool (rightL l)) ∧ Below w.heap.size w w' := by
  obtain ⟨head, name, leaf, value⟩ := l
  obtain ⟨hn, hf, hv⟩ := hl
  simp only at hn hf hv
  show Calls _ _ #[.agg #[.int .i64 head, .string (S8 name), .string (S8 leaf), .string (S8 value)]] _ _
  have hR : rightL ⟨head, name, leaf, value⟩ = ((findR head leaf).2 && namedR head name && rightR (findR head leaf).1 value) := rfl
  have HF : Hid (∀ w', Calls Tryz.prog 60 #[.int .i64 head, .string (S8 leaf)] w' fun e w'' => ∃ A, e = .returned (.tuple #[.agg (rwV (findR head leaf).1 A), .bool (findR head leaf).2]) ∧ Below w'.heap.size w' w'' ∧ Cho w'' (findR head leaf).1 A) :=
    fun w' => (refFind_new head (S8 leaf) w').mono fun e w'' ⟨A, h1, h2, h3, _⟩ => ⟨A, h1, h2, h3⟩
  have HN : Hid (∀ w', Below w.heap.size w w' → Calls Tryz.prog 64 #[.int .i64 head, .string (S8 name)] w' fun e w'' => e = .returned (.bool (namedR head name)) ∧ Below w'.heap.size w' w'') :=
    fun w' hb => refNamed_any head (S8 name) w' (by rw [S8_size]; omega)
  have hcn := findR_cho head leaf
  have hkd := findR_kind head leaf
  have HV : Hid (∀ A w', Below w.heap.size w w' → Cho w' (findR head leaf).1 A → Calls Tryz.prog 65 #[.agg (rwV (findR head leaf).1 A), .string (S8 value)] w' fun e w'' => e = .returned (.bool (rightR (findR head leaf).1 value)) ∧ Below w'.heap.size w' w'') :=
    fun A w' hb hch => Go.Proofs.YtecfkhgocjbocaaGreatDoor.refRight_any _ A (S8 value) w' (by rw [S8_size]; omega) (hen.below hb) hch (by omega) hkd
  rw [hR]
  clear hR hkd hcn hen
  generalize rightR (findR head leaf).1 value = b3 at *
  generalize findR head leaf = FR at *
  obtain ⟨r, b1⟩ := FR
  simp only at HF HV
  generalize namedR head name = b2 at *
  generalize S8 name = nm at *
  generalize S8 leaf = lf at *
  generalize S8 value = vl at *
  obtain ⟨hb0, hx0, hl0⟩ := box1 w (.cells #[.int .i64 head, .string nm, .string lf, .string vl] 48)
  go_enter Tryz.func34, Tryz.ntmps34
  go_upto_region 1 with fail
  generalize w.alloc (.cells #[.int .i64 head, .string nm, .string lf, .string vl] 48) = w1 at *
  have q0 := blkCell hx0 0
  have q1 := blkCell hx0 1
  have q2 := blkCell hx0 2
  have q3 := blkCell hx0 3
  simp only [List.getElem?_toArray, List.getElem?_cons_zero, List.getElem?_cons_succ] at q0 q1 q2 q3
  go_wp2_with fail
  refine (HF.out w1).mono ?_
  rintro e w2 ⟨A, rfl, hb2, hcho⟩
  clear q0 q1 q2 q3 HF
  have hx2 := blk_below hx0 hb2 hl0
  have hbw2 := hb0.trans (hb2.mono hb0.size)
  have hlt2 := Nat.lt_of_lt_of_le hl0 hb2.size
  clear hb2 hb0 hx0 hl0
  obtain ⟨hb3, hg3, hl3⟩ := box1 w2 (.cells (rwV r A) 102)
  have hi8 : (Tryz.prog.info? 102).map (·.size) = some (rwV r A).size := k8
  go_upto_region 2 with (refine wpList_store_last rfl 102 (.tmp 3) (.tmp 11) rfl (rwV r A) rfl rfl hi8 rfl (rwV_one _ _) ?_)
  generalize w2.alloc (.cells (rwV r A) 102) = w3 at *
  have hx3 := blk_below hx2 hb3 hlt2
  have hc3 := hcho.below hb3
  have hbw3 := hbw2.trans (hb3.mono hbw2.size)
  clear hx2 hcho hb3 hbw2
  cases b1 with
  | false =>
    go_wp2_with fail
    go_ret
    exact ⟨rfl, hbw3⟩
  | true =>
    have q0 := blkCell hx3 0
    have q1 := blkCell hx3 1
    simp only [List.getElem?_toArray, List.getElem?_cons_zero, List.getElem?_cons_succ] at q0 q1
    go_wp2_with fail
    refine (HN.out w3 hbw3).mono ?_
    rintro e w4 ⟨rfl, hb4⟩
    clear q0 q1 HN
    have hx4 := blk_below hx3 hb4 (blk_lt hx3)
    have hg4 := blk_below hg3 hb4 hl3
    have hc4 := hc3.below hb4
    have hbw4 := hbw3.trans (hb4.mono hbw3.size)
    clear hx3 hg3 hc3 hb4 hbw3
    cases b2 with
    | false =>
      go_wp2_with fail
      go_ret
      exact ⟨rfl, hbw4⟩
    | true =>
      have q3 := blkCell hx4 3
      simp only [List.getElem?_toArray, List.getElem?_cons_zero, List.getElem?_cons_succ] at q3
      go_wp2_with (refine wpList_load_rowG (by rfl) 102 (.tmp 3) rfl w2.heap.size rfl 102 (rwV r A) (0, 0) _ hg4 Tryz.underlying102 rfl hi8 ?_)
      refine (HV.out A w4 hbw4 hc4).mono ?_
      rintro e w5 ⟨rfl, hb5⟩
      have hbw5 := hbw4.trans (hb5.mono hbw4.size)
      clear q3 hx4 hg4 hc4 hb5 hbw4 HV
      go_wp2_with fail
      go_ret
      exact ⟨rfl, hbw5⟩
end CF
end Go.Proofs.YtecfkhgocjbocaaGreatDoor
namespace Go.Proofs.YtecfkhgocjbocaaGreatDoor
set_option linter.unusedVariables false
set_option linter.unusedSimpArgs false
open Go Go.RowKit

namespace CF
set_option maxRecDepth 100000 in
set_option maxHeartbeats 3200000 in
theorem refRight_all (C : List Ln) (A : Option Addr) (n c : Nat) (w : World) (h : Sl w 4 (.slice A n c) (LNS C)) (hC : ∀ l ∈ C, LnOk l) (hen : Env w) :
    Calls Tryz.prog 43 #[.slice A n c] w fun e w' => e = .returned (.bool (RightC C)) ∧ Below w.heap.size w w' := by
  obtain ⟨hl1, hl2, hl3⟩ := sl_lns h
  have HLN := hid hl1
  have HNO : Hid (∀ k < n, okAt C k = false → RightC C = false) := fun k hk h => RightC_no C k (by omega) h
  have HOK : Hid (okTo C n = true → RightC C = decide (n ≤ 64)) := by
    show _ → _
    intro h
    unfold RightC
    rw [hl1, h]
    rfl
  have HL : Hid (∀ k < n, LnOk (lnAt C k)) := fun k hk => by rw [lnAt_get C k (by omega)]; exact hC _ (List.getElem_mem _)
  have HEN := hid hen
  have HSL := hid h
  have HST : Hid (∀ k, okTo C (k + 1) = (okTo C k && okAt C k)) := okTo_succ C
  have HAT : Hid (∀ k, okAt C k = (rightL (lnAt C k) && (decide (k = 0) || lessL (lnAt C (k - 1)) (lnAt C k)))) := fun k => rfl
  clear hl1 hC hen h
  generalize RightC C = RC at *
  go_enter Tryz.func43, Tryz.ntmps43
  go_wp2_with fail
  go_loopw [3] (fun i wr => ∃ k : Nat, k ≤ n ∧ i = .int .i64 k ∧ Hid (okTo C k = true) ∧ Below w.heap.size w wr) (fun i _ => n - (intOf i).toNat)
  case atStart => exact ⟨0, Nat.zero_le _, rfl, hid rfl, Below.refl _ _⟩
  case round =>
    obtain ⟨k, hk, rfl, hok, hbr⟩ := hrel
    by_cases hlt : k < n
    · have hr := HSL.out.below hbr
      obtain ⟨b, off, rfl, hbl, hcl⟩ := sl_ln hr hlt
      have HCell : Hid (∀ wS, Below wr.heap.size wr wS → wS.rangeAt b (off + k * 4) (lnC (lnAt C k))) := fun wS hb => range_below hcl hbl hb
      have HRL : Hid (∀ w', Below w.heap.size w w' → Calls Tryz.prog 34 #[.agg (lnV (lnAt C k))] w' fun e w'' => e = .returned (.bool (rightL (lnAt C k))) ∧ Below w'.heap.size w' w'') := fun w' hb => refRight1_any (lnAt C k) w' (HL.out k hlt) (HEN.out.below hb)
      have HA := hid (HAT.out k)
      have HS := hid (HST.out k)
      have HN := hid (HNO.out k hlt)
      clear hcl
      cases b1 : rightL (lnAt C k) with
      | false =>
        have HRC : Hid (RC = false) := HN.out (by rw [HA.out, b1]; rfl)
        rw [b1] at HRL
        clear HA HS HN HOK HST HAT HNO HL b1 hr
        generalize lnAt C k = l at *
        go_upto_region 4 with fail
        refine wp_region_loud (fun _ => False) [(3, plainL [] (.agg (lnV l))), (4, plainL [] (.bool false)), (14, plainL [] undef), (18, plainL [] undef), (19, plainL [] undef)] (fun _ => Fact.none) (by kernel_rfl) (by kernel_rfl)
          (.cons (plainL_ok _ _) (.cons (plainL_ok _ _) (.cons (plainL_ok _ _) (.cons (plainL_ok _ _) (.cons (plainL_ok _ _) .nil))))) good_nothing sat_none (WX.out ?_)
        repeat (first | (refine wx_quietU (by rfl) (by rfl) (by rfl) (fun K hK => ?_); go_big_quiet_op; refine hK _ ?_; clear hK K) | (refine wx_quietG (by rfl) (by rfl) (by rfl) (by rfl) (by rfl) (fun K hK => ?_); go_big_quiet_op; refine hK _ ?_; clear hK K) | (refine wx_skipG (by rfl) (by rfl) (by rfl) (fun K hK => ?_); go_simp; refine hK _ ?_; clear hK K) | (refine wx_skipN (by rfl) (by rfl) (by rfl) (fun K hK => ?_); go_simp; refine hK _ ?_; clear hK K))
        refine wx_loudU (us := []) (by rfl) (by rfl) (fun S wS hC hS hU => ?_) (fun v hv K hK => ?_)
        · exact runs_load_mid 48 (.tmp 12) rfl b (off + k * 4) rfl (lnC l) _ (HCell.out wS hC.below) Tryz.underlying48 rfl k4 ⟨rfl, Kept.refl _ _, trivial⟩
        obtain rfl := hv; (go_simp; refine hK _ ?_; clear hK K)
        repeat (first | (refine wx_quietU (by rfl) (by rfl) (by rfl) (fun K hK => ?_); go_big_quiet_op; refine hK _ ?_; clear hK K) | (refine wx_quietG (by rfl) (by rfl) (by rfl) (by rfl) (by rfl) (fun K hK => ?_); go_big_quiet_op; refine hK _ ?_; clear hK K) | (refine wx_skipG (by rfl) (by rfl) (by rfl) (fun K hK => ?_); go_simp; refine hK _ ?_; clear hK K) | (refine wx_skipN (by rfl) (by rfl) (by rfl) (fun K hK => ?_); go_simp; refine hK _ ?_; clear hK K))
        refine wx_loudU (us := []) (by rfl) (by rfl) (fun S wS hC hS hU => runs_enter (f := 34) (by go_simp <;> rfl) ?_) (fun v hv K hK => ?_)
        · refine (HRL.out wS (hbr.trans (hC.below.mono hbr.size))).mono ?_
          rintro e w' ⟨rfl, hb⟩
          exact ⟨_, rfl, rfl, Kept.of_below hb, trivial⟩
        obtain rfl := hv; (go_simp; refine hK _ ?_; clear hK K)
        repeat (first | (refine wx_quietU (by rfl) (by rfl) (by rfl) (fun K hK => ?_); go_big_quiet_op; refine hK _ ?_; clear hK K) | (refine wx_quietG (by rfl) (by rfl) (by rfl) (by rfl) (by rfl) (fun K hK => ?_); go_big_quiet_op; refine hK _ ?_; clear hK K) | (refine wx_skipG (by rfl) (by rfl) (by rfl) (fun K hK => ?_); go_simp; refine hK _ ?_; clear hK K) | (refine wx_skipN (by rfl) (by rfl) (by rfl) (fun K hK => ?_); go_simp; refine hK _ ?_; clear hK K))
        refine wx_nil fun w3 hsat => ?_
        have hb3 := sat_below hsat
        have hbw3 := hbr.trans (hb3.mono hbr.size)
        clear hsat hb3
        go_wp2_with fail
        go_ret
        exact ⟨ret_bool HRC.out.symm, hbw3⟩
      | true =>
        by_cases hk0 : k = 0
        · subst hk0
          have HO : Hid (okTo C 1 = true) := by show _ = _; rw [HS.out, hok.out, HA.out, b1]; rfl
          rw [b1] at HRL
          clear HA HS HN HOK HST HAT HNO HL b1 hr
          generalize lnAt C 0 = l at *
          go_upto_region 4 with fail
          refine wp_region_loud (fun _ => False) [(3, plainL [] (.agg (lnV l))), (4, plainL [] (.bool true)), (14, plainL [] undef), (18, plainL [] undef), (19, plainL [] undef)] (fun _ => Fact.none) (by kernel_rfl) (by kernel_rfl)
            (.cons (plainL_ok _ _) (.cons (plainL_ok _ _) (.cons (plainL_ok _ _) (.cons (plainL_ok _ _) (.cons (plainL_ok _ _) .nil))))) good_nothing sat_none (WX.out ?_)
          repeat (first | (refine wx_quietU (by rfl) (by rfl) (by rfl) (fun K hK => ?_); go_big_quiet_op; refine hK _ ?_; clear hK K) | (refine wx_quietG (by rfl) (by rfl) (by rfl) (by rfl) (by rfl) (fun K hK => ?_); go_big_quiet_op; refine hK _ ?_; clear hK K) | (refine wx_skipG (by rfl) (by rfl) (by rfl) (fun K hK => ?_); go_simp; refine hK _ ?_; clear hK K) | (refine wx_skipN (by rfl) (by rfl) (by rfl) (fun K hK => ?_); go_simp; refine hK _ ?_; clear hK K))
          refine wx_loudU (us := []) (by rfl) (by rfl) (fun S wS hC hS hU => ?_) (fun v hv K hK => ?_)
          · exact runs_load_mid 48 (.tmp 12) rfl b (off) rfl (lnC l) _ (HCell.out wS hC.below) Tryz.underlying48 rfl k4 ⟨rfl, Kept.refl _ _, trivial⟩
          obtain rfl := hv; (go_simp; refine hK _ ?_; clear hK K)
          repeat (first | (refine wx_quietU (by rfl) (by rfl) (by rfl) (fun K hK => ?_); go_big_quiet_op; refine hK _ ?_; clear hK K) | (refine wx_quietG (by rfl) (by rfl) (by rfl) (by rfl) (by rfl) (fun K hK => ?_); go_big_quiet_op; refine hK _ ?_; clear hK K) | (refine wx_skipG (by rfl) (by rfl) (by rfl) (fun K hK => ?_); go_simp; refine hK _ ?_; clear hK K) | (refine wx_skipN (by rfl) (by rfl) (by rfl) (fun K hK => ?_); go_simp; refine hK _ ?_; clear hK K))
          refine wx_loudU (us := []) (by rfl) (by rfl) (fun S wS hC hS hU => runs_enter (f := 34) (by go_simp <;> rfl) ?_) (fun v hv K hK => ?_)
          · refine (HRL.out wS (hbr.trans (hC.below.mono hbr.size))).mono ?_
            rintro e w' ⟨rfl, hb⟩
            exact ⟨_, rfl, rfl, Kept.of_below hb, trivial⟩
          obtain rfl := hv; (go_simp; refine hK _ ?_; clear hK K)
          repeat (first | (refine wx_quietU (by rfl) (by rfl) (by rfl) (fun K hK => ?_); go_big_quiet_op; refine hK _ ?_; clear hK K) | (refine wx_quietG (by rfl) (by rfl) (by rfl) (by rfl) (by rfl) (fun K hK => ?_); go_big_quiet_op; refine hK _ ?_; clear hK K) | (refine wx_skipG (by rfl) (by rfl) (by rfl) (fun K hK => ?_); go_simp; refine hK _ ?_; clear hK K) | (refine wx_skipN (by rfl) (by rfl) (by rfl) (fun K hK => ?_); go_simp; refine hK _ ?_; clear hK K))
          refine wx_nil fun w3 hsat => ?_
          have hb3 := sat_below hsat
          have hbw3 := hbr.trans (hb3.mono hbr.size)
          clear hsat hb3
          go_wp2_with fail
          go_light
          exact ⟨⟨1, by omega, by go_num, HO, hbw3⟩, by simp [intOf]; omega⟩
        · obtain ⟨j, rfl⟩ : ∃ j, k = j + 1 := ⟨k - 1, by omega⟩
          obtain ⟨_, _, hoo, _, hpl⟩ := sl_ln hr (show j < n by omega)
          injection hoo with hoo
          injection hoo with hoo1 hoo2
          subst hoo1
          subst hoo2
          have HPl : Hid (∀ wS, Below wr.heap.size wr wS → wS.rangeAt b (off + j * 4) (lnC (lnAt C j))) := fun wS hb => range_below hpl hbl hb
          have hd0 : decide (j + 1 = 0) = false := by rw [decide_eq_false_iff_not]; omega
          have HAA : Hid (okAt C (j + 1) = lessL (lnAt C j) (lnAt C (j + 1))) := by show _ = _; rw [HA.out, b1, hd0]; rfl
          have HLS : Hid (∀ w', Calls Tryz.prog 46 #[.agg (lnV (lnAt C j)), .agg (lnV (lnAt C (j + 1)))] w' fun e w'' => e = .returned (.bool (lessL (lnAt C j) (lnAt C (j + 1)))) ∧ Below w'.heap.size w' w'') := fun w' => refLess_any _ _ w'
          rw [b1] at HRL
          have HRC : Hid (lessL (lnAt C j) (lnAt C (j + 1)) = false → RC = false) := fun h => HN.out (by rw [HAA.out]; exact h)
          have HO : Hid (lessL (lnAt C j) (lnAt C (j + 1)) = true → okTo C (j + 1 + 1) = true) := by
            show _ → _
            intro h
            rw [HS.out, hok.out, HAA.out, h]
            rfl
          clear HA HS HN HOK HST HAT HNO HL b1 hr hpl hd0 HAA hk0
          generalize lessL (lnAt C j) (lnAt C (j + 1)) = b2 at *
          generalize lnAt C (j + 1) = l at *
          generalize lnAt C j = l0 at *
          have hj0 : 0 < j + 1 := by omega
          cases b2 with
          | false =>
            have HR2 := hid (HRC.out rfl)
            clear HRC HO
            go_upto_region 4 with fail
            refine wp_region_loud (fun _ => False) [(3, plainL [] (.agg (lnV l))), (4, plainL [] (.bool true)), (14, plainL [] (.agg (lnV l0))), (18, plainL [] (.agg (lnV l))), (19, plainL [] (.bool false))] (fun _ => Fact.none) (by kernel_rfl) (by kernel_rfl)
              (.cons (plainL_ok _ _) (.cons (plainL_ok _ _) (.cons (plainL_ok _ _) (.cons (plainL_ok _ _) (.cons (plainL_ok _ _) .nil))))) good_nothing sat_none (WX.out ?_)
            repeat (first | (refine wx_quietU (by rfl) (by rfl) (by rfl) (fun K hK => ?_); go_big_quiet_op; refine hK _ ?_; clear hK K) | (refine wx_quietG (by rfl) (by rfl) (by rfl) (by rfl) (by rfl) (fun K hK => ?_); go_big_quiet_op; refine hK _ ?_; clear hK K) | (refine wx_skipG (by rfl) (by rfl) (by rfl) (fun K hK => ?_); go_simp; refine hK _ ?_; clear hK K) | (refine wx_skipN (by rfl) (by rfl) (by rfl) (fun K hK => ?_); go_simp; refine hK _ ?_; clear hK K))
            refine wx_loudU (us := []) (by rfl) (by rfl) (fun S wS hC hS hU => ?_) (fun v hv K hK => ?_)
            · exact runs_load_mid 48 (.tmp 12) rfl b (off + (j + 1) * 4) rfl (lnC l) _ (HCell.out wS hC.below) Tryz.underlying48 rfl k4 ⟨rfl, Kept.refl _ _, trivial⟩
            obtain rfl := hv; (go_simp; refine hK _ ?_; clear hK K)
            repeat (first | (refine wx_quietU (by rfl) (by rfl) (by rfl) (fun K hK => ?_); go_big_quiet_op; refine hK _ ?_; clear hK K) | (refine wx_quietG (by rfl) (by rfl) (by rfl) (by rfl) (by rfl) (fun K hK => ?_); go_big_quiet_op; refine hK _ ?_; clear hK K) | (refine wx_skipG (by rfl) (by rfl) (by rfl) (fun K hK => ?_); go_simp; refine hK _ ?_; clear hK K) | (refine wx_skipN (by rfl) (by rfl) (by rfl) (fun K hK => ?_); go_simp; refine hK _ ?_; clear hK K))
            refine wx_loudU (us := []) (by rfl) (by rfl) (fun S wS hC hS hU => runs_enter (f := 34) (by go_simp <;> rfl) ?_) (fun v hv K hK => ?_)
            · refine (HRL.out wS (hbr.trans (hC.below.mono hbr.size))).mono ?_
              rintro e w' ⟨rfl, hb⟩
              exact ⟨_, rfl, rfl, Kept.of_below hb, trivial⟩
            obtain rfl := hv; (go_simp; refine hK _ ?_; clear hK K)
            repeat (first | (refine wx_quietU (by rfl) (by rfl) (by rfl) (fun K hK => ?_); go_big_quiet_op; refine hK _ ?_; clear hK K) | (refine wx_quietG (by rfl) (by rfl) (by rfl) (by rfl) (by rfl) (fun K hK => ?_); go_big_quiet_op; refine hK _ ?_; clear hK K) | (refine wx_skipG (by rfl) (by rfl) (by rfl) (fun K hK => ?_); go_simp; refine hK _ ?_; clear hK K) | (refine wx_skipN (by rfl) (by rfl) (by rfl) (fun K hK => ?_); go_simp; refine hK _ ?_; clear hK K))
            refine wx_loudG (us := []) (by rfl) (by rfl) (by rfl) (by rfl) (fun S wS hC hS hU => ?_) (fun v hv K hK => ?_)
            · exact runs_load_mid 48 (.tmp 23) rfl b (off + j * 4) rfl (lnC l0) _ (HPl.out wS hC.below) Tryz.underlying48 rfl k4 ⟨rfl, Kept.refl _ _, trivial⟩
            obtain rfl := hv; (go_simp; refine hK _ ?_; clear hK K)
            repeat (first | (refine wx_quietU (by rfl) (by rfl) (by rfl) (fun K hK => ?_); go_big_quiet_op; refine hK _ ?_; clear hK K) | (refine wx_quietG (by rfl) (by rfl) (by rfl) (by rfl) (by rfl) (fun K hK => ?_); go_big_quiet_op; refine hK _ ?_; clear hK K) | (refine wx_skipG (by rfl) (by rfl) (by rfl) (fun K hK => ?_); go_simp; refine hK _ ?_; clear hK K) | (refine wx_skipN (by rfl) (by rfl) (by rfl) (fun K hK => ?_); go_simp; refine hK _ ?_; clear hK K))
            refine wx_loudG (us := []) (by rfl) (by rfl) (by rfl) (by rfl) (fun S wS hC hS hU => ?_) (fun v hv K hK => ?_)
            · exact runs_load_mid 48 (.tmp 27) rfl b (off + (j + 1) * 4) rfl (lnC l) _ (HCell.out wS hC.below) Tryz.underlying48 rfl k4 ⟨rfl, Kept.refl _ _, trivial⟩
            obtain rfl := hv; (go_simp; refine hK _ ?_; clear hK K)
            repeat (first | (refine wx_quietU (by rfl) (by rfl) (by rfl) (fun K hK => ?_); go_big_quiet_op; refine hK _ ?_; clear hK K) | (refine wx_quietG (by rfl) (by rfl) (by rfl) (by rfl) (by rfl) (fun K hK => ?_); go_big_quiet_op; refine hK _ ?_; clear hK K) | (refine wx_skipG (by rfl) (by rfl) (by rfl) (fun K hK => ?_); go_simp; refine hK _ ?_; clear hK K) | (refine wx_skipN (by rfl) (by rfl) (by rfl) (fun K hK => ?_); go_simp; refine hK _ ?_; clear hK K))
            refine wx_loudG (us := []) (by rfl) (by rfl) (by rfl) (by rfl) (fun S wS hC hS hU => runs_enter (f := 46) (by go_simp <;> rfl) ?_) (fun v hv K hK => ?_)
            · refine (HLS.out wS).mono ?_
              rintro e w' ⟨rfl, hb⟩
              exact ⟨_, rfl, rfl, Kept.of_below hb, trivial⟩
            obtain rfl := hv; (go_simp; refine hK _ ?_; clear hK K)
            repeat (first | (refine wx_quietU (by rfl) (by rfl) (by rfl) (fun K hK => ?_); go_big_quiet_op; refine hK _ ?_; clear hK K) | (refine wx_quietG (by rfl) (by rfl) (by rfl) (by rfl) (by rfl) (fun K hK => ?_); go_big_quiet_op; refine hK _ ?_; clear hK K) | (refine wx_skipG (by rfl) (by rfl) (by rfl) (fun K hK => ?_); go_simp; refine hK _ ?_; clear hK K) | (refine wx_skipN (by rfl) (by rfl) (by rfl) (fun K hK => ?_); go_simp; refine hK _ ?_; clear hK K))
            refine wx_nil fun w3 hsat => ?_
            have hb3 := sat_below hsat
            have hbw3 := hbr.trans (hb3.mono hbr.size)
            clear hsat hb3
            go_wp2_with fail
            go_ret
            exact ⟨ret_bool HR2.out.symm, hbw3⟩
          | true =>
            have HO2 := hid (HO.out rfl)
            clear HRC HO
            go_upto_region 4 with fail
            refine wp_region_loud (fun _ => False) [(3, plainL [] (.agg (lnV l))), (4, plainL [] (.bool true)), (14, plainL [] (.agg (lnV l0))), (18, plainL [] (.agg (lnV l))), (19, plainL [] (.bool true))] (fun _ => Fact.none) (by kernel_rfl) (by kernel_rfl)
              (.cons (plainL_ok _ _) (.cons (plainL_ok _ _) (.cons (plainL_ok _ _) (.cons (plainL_ok _ _) (.cons (plainL_ok _ _) .nil))))) good_nothing sat_none (WX.out ?_)
            repeat (first | (refine wx_quietU (by rfl) (by rfl) (by rfl) (fun K hK => ?_); go_big_quiet_op; refine hK _ ?_; clear hK K) | (refine wx_quietG (by rfl) (by rfl) (by rfl) (by rfl) (by rfl) (fun K hK => ?_); go_big_quiet_op; refine hK _ ?_; clear hK K) | (refine wx_skipG (by rfl) (by rfl) (by rfl) (fun K hK => ?_); go_simp; refine hK _ ?_; clear hK K) | (refine wx_skipN (by rfl) (by rfl) (by rfl) (fun K hK => ?_); go_simp; refine hK _ ?_; clear hK K))
            refine wx_loudU (us := []) (by rfl) (by rfl) (fun S wS hC hS hU => ?_) (fun v hv K hK => ?_)
            · exact runs_load_mid 48 (.tmp 12) rfl b (off + (j + 1) * 4) rfl (lnC l) _ (HCell.out wS hC.below) Tryz.underlying48 rfl k4 ⟨rfl, Kept.refl _ _, trivial⟩
            obtain rfl := hv; (go_simp; refine hK _ ?_; clear hK K)
            repeat (first | (refine wx_quietU (by rfl) (by rfl) (by rfl) (fun K hK => ?_); go_big_quiet_op; refine hK _ ?_; clear hK K) | (refine wx_quietG (by rfl) (by rfl) (by rfl) (by rfl) (by rfl) (fun K hK => ?_); go_big_quiet_op; refine hK _ ?_; clear hK K) | (refine wx_skipG (by rfl) (by rfl) (by rfl) (fun K hK => ?_); go_simp; refine hK _ ?_; clear hK K) | (refine wx_skipN (by rfl) (by rfl) (by rfl) (fun K hK => ?_); go_simp; refine hK _ ?_; clear hK K))
            refine wx_loudU (us := []) (by rfl) (by rfl) (fun S wS hC hS hU => runs_enter (f := 34) (by go_simp <;> rfl) ?_) (fun v hv K hK => ?_)
            · refine (HRL.out wS (hbr.trans (hC.below.mono hbr.size))).mono ?_
              rintro e w' ⟨rfl, hb⟩
              exact ⟨_, rfl, rfl, Kept.of_below hb, trivial⟩
            obtain rfl := hv; (go_simp; refine hK _ ?_; clear hK K)
            repeat (first | (refine wx_quietU (by rfl) (by rfl) (by rfl) (fun K hK => ?_); go_big_quiet_op; refine hK _ ?_; clear hK K) | (refine wx_quietG (by rfl) (by rfl) (by rfl) (by rfl) (by rfl) (fun K hK => ?_); go_big_quiet_op; refine hK _ ?_; clear hK K) | (refine wx_skipG (by rfl) (by rfl) (by rfl) (fun K hK => ?_); go_simp; refine hK _ ?_; clear hK K) | (refine wx_skipN (by rfl) (by rfl) (by rfl) (fun K hK => ?_); go_simp; refine hK _ ?_; clear hK K))
            refine wx_loudG (us := []) (by rfl) (by rfl) (by rfl) (by rfl) (fun S wS hC hS hU => ?_) (fun v hv K hK => ?_)
            · exact runs_load_mid 48 (.tmp 23) rfl b (off + j * 4) rfl (lnC l0) _ (HPl.out wS hC.below) Tryz.underlying48 rfl k4 ⟨rfl, Kept.refl _ _, trivial⟩
            obtain rfl := hv; (go_simp; refine hK _ ?_; clear hK K)
            repeat (first | (refine wx_quietU (by rfl) (by rfl) (by rfl) (fun K hK => ?_); go_big_quiet_op; refine hK _ ?_; clear hK K) | (refine wx_quietG (by rfl) (by rfl) (by rfl) (by rfl) (by rfl) (fun K hK => ?_); go_big_quiet_op; refine hK _ ?_; clear hK K) | (refine wx_skipG (by rfl) (by rfl) (by rfl) (fun K hK => ?_); go_simp; refine hK _ ?_; clear hK K) | (refine wx_skipN (by rfl) (by rfl) (by rfl) (fun K hK => ?_); go_simp; refine hK _ ?_; clear hK K))
            refine wx_loudG (us := []) (by rfl) (by rfl) (by rfl) (by rfl) (fun S wS hC hS hU => ?_) (fun v hv K hK => ?_)
            · exact runs_load_mid 48 (.tmp 27) rfl b (off + (j + 1) * 4) rfl (lnC l) _ (HCell.out wS hC.below) Tryz.underlying48 rfl k4 ⟨rfl, Kept.refl _ _, trivial⟩
            obtain rfl := hv; (go_simp; refine hK _ ?_; clear hK K)
            repeat (first | (refine wx_quietU (by rfl) (by rfl) (by rfl) (fun K hK => ?_); go_big_quiet_op; refine hK _ ?_; clear hK K) | (refine wx_quietG (by rfl) (by rfl) (by rfl) (by rfl) (by rfl) (fun K hK => ?_); go_big_quiet_op; refine hK _ ?_; clear hK K) | (refine wx_skipG (by rfl) (by rfl) (by rfl) (fun K hK => ?_); go_simp; refine hK _ ?_; clear hK K) | (refine wx_skipN (by rfl) (by rfl) (by rfl) (fun K hK => ?_); go_simp; refine hK _ ?_; clear hK K))
            refine wx_loudG (us := []) (by rfl) (by rfl) (by rfl) (by rfl) (fun S wS hC hS hU => runs_enter (f := 46) (by go_simp <;> rfl) ?_) (fun v hv K hK => ?_)
            · refine (HLS.out wS).mono ?_
              rintro e w' ⟨rfl, hb⟩
              exact ⟨_, rfl, rfl, Kept.of_below hb, trivial⟩
            obtain rfl := hv; (go_simp; refine hK _ ?_; clear hK K)
            repeat (first | (refine wx_quietU (by rfl) (by rfl) (by rfl) (fun K hK => ?_); go_big_quiet_op; refine hK _ ?_; clear hK K) | (refine wx_quietG (by rfl) (by rfl) (by rfl) (by rfl) (by rfl) (fun K hK => ?_); go_big_quiet_op; refine hK _ ?_; clear hK K) | (refine wx_skipG (by rfl) (by rfl) (by rfl) (fun K hK => ?_); go_simp; refine hK _ ?_; clear hK K) | (refine wx_skipN (by rfl) (by rfl) (by rfl) (fun K hK => ?_); go_simp; refine hK _ ?_; clear hK K))
            refine wx_nil fun w3 hsat => ?_
            have hb3 := sat_below hsat
            have hbw3 := hbr.trans (hb3.mono hbr.size)
            clear hsat hb3
            go_wp2_with fail
            go_light
            exact ⟨⟨j + 1 + 1, by omega, by go_num, HO2, hbw3⟩, by simp [intOf]; omega⟩
    · obtain rfl : k = n := by omega
      have HR2 := hid (HOK.out hok.out)
      clear HOK HST HAT HNO HL hok HSL HLN
      go_wp2_with fail
      go_ret
      exact ⟨ret_bool (by rw [HR2.out, Bool.eq_iff_iff]; simp; try omega), hbr⟩
end CF
end Go.Proofs.YtecfkhgocjbocaaGreatDoor
namespace Go.Proofs.YtecfkhgocjbocaaGreatDoor
set_option linter.unusedVariables false
set_option linter.unusedSimpArgs false
open Go Go.RowKit

namespace CF
theorem st_rls : ST Tryz.prog 36 48 4 56 := .mk Tryz.underlying36 (z := .agg (lnV ln0)) (by kernel_rfl) rfl (by omega)
theorem sl_blkT {w : World} {g : Nat} {l : Ln} {T : TypeId} (h : w.heap[g]? = some (.cells (lnV l) T (0, 0))) : Sl w 4 (.slice (some ⟨g, 0, none⟩) 1 1) (LNS [l]) :=
  ⟨_, _, _, rfl, rfl, Nat.le_refl _, by decide, fun _ => ⟨g, 0, rfl, blk_lt h, fun i hi => by rw [Nat.zero_add, blkCell h i]; simp [LNS]⟩⟩
/-- what the reference's walk still appends -/
def refIns : List Ln → Ln → Bool → List Ln
  | [], l, put => if put = true then [] else [l]
  | x :: r, l, put => (if put = false ∧ lessL x l = false then [l] else []) ++ ((if lessL x l = true ∨ lessL l x = true then [x] else []) ++ refIns r l (put || !lessL x l))
theorem refIns_true (r : List Ln) (l : Ln) (h : ∀ y ∈ r, ordL l y < 0) : refIns r l true = r := by
  induction r with
  | nil => rfl
  | cons x r ih =>
    have hx : lessL l x = true := decide_eq_true (h x List.mem_cons_self)
    unfold refIns
    rw [if_neg (fun k => by cases k.1), if_pos (.inr hx), Bool.true_or, ih (fun y hy => h y (List.mem_cons_of_mem _ hy))]
    rfl
theorem refIns_eq (C : List Ln) (l : Ln) (h : Srt C) : refIns C l false = insC C l := by
  induction C with
  | nil => rfl
  | cons x r ih =>
    rw [srt_cons] at h
    unfold refIns insC
    by_cases c1 : ordL x l < 0
    · have hx : lessL x l = true := decide_eq_true c1
      rw [hx, if_neg (fun k => by cases k.2), if_pos (.inl rfl), if_pos c1, ← ih h.2]
      rfl
    · have hx : lessL x l = false := decide_eq_false c1
      have hng := ordL_neg x l
      rw [hx, if_pos ⟨rfl, rfl⟩, if_neg c1]
      by_cases c2 : ordL x l = 0
      · have hlx : lessL l x = false := decide_eq_false (by omega)
        rw [hlx, if_neg (fun k => k.elim (fun e => by cases e) (fun e => by cases e)), if_pos c2]
        rw [show (false || !false) = true from rfl, refIns_true r l (fun y hy => by rw [← (ordL_same c2 y).1]; exact h.1 y hy)]
        rfl
      · have hlx : lessL l x = true := decide_eq_true (by omega)
        rw [hlx, if_pos (.inr rfl), if_neg c2]
        rw [show (false || !false) = true from rfl, refIns_true r l (fun y hy => ordL_trans l x y (by omega) (h.1 y hy))]
        rfl
-- append of a line (z): the operand's slots S, X; the arm that loads it
set_option maxRecDepth 100000 in
set_option maxHeartbeats 6400000 in
theorem refSet_any (C : List Ln) (l : Ln) (A : Option Addr) (n c : Nat) (w : World) (h : Sl w 4 (.slice A n c) (LNS C)) (hC : ∀ l ∈ C, LnOk l) (hl : LnOk l) (hen : Env w) :
    Calls Tryz.prog 27 #[.slice A n c, .agg (lnV l)] w fun e w' => ConfPost (setC C l) (setE C l) e w' ∧ Below w.heap.size w w' := by
  have hn := (sl_lns h).1
  obtain ⟨-, hc1, hc2⟩ := sl_lns h
  have HE1 : Hid (RightC C = false → setE C l = 1) := fun h => by unfold setE; rw [h]; rfl
  have HE2 : Hid (rightL l = false → setE C l = 1) := fun h => by unfold setE; rw [h, Bool.and_false]; rfl
  have HE3 : Hid (RightC C = true → rightL l = true → setE C l = if (insC C l).length ≤ 64 then 0 else 5) := fun h h2 => by unfold setE; rw [h, h2]; rfl
  have HSC : Hid (setC C l = if setE C l = 0 then insC C l else []) := rfl
  have HR : Hid (RightC C = true → refIns C l false = insC C l ∧ n ≤ 64) := fun h => ⟨refIns_eq C l ((RightC_iff C).1 h).2.1, by have := ((RightC_iff C).1 h).2.2; omega⟩
  have HRC : Hid (∀ w', Below w.heap.size w w' → Calls Tryz.prog 43 #[.slice A n c] w' fun e w'' => e = .returned (.bool (RightC C)) ∧ Below w'.heap.size w' w'') := fun w' hb => refRight_all C A n c w' (h.below hb) hC (hen.below hb)
  have HRL : Hid (∀ w', Below w.heap.size w w' → Calls Tryz.prog 34 #[.agg (lnV l)] w' fun e w'' => e = .returned (.bool (rightL l)) ∧ Below w'.heap.size w' w'') := fun w' hb => refRight1_any l w' hl (hen.below hb)
  have HSL0 := hid h
  have HLN := hid hn
  clear h hC hl hen hn
  obtain ⟨hb0, hx0, hl0⟩ := box1 w (.cells (lnV l) 48)
  go_enter Tryz.func27, Tryz.ntmps27
  go_upto_region 1 with fail
  generalize w.alloc (.cells (lnV l) 48) = w1 at *
  have HSL : Hid (∀ wS, Below w1.heap.size w1 wS → Sl wS 4 (.slice A n c) (LNS C)) := fun wS hb => HSL0.out.below (hb0.trans (hb.mono hb0.size))
  have HBox : Hid (∀ wS, Below w1.heap.size w1 wS → wS.heap[w.heap.size]? = some (.cells (lnV l) 48 (0, 0))) := fun wS hb => blk_below hx0 hb hl0
  have HFI : Hid (∀ wS, Below w1.heap.size w1 wS → Below w.heap.size w wS) := fun wS hb => hb0.trans (hb.mono hb0.size)
  go_wp2_with fail
  refine (HRC.out w1 hb0).mono ?_
  rintro e w2 ⟨rfl, hb2⟩
  clear HRC HSL0 hx0 hl0 hb0
  cases b1 : RightC C with
  | false =>
    have HE := hid (HE1.out b1)
    clear HE1 HE2 HE3 HR b1
    go_wp2_with fail
    go_ret2
    refine ⟨?_, HFI.out w2 hb2⟩
    have hs := HSC.out
    rw [HE.out] at hs ⊢
    rw [hs]
    exact ⟨none, 0, rfl, CF.sl_nil _ _ _ (by omega)⟩
  | true =>
    obtain ⟨hri, hn64⟩ := HR.out b1
    have HRI := hid hri
    have HB1 := hid b1
    clear HE1 HR b1 hri
    have hx2 := HBox.out w2 hb2
    go_wp2_with (refine CF.wpList_load_rowG (by rfl) 48 (.tmp 3) rfl w.heap.size rfl 48 (lnV l) (0, 0) _ hx2 Tryz.underlying48 rfl k4 ?_)
    refine (HRL.out w2 (HFI.out w2 hb2)).mono ?_
    rintro e w3 ⟨rfl, hb3⟩
    have hbw3 := hb2.trans (hb3.mono hb2.size)
    clear hb3 hx2 hb2 HRL
    cases b2 : rightL l with
    | false =>
      have HE := hid (HE2.out b2)
      clear HE2 HE3 b2
      go_wp2_with fail
      go_ret2
      refine ⟨?_, HFI.out w3 hbw3⟩
      have hs := HSC.out
      rw [HE.out] at hs ⊢
      rw [hs]
      exact ⟨none, 0, rfl, CF.sl_nil _ _ _ (by omega)⟩
    | true =>
      have HE := hid (HE3.out HB1.out b2)
      clear HE2 HE3 b2
      go_wp2_with fail
      go_loopw [6, 7, 8] (fun v p i wr => ∃ (k : Nat) (out : List Ln) (put : Bool) (A' : Option Addr) (c' : Nat), k ≤ n ∧ i = .int .i64 k ∧ p = .bool put ∧ v = .slice A' out.length c' ∧ out.length ≤ 2 * k ∧ Hid (out ++ refIns (C.drop k) l put = insC C l) ∧ wr.ownsRow w1.heap.size 48 4 (.slice A' out.length c') out.length (LNS out) ∧ Below w1.heap.size w1 wr) (fun _ _ i _ => n - (intOf i).toNat)
      case atStart => exact ⟨0, [], false, none, 0, Nat.zero_le _, rfl, rfl, rfl, Nat.le_refl _, HRI.out, own_nilE _ _ _ _, hbw3⟩
      case round =>
        clear hbw3
        obtain ⟨k, out, put, A1, c1, hk, rfl, rfl, rfl, hol, HIN, howr, hbwr⟩ := hrel
        by_cases hlt : k < n
        · obtain ⟨b, off, rfl, hbl, hcl⟩ := sl_ln (HSL.out wr hbwr) hlt
          have HCell : Hid (∀ wS, Below w1.heap.size w1 wS → wS.rangeAt b (off + k * 4) (lnC (lnAt C k))) := fun wS hb => by
            obtain ⟨b', off', e, _, h⟩ := sl_ln (HSL.out wS hb) hlt
            injection e with e
            injection e with e1 e2
            subst e1; subst e2
            exact h
          have HXL : Hid (∀ w', Calls Tryz.prog 46 #[.agg (lnV (lnAt C k)), .agg (lnV l)] w' fun e w'' => e = .returned (.bool (lessL (lnAt C k) l)) ∧ Below w'.heap.size w' w'') := fun w' => refLess_any _ _ w'
          have HLX : Hid (∀ w', Calls Tryz.prog 46 #[.agg (lnV l), .agg (lnV (lnAt C k))] w' fun e w'' => e = .returned (.bool (lessL l (lnAt C k))) ∧ Below w'.heap.size w' w'') := fun w' => refLess_any _ _ w'
          have HNX0 : Hid (out ++ ((if put = false ∧ lessL (lnAt C k) l = false then [l] else []) ++ ((if lessL (lnAt C k) l = true ∨ lessL l (lnAt C k) = true then [lnAt C k] else []) ++ refIns (C.drop (k + 1)) l (put || !lessL (lnAt C k) l))) = insC C l) := by
            have := HIN.out
            rw [List.drop_eq_getElem_cons (show k < C.length by have := HLN.out; omega), ← lnAt_get C k (by have := HLN.out; omega)] at this
            exact this
          clear hcl HIN HRI
          generalize hRI : refIns (C.drop (k + 1)) l = RI at *
          have HRI := hid hRI
          clear hRI
          generalize lnAt C k = x at *
          generalize lessL x l = a at *
          generalize lessL l x = bb at *
          cases put with
          | false =>
            cases a with
            | false =>
              cases bb with
              | false =>
                have HNX : Hid ((out ++ [l]) ++ refIns (C.drop (k + 1)) l true = insC C l) := by show _ = _; rw [HRI.out]; simpa using HNX0.out
                clear HNX0
                go_upto_region 8 with fail
                refine wp_region_loud (fun _ => False) [(6, plainL [] (.agg (lnV x))), (7, plainL [] (.agg (lnV l))), (8, plainL [] (.bool false))] (fun _ => Fact.none) (by kernel_rfl) (by kernel_rfl)
                  (.cons (plainL_ok _ _) (.cons (plainL_ok _ _) (.cons (plainL_ok _ _) .nil))) good_nothing sat_none (WX.out ?_)
                repeat (first | (refine wx_quietU (by rfl) (by rfl) (by rfl) (fun K hK => ?_); go_big_quiet_op; refine hK _ ?_; clear hK K) | (refine wx_quietG (by rfl) (by rfl) (by rfl) (by rfl) (by rfl) (fun K hK => ?_); go_big_quiet_op; refine hK _ ?_; clear hK K) | (refine wx_skipG (by rfl) (by rfl) (by rfl) (fun K hK => ?_); go_simp; refine hK _ ?_; clear hK K) | (refine wx_skipN (by rfl) (by rfl) (by rfl) (fun K hK => ?_); go_simp; refine hK _ ?_; clear hK K))
                refine wx_loudG (us := []) (by rfl) (by rfl) (by rfl) (by rfl) (fun S wS hC hS hU => ?_) (fun v hv K hK => ?_)
                ·
                  exact runs_load_mid 48 (.tmp 28) rfl b (off + k * 4) rfl (lnC x) _ (HCell.out wS (hbwr.trans (hC.below.mono hbwr.size))) Tryz.underlying48 rfl k4 ⟨rfl, Kept.refl _ _, trivial⟩
                obtain rfl := hv; (go_simp; refine hK _ ?_; clear hK K)
                repeat (first | (refine wx_quietU (by rfl) (by rfl) (by rfl) (fun K hK => ?_); go_big_quiet_op; refine hK _ ?_; clear hK K) | (refine wx_quietG (by rfl) (by rfl) (by rfl) (by rfl) (by rfl) (fun K hK => ?_); go_big_quiet_op; refine hK _ ?_; clear hK K) | (refine wx_skipG (by rfl) (by rfl) (by rfl) (fun K hK => ?_); go_simp; refine hK _ ?_; clear hK K) | (refine wx_skipN (by rfl) (by rfl) (by rfl) (fun K hK => ?_); go_simp; refine hK _ ?_; clear hK K))
                refine wx_loudG (us := []) (by rfl) (by rfl) (by rfl) (by rfl) (fun S wS hC hS hU => ?_) (fun v hv K hK => ?_)
                ·
                  exact runs_load_whole 48 (.tmp 3) rfl w.heap.size rfl 48 (lnV l) (0, 0) _ (HBox.out wS (hbwr.trans (hC.below.mono hbwr.size))) Tryz.underlying48 rfl k4 ⟨rfl, Kept.refl _ _, trivial⟩
                obtain rfl := hv; (go_simp; refine hK _ ?_; clear hK K)
                repeat (first | (refine wx_quietU (by rfl) (by rfl) (by rfl) (fun K hK => ?_); go_big_quiet_op; refine hK _ ?_; clear hK K) | (refine wx_quietG (by rfl) (by rfl) (by rfl) (by rfl) (by rfl) (fun K hK => ?_); go_big_quiet_op; refine hK _ ?_; clear hK K) | (refine wx_skipG (by rfl) (by rfl) (by rfl) (fun K hK => ?_); go_simp; refine hK _ ?_; clear hK K) | (refine wx_skipN (by rfl) (by rfl) (by rfl) (fun K hK => ?_); go_simp; refine hK _ ?_; clear hK K))
                refine wx_loudG (us := []) (by rfl) (by rfl) (by rfl) (by rfl) (fun S wS hC hS hU => runs_enter (f := 46) (by go_simp <;> rfl) ?_) (fun v hv K hK => ?_)
                · refine (HXL.out wS).mono ?_
                  rintro e w' ⟨rfl, hb⟩
                  exact ⟨_, rfl, rfl, Kept.of_below hb, trivial⟩
                obtain rfl := hv; (go_simp; refine hK _ ?_; clear hK K)
                repeat (first | (refine wx_quietU (by rfl) (by rfl) (by rfl) (fun K hK => ?_); go_big_quiet_op; refine hK _ ?_; clear hK K) | (refine wx_quietG (by rfl) (by rfl) (by rfl) (by rfl) (by rfl) (fun K hK => ?_); go_big_quiet_op; refine hK _ ?_; clear hK K) | (refine wx_skipG (by rfl) (by rfl) (by rfl) (fun K hK => ?_); go_simp; refine hK _ ?_; clear hK K) | (refine wx_skipN (by rfl) (by rfl) (by rfl) (fun K hK => ?_); go_simp; refine hK _ ?_; clear hK K))
                refine wx_nil fun w4 hsat => ?_
                have hbt := sat_below hsat
                have hbw4 := hbwr.trans (hbt.mono hbwr.size)
                have how4 := own_below howr hbt
                clear hsat hbt howr hbwr
                have hba := (Below.refl w4.heap.size w4).alloc (Nat.le_refl _) (.cells (lnV l) 48)
                have hsa := sl_blkT (heap_alloc_new w4 (.cells (lnV l) 48))
                have hoa := own_below how4 hba
                have hbb := hbw4.trans (hba.mono hbw4.size)
                have hld := HBox.out w4 hbw4
                go_wp2_with (first | refine wpList_load_row rfl 48 (.tmp 3) rfl w.heap.size rfl 48 (lnV l) (0, 0) _ hld Tryz.underlying48 rfl k4 ?_ | refine wpList_build1 rfl st_rls (.tmp 35) rfl (lnV l) rfl rfl (by omega) (by omega) ?_ | (at_builtin; refine wpList_app rfl (.tmp 34) (.tmp 36) st_rls rfl w1.heap.size rfl hoa rfl hsa (LNS_one _) (by simp [maxLen]; omega) (by omega) hbb.size ?_))
                intro Aw5 cw5 w5 how5 hgw5 _
                have hbw5 := hbb.trans ((grown_below hoa hgw5 hbb.size).mono (Nat.le_refl _))
                rw [← LNS_append] at how5
                clear hba hsa hoa hbb how4 hbw4 hgw5
                clear hld
                go_upto_region 10 with fail
                refine wp_region_loud (fun _ => False) [(3, plainL [] (.agg (lnV x))), (4, plainL [] (.agg (lnV l))), (5, plainL [] (.bool false)), (7, plainL [] (.agg (lnV l))), (11, plainL [] (.agg (lnV x))), (12, plainL [] (.bool false))] (fun _ => Fact.none) (by kernel_rfl) (by kernel_rfl)
                  (.cons (plainL_ok _ _) (.cons (plainL_ok _ _) (.cons (plainL_ok _ _) (.cons (plainL_ok _ _) (.cons (plainL_ok _ _) (.cons (plainL_ok _ _) .nil)))))) good_nothing sat_none (WX.out ?_)
                repeat (first | (refine wx_quietU (by rfl) (by rfl) (by rfl) (fun K hK => ?_); go_big_quiet_op; refine hK _ ?_; clear hK K) | (refine wx_quietG (by rfl) (by rfl) (by rfl) (by rfl) (by rfl) (fun K hK => ?_); go_big_quiet_op; refine hK _ ?_; clear hK K) | (refine wx_skipG (by rfl) (by rfl) (by rfl) (fun K hK => ?_); go_simp; refine hK _ ?_; clear hK K) | (refine wx_skipN (by rfl) (by rfl) (by rfl) (fun K hK => ?_); go_simp; refine hK _ ?_; clear hK K))
                refine wx_loudU (us := []) (by rfl) (by rfl) (fun S wS hC hS hU => ?_) (fun v hv K hK => ?_)
                ·
                  exact runs_load_mid 48 (.tmp 40) rfl b (off + k * 4) rfl (lnC x) _ (HCell.out wS (hbw5.trans (hC.below.mono hbw5.size))) Tryz.underlying48 rfl k4 ⟨rfl, Kept.refl _ _, trivial⟩
                obtain rfl := hv; (go_simp; refine hK _ ?_; clear hK K)
                repeat (first | (refine wx_quietU (by rfl) (by rfl) (by rfl) (fun K hK => ?_); go_big_quiet_op; refine hK _ ?_; clear hK K) | (refine wx_quietG (by rfl) (by rfl) (by rfl) (by rfl) (by rfl) (fun K hK => ?_); go_big_quiet_op; refine hK _ ?_; clear hK K) | (refine wx_skipG (by rfl) (by rfl) (by rfl) (fun K hK => ?_); go_simp; refine hK _ ?_; clear hK K) | (refine wx_skipN (by rfl) (by rfl) (by rfl) (fun K hK => ?_); go_simp; refine hK _ ?_; clear hK K))
                refine wx_loudU (us := []) (by rfl) (by rfl) (fun S wS hC hS hU => ?_) (fun v hv K hK => ?_)
                ·
                  exact runs_load_whole 48 (.tmp 3) rfl w.heap.size rfl 48 (lnV l) (0, 0) _ (HBox.out wS (hbw5.trans (hC.below.mono hbw5.size))) Tryz.underlying48 rfl k4 ⟨rfl, Kept.refl _ _, trivial⟩
                obtain rfl := hv; (go_simp; refine hK _ ?_; clear hK K)
                repeat (first | (refine wx_quietU (by rfl) (by rfl) (by rfl) (fun K hK => ?_); go_big_quiet_op; refine hK _ ?_; clear hK K) | (refine wx_quietG (by rfl) (by rfl) (by rfl) (by rfl) (by rfl) (fun K hK => ?_); go_big_quiet_op; refine hK _ ?_; clear hK K) | (refine wx_skipG (by rfl) (by rfl) (by rfl) (fun K hK => ?_); go_simp; refine hK _ ?_; clear hK K) | (refine wx_skipN (by rfl) (by rfl) (by rfl) (fun K hK => ?_); go_simp; refine hK _ ?_; clear hK K))
                refine wx_loudU (us := []) (by rfl) (by rfl) (fun S wS hC hS hU => runs_enter (f := 46) (by go_simp <;> rfl) ?_) (fun v hv K hK => ?_)
                · refine (HXL.out wS).mono ?_
                  rintro e w' ⟨rfl, hb⟩
                  exact ⟨_, rfl, rfl, Kept.of_below hb, trivial⟩
                obtain rfl := hv; (go_simp; refine hK _ ?_; clear hK K)
                repeat (first | (refine wx_quietU (by rfl) (by rfl) (by rfl) (fun K hK => ?_); go_big_quiet_op; refine hK _ ?_; clear hK K) | (refine wx_quietG (by rfl) (by rfl) (by rfl) (by rfl) (by rfl) (fun K hK => ?_); go_big_quiet_op; refine hK _ ?_; clear hK K) | (refine wx_skipG (by rfl) (by rfl) (by rfl) (fun K hK => ?_); go_simp; refine hK _ ?_; clear hK K) | (refine wx_skipN (by rfl) (by rfl) (by rfl) (fun K hK => ?_); go_simp; refine hK _ ?_; clear hK K))
                refine wx_loudG (us := []) (by rfl) (by rfl) (by rfl) (by rfl) (fun S wS hC hS hU => ?_) (fun v hv K hK => ?_)
                ·
                  exact runs_load_whole 48 (.tmp 3) rfl w.heap.size rfl 48 (lnV l) (0, 0) _ (HBox.out wS (hbw5.trans (hC.below.mono hbw5.size))) Tryz.underlying48 rfl k4 ⟨rfl, Kept.refl _ _, trivial⟩
                obtain rfl := hv; (go_simp; refine hK _ ?_; clear hK K)
                repeat (first | (refine wx_quietU (by rfl) (by rfl) (by rfl) (fun K hK => ?_); go_big_quiet_op; refine hK _ ?_; clear hK K) | (refine wx_quietG (by rfl) (by rfl) (by rfl) (by rfl) (by rfl) (fun K hK => ?_); go_big_quiet_op; refine hK _ ?_; clear hK K) | (refine wx_skipG (by rfl) (by rfl) (by rfl) (fun K hK => ?_); go_simp; refine hK _ ?_; clear hK K) | (refine wx_skipN (by rfl) (by rfl) (by rfl) (fun K hK => ?_); go_simp; refine hK _ ?_; clear hK K))
                refine wx_loudG (us := []) (by rfl) (by rfl) (by rfl) (by rfl) (fun S wS hC hS hU => ?_) (fun v hv K hK => ?_)
                ·
                  exact runs_load_mid 48 (.tmp 48) rfl b (off + k * 4) rfl (lnC x) _ (HCell.out wS (hbw5.trans (hC.below.mono hbw5.size))) Tryz.underlying48 rfl k4 ⟨rfl, Kept.refl _ _, trivial⟩
                obtain rfl := hv; (go_simp; refine hK _ ?_; clear hK K)
                repeat (first | (refine wx_quietU (by rfl) (by rfl) (by rfl) (fun K hK => ?_); go_big_quiet_op; refine hK _ ?_; clear hK K) | (refine wx_quietG (by rfl) (by rfl) (by rfl) (by rfl) (by rfl) (fun K hK => ?_); go_big_quiet_op; refine hK _ ?_; clear hK K) | (refine wx_skipG (by rfl) (by rfl) (by rfl) (fun K hK => ?_); go_simp; refine hK _ ?_; clear hK K) | (refine wx_skipN (by rfl) (by rfl) (by rfl) (fun K hK => ?_); go_simp; refine hK _ ?_; clear hK K))
                refine wx_loudG (us := []) (by rfl) (by rfl) (by rfl) (by rfl) (fun S wS hC hS hU => runs_enter (f := 46) (by go_simp <;> rfl) ?_) (fun v hv K hK => ?_)
                · refine (HLX.out wS).mono ?_
                  rintro e w' ⟨rfl, hb⟩
                  exact ⟨_, rfl, rfl, Kept.of_below hb, trivial⟩
                obtain rfl := hv; (go_simp; refine hK _ ?_; clear hK K)
                repeat (first | (refine wx_quietU (by rfl) (by rfl) (by rfl) (fun K hK => ?_); go_big_quiet_op; refine hK _ ?_; clear hK K) | (refine wx_quietG (by rfl) (by rfl) (by rfl) (by rfl) (by rfl) (fun K hK => ?_); go_big_quiet_op; refine hK _ ?_; clear hK K) | (refine wx_skipG (by rfl) (by rfl) (by rfl) (fun K hK => ?_); go_simp; refine hK _ ?_; clear hK K) | (refine wx_skipN (by rfl) (by rfl) (by rfl) (fun K hK => ?_); go_simp; refine hK _ ?_; clear hK K))
                refine wx_nil fun w6 hsat => ?_
                have hbt := sat_below hsat
                have hbw6 := hbw5.trans (hbt.mono hbw5.size)
                have how6 := own_below how5 hbt
                clear hsat hbt how5 hbw5
                have HLE : Hid (out.length + 1 = (out ++ [l]).length) := by show _ = _; simp
                have HOZ := hid how6
                rw [HLE.out] at HOZ
                clear how6
                go_wp2_with fail
                go_light
                exact ⟨⟨k + 1, out ++ [l], true, Aw5, cw5, by omega, by go_num, rfl, by rw [← HLE.out], by rw [← HLE.out]; omega, HNX.out, HOZ.out, hbw6⟩, by simp [intOf]; omega⟩
              | true =>
                have HNX : Hid ((out ++ [l] ++ [x]) ++ refIns (C.drop (k + 1)) l true = insC C l) := by show _ = _; rw [HRI.out]; simpa using HNX0.out
                clear HNX0
                go_upto_region 8 with fail
                refine wp_region_loud (fun _ => False) [(6, plainL [] (.agg (lnV x))), (7, plainL [] (.agg (lnV l))), (8, plainL [] (.bool false))] (fun _ => Fact.none) (by kernel_rfl) (by kernel_rfl)
                  (.cons (plainL_ok _ _) (.cons (plainL_ok _ _) (.cons (plainL_ok _ _) .nil))) good_nothing sat_none (WX.out ?_)
                repeat (first | (refine wx_quietU (by rfl) (by rfl) (by rfl) (fun K hK => ?_); go_big_quiet_op; refine hK _ ?_; clear hK K) | (refine wx_quietG (by rfl) (by rfl) (by rfl) (by rfl) (by rfl) (fun K hK => ?_); go_big_quiet_op; refine hK _ ?_; clear hK K) | (refine wx_skipG (by rfl) (by rfl) (by rfl) (fun K hK => ?_); go_simp; refine hK _ ?_; clear hK K) | (refine wx_skipN (by rfl) (by rfl) (by rfl) (fun K hK => ?_); go_simp; refine hK _ ?_; clear hK K))
                refine wx_loudG (us := []) (by rfl) (by rfl) (by rfl) (by rfl) (fun S wS hC hS hU => ?_) (fun v hv K hK => ?_)
                ·
                  exact runs_load_mid 48 (.tmp 28) rfl b (off + k * 4) rfl (lnC x) _ (HCell.out wS (hbwr.trans (hC.below.mono hbwr.size))) Tryz.underlying48 rfl k4 ⟨rfl, Kept.refl _ _, trivial⟩
                obtain rfl := hv; (go_simp; refine hK _ ?_; clear hK K)
                repeat (first | (refine wx_quietU (by rfl) (by rfl) (by rfl) (fun K hK => ?_); go_big_quiet_op; refine hK _ ?_; clear hK K) | (refine wx_quietG (by rfl) (by rfl) (by rfl) (by rfl) (by rfl) (fun K hK => ?_); go_big_quiet_op; refine hK _ ?_; clear hK K) | (refine wx_skipG (by rfl) (by rfl) (by rfl) (fun K hK => ?_); go_simp; refine hK _ ?_; clear hK K) | (refine wx_skipN (by rfl) (by rfl) (by rfl) (fun K hK => ?_); go_simp; refine hK _ ?_; clear hK K))
                refine wx_loudG (us := []) (by rfl) (by rfl) (by rfl) (by rfl) (fun S wS hC hS hU => ?_) (fun v hv K hK => ?_)
                ·
                  exact runs_load_whole 48 (.tmp 3) rfl w.heap.size rfl 48 (lnV l) (0, 0) _ (HBox.out wS (hbwr.trans (hC.below.mono hbwr.size))) Tryz.underlying48 rfl k4 ⟨rfl, Kept.refl _ _, trivial⟩
                obtain rfl := hv; (go_simp; refine hK _ ?_; clear hK K)
                repeat (first | (refine wx_quietU (by rfl) (by rfl) (by rfl) (fun K hK => ?_); go_big_quiet_op; refine hK _ ?_; clear hK K) | (refine wx_quietG (by rfl) (by rfl) (by rfl) (by rfl) (by rfl) (fun K hK => ?_); go_big_quiet_op; refine hK _ ?_; clear hK K) | (refine wx_skipG (by rfl) (by rfl) (by rfl) (fun K hK => ?_); go_simp; refine hK _ ?_; clear hK K) | (refine wx_skipN (by rfl) (by rfl) (by rfl) (fun K hK => ?_); go_simp; refine hK _ ?_; clear hK K))
                refine wx_loudG (us := []) (by rfl) (by rfl) (by rfl) (by rfl) (fun S wS hC hS hU => runs_enter (f := 46) (by go_simp <;> rfl) ?_) (fun v hv K hK => ?_)
                · refine (HXL.out wS).mono ?_
                  rintro e w' ⟨rfl, hb⟩
                  exact ⟨_, rfl, rfl, Kept.of_below hb, trivial⟩
                obtain rfl := hv; (go_simp; refine hK _ ?_; clear hK K)
                repeat (first | (refine wx_quietU (by rfl) (by rfl) (by rfl) (fun K hK => ?_); go_big_quiet_op; refine hK _ ?_; clear hK K) | (refine wx_quietG (by rfl) (by rfl) (by rfl) (by rfl) (by rfl) (fun K hK => ?_); go_big_quiet_op; refine hK _ ?_; clear hK K) | (refine wx_skipG (by rfl) (by rfl) (by rfl) (fun K hK => ?_); go_simp; refine hK _ ?_; clear hK K) | (refine wx_skipN (by rfl) (by rfl) (by rfl) (fun K hK => ?_); go_simp; refine hK _ ?_; clear hK K))
                refine wx_nil fun w4 hsat => ?_
                have hbt := sat_below hsat
                have hbw4 := hbwr.trans (hbt.mono hbwr.size)
                have how4 := own_below howr hbt
                clear hsat hbt howr hbwr
                have hba := (Below.refl w4.heap.size w4).alloc (Nat.le_refl _) (.cells (lnV l) 48)
                have hsa := sl_blkT (heap_alloc_new w4 (.cells (lnV l) 48))
                have hoa := own_below how4 hba
                have hbb := hbw4.trans (hba.mono hbw4.size)
                have hld := HBox.out w4 hbw4
                go_wp2_with (first | refine wpList_load_row rfl 48 (.tmp 3) rfl w.heap.size rfl 48 (lnV l) (0, 0) _ hld Tryz.underlying48 rfl k4 ?_ | refine wpList_build1 rfl st_rls (.tmp 35) rfl (lnV l) rfl rfl (by omega) (by omega) ?_ | (at_builtin; refine wpList_app rfl (.tmp 34) (.tmp 36) st_rls rfl w1.heap.size rfl hoa rfl hsa (LNS_one _) (by simp [maxLen]; omega) (by omega) hbb.size ?_))
                intro Aw5 cw5 w5 how5 hgw5 _
                have hbw5 := hbb.trans ((grown_below hoa hgw5 hbb.size).mono (Nat.le_refl _))
                rw [← LNS_append] at how5
                clear hba hsa hoa hbb how4 hbw4 hgw5
                clear hld
                go_upto_region 10 with fail
                refine wp_region_loud (fun _ => False) [(3, plainL [] (.agg (lnV x))), (4, plainL [] (.agg (lnV l))), (5, plainL [] (.bool false)), (7, plainL [] (.agg (lnV l))), (11, plainL [] (.agg (lnV x))), (12, plainL [] (.bool true))] (fun _ => Fact.none) (by kernel_rfl) (by kernel_rfl)
                  (.cons (plainL_ok _ _) (.cons (plainL_ok _ _) (.cons (plainL_ok _ _) (.cons (plainL_ok _ _) (.cons (plainL_ok _ _) (.cons (plainL_ok _ _) .nil)))))) good_nothing sat_none (WX.out ?_)
                repeat (first | (refine wx_quietU (by rfl) (by rfl) (by rfl) (fun K hK => ?_); go_big_quiet_op; refine hK _ ?_; clear hK K) | (refine wx_quietG (by rfl) (by rfl) (by rfl) (by rfl) (by rfl) (fun K hK => ?_); go_big_quiet_op; refine hK _ ?_; clear hK K) | (refine wx_skipG (by rfl) (by rfl) (by rfl) (fun K hK => ?_); go_simp; refine hK _ ?_; clear hK K) | (refine wx_skipN (by rfl) (by rfl) (by rfl) (fun K hK => ?_); go_simp; refine hK _ ?_; clear hK K))
                refine wx_loudU (us := []) (by rfl) (by rfl) (fun S wS hC hS hU => ?_) (fun v hv K hK => ?_)
                ·
                  exact runs_load_mid 48 (.tmp 40) rfl b (off + k * 4) rfl (lnC x) _ (HCell.out wS (hbw5.trans (hC.below.mono hbw5.size))) Tryz.underlying48 rfl k4 ⟨rfl, Kept.refl _ _, trivial⟩
                obtain rfl := hv; (go_simp; refine hK _ ?_; clear hK K)
                repeat (first | (refine wx_quietU (by rfl) (by rfl) (by rfl) (fun K hK => ?_); go_big_quiet_op; refine hK _ ?_; clear hK K) | (refine wx_quietG (by rfl) (by rfl) (by rfl) (by rfl) (by rfl) (fun K hK => ?_); go_big_quiet_op; refine hK _ ?_; clear hK K) | (refine wx_skipG (by rfl) (by rfl) (by rfl) (fun K hK => ?_); go_simp; refine hK _ ?_; clear hK K) | (refine wx_skipN (by rfl) (by rfl) (by rfl) (fun K hK => ?_); go_simp; refine hK _ ?_; clear hK K))
                refine wx_loudU (us := []) (by rfl) (by rfl) (fun S wS hC hS hU => ?_) (fun v hv K hK => ?_)
                ·
                  exact runs_load_whole 48 (.tmp 3) rfl w.heap.size rfl 48 (lnV l) (0, 0) _ (HBox.out wS (hbw5.trans (hC.below.mono hbw5.size))) Tryz.underlying48 rfl k4 ⟨rfl, Kept.refl _ _, trivial⟩
                obtain rfl := hv; (go_simp; refine hK _ ?_; clear hK K)
                repeat (first | (refine wx_quietU (by rfl) (by rfl) (by rfl) (fun K hK => ?_); go_big_quiet_op; refine hK _ ?_; clear hK K) | (refine wx_quietG (by rfl) (by rfl) (by rfl) (by rfl) (by rfl) (fun K hK => ?_); go_big_quiet_op; refine hK _ ?_; clear hK K) | (refine wx_skipG (by rfl) (by rfl) (by rfl) (fun K hK => ?_); go_simp; refine hK _ ?_; clear hK K) | (refine wx_skipN (by rfl) (by rfl) (by rfl) (fun K hK => ?_); go_simp; refine hK _ ?_; clear hK K))
                refine wx_loudU (us := []) (by rfl) (by rfl) (fun S wS hC hS hU => runs_enter (f := 46) (by go_simp <;> rfl) ?_) (fun v hv K hK => ?_)
                · refine (HXL.out wS).mono ?_
                  rintro e w' ⟨rfl, hb⟩
                  exact ⟨_, rfl, rfl, Kept.of_below hb, trivial⟩
                obtain rfl := hv; (go_simp; refine hK _ ?_; clear hK K)
                repeat (first | (refine wx_quietU (by rfl) (by rfl) (by rfl) (fun K hK => ?_); go_big_quiet_op; refine hK _ ?_; clear hK K) | (refine wx_quietG (by rfl) (by rfl) (by rfl) (by rfl) (by rfl) (fun K hK => ?_); go_big_quiet_op; refine hK _ ?_; clear hK K) | (refine wx_skipG (by rfl) (by rfl) (by rfl) (fun K hK => ?_); go_simp; refine hK _ ?_; clear hK K) | (refine wx_skipN (by rfl) (by rfl) (by rfl) (fun K hK => ?_); go_simp; refine hK _ ?_; clear hK K))
                refine wx_loudG (us := []) (by rfl) (by rfl) (by rfl) (by rfl) (fun S wS hC hS hU => ?_) (fun v hv K hK => ?_)
                ·
                  exact runs_load_whole 48 (.tmp 3) rfl w.heap.size rfl 48 (lnV l) (0, 0) _ (HBox.out wS (hbw5.trans (hC.below.mono hbw5.size))) Tryz.underlying48 rfl k4 ⟨rfl, Kept.refl _ _, trivial⟩
                obtain rfl := hv; (go_simp; refine hK _ ?_; clear hK K)
                repeat (first | (refine wx_quietU (by rfl) (by rfl) (by rfl) (fun K hK => ?_); go_big_quiet_op; refine hK _ ?_; clear hK K) | (refine wx_quietG (by rfl) (by rfl) (by rfl) (by rfl) (by rfl) (fun K hK => ?_); go_big_quiet_op; refine hK _ ?_; clear hK K) | (refine wx_skipG (by rfl) (by rfl) (by rfl) (fun K hK => ?_); go_simp; refine hK _ ?_; clear hK K) | (refine wx_skipN (by rfl) (by rfl) (by rfl) (fun K hK => ?_); go_simp; refine hK _ ?_; clear hK K))
                refine wx_loudG (us := []) (by rfl) (by rfl) (by rfl) (by rfl) (fun S wS hC hS hU => ?_) (fun v hv K hK => ?_)
                ·
                  exact runs_load_mid 48 (.tmp 48) rfl b (off + k * 4) rfl (lnC x) _ (HCell.out wS (hbw5.trans (hC.below.mono hbw5.size))) Tryz.underlying48 rfl k4 ⟨rfl, Kept.refl _ _, trivial⟩
                obtain rfl := hv; (go_simp; refine hK _ ?_; clear hK K)
                repeat (first | (refine wx_quietU (by rfl) (by rfl) (by rfl) (fun K hK => ?_); go_big_quiet_op; refine hK _ ?_; clear hK K) | (refine wx_quietG (by rfl) (by rfl) (by rfl) (by rfl) (by rfl) (fun K hK => ?_); go_big_quiet_op; refine hK _ ?_; clear hK K) | (refine wx_skipG (by rfl) (by rfl) (by rfl) (fun K hK => ?_); go_simp; refine hK _ ?_; clear hK K) | (refine wx_skipN (by rfl) (by rfl) (by rfl) (fun K hK => ?_); go_simp; refine hK _ ?_; clear hK K))
                refine wx_loudG (us := []) (by rfl) (by rfl) (by rfl) (by rfl) (fun S wS hC hS hU => runs_enter (f := 46) (by go_simp <;> rfl) ?_) (fun v hv K hK => ?_)
                · refine (HLX.out wS).mono ?_
                  rintro e w' ⟨rfl, hb⟩
                  exact ⟨_, rfl, rfl, Kept.of_below hb, trivial⟩
                obtain rfl := hv; (go_simp; refine hK _ ?_; clear hK K)
                repeat (first | (refine wx_quietU (by rfl) (by rfl) (by rfl) (fun K hK => ?_); go_big_quiet_op; refine hK _ ?_; clear hK K) | (refine wx_quietG (by rfl) (by rfl) (by rfl) (by rfl) (by rfl) (fun K hK => ?_); go_big_quiet_op; refine hK _ ?_; clear hK K) | (refine wx_skipG (by rfl) (by rfl) (by rfl) (fun K hK => ?_); go_simp; refine hK _ ?_; clear hK K) | (refine wx_skipN (by rfl) (by rfl) (by rfl) (fun K hK => ?_); go_simp; refine hK _ ?_; clear hK K))
                refine wx_nil fun w6 hsat => ?_
                have hbt := sat_below hsat
                have hbw6 := hbw5.trans (hbt.mono hbw5.size)
                have how6 := own_below how5 hbt
                clear hsat hbt how5 hbw5
                have hba := (Below.refl w6.heap.size w6).alloc (Nat.le_refl _) (.cells (lnV x) 48)
                have hsa := sl_blkT (heap_alloc_new w6 (.cells (lnV x) 48))
                have hoa := own_below how6 hba
                have hbb := hbw6.trans (hba.mono hbw6.size)
                have hld := HCell.out w6 hbw6
                go_wp2_with (first | refine wpList_load_mid rfl 48 (.tmp 55) rfl b (off + k * 4) rfl (lnC x) _ hld Tryz.underlying48 rfl k4 ?_ | refine wpList_build1 rfl st_rls (.tmp 56) rfl (lnV x) rfl rfl (by omega) (by omega) ?_ | (at_builtin; refine wpList_app rfl (.tmp 52) (.tmp 57) st_rls rfl w1.heap.size rfl hoa rfl hsa (LNS_one _) (by simp [maxLen]; omega) (by omega) hbb.size ?_))
                intro Aw7 cw7 w7 how7 hgw7 _
                have hbw7 := hbb.trans ((grown_below hoa hgw7 hbb.size).mono (Nat.le_refl _))
                rw [← LNS_append] at how7
                clear hba hsa hoa hbb how6 hbw6 hgw7
                clear hld
                have HLE : Hid (out.length + 1 + 1 = (out ++ [l] ++ [x]).length) := by show _ = _; simp
                have HOZ := hid how7
                rw [HLE.out] at HOZ
                clear how7
                go_wp2_with fail
                go_light
                exact ⟨⟨k + 1, out ++ [l] ++ [x], true, Aw7, cw7, by omega, by go_num, rfl, by rw [← HLE.out], by rw [← HLE.out]; omega, HNX.out, HOZ.out, hbw7⟩, by simp [intOf]; omega⟩
            | true =>
              have HNX : Hid ((out ++ [x]) ++ refIns (C.drop (k + 1)) l false = insC C l) := by show _ = _; rw [HRI.out]; simpa using HNX0.out
              clear HNX0
              go_upto_region 8 with fail
              refine wp_region_loud (fun _ => False) [(6, plainL [] (.agg (lnV x))), (7, plainL [] (.agg (lnV l))), (8, plainL [] (.bool true))] (fun _ => Fact.none) (by kernel_rfl) (by kernel_rfl)
                (.cons (plainL_ok _ _) (.cons (plainL_ok _ _) (.cons (plainL_ok _ _) .nil))) good_nothing sat_none (WX.out ?_)
              repeat (first | (refine wx_quietU (by rfl) (by rfl) (by rfl) (fun K hK => ?_); go_big_quiet_op; refine hK _ ?_; clear hK K) | (refine wx_quietG (by rfl) (by rfl) (by rfl) (by rfl) (by rfl) (fun K hK => ?_); go_big_quiet_op; refine hK _ ?_; clear hK K) | (refine wx_skipG (by rfl) (by rfl) (by rfl) (fun K hK => ?_); go_simp; refine hK _ ?_; clear hK K) | (refine wx_skipN (by rfl) (by rfl) (by rfl) (fun K hK => ?_); go_simp; refine hK _ ?_; clear hK K))
              refine wx_loudG (us := []) (by rfl) (by rfl) (by rfl) (by rfl) (fun S wS hC hS hU => ?_) (fun v hv K hK => ?_)
              ·
                exact runs_load_mid 48 (.tmp 28) rfl b (off + k * 4) rfl (lnC x) _ (HCell.out wS (hbwr.trans (hC.below.mono hbwr.size))) Tryz.underlying48 rfl k4 ⟨rfl, Kept.refl _ _, trivial⟩
              obtain rfl := hv; (go_simp; refine hK _ ?_; clear hK K)
              repeat (first | (refine wx_quietU (by rfl) (by rfl) (by rfl) (fun K hK => ?_); go_big_quiet_op; refine hK _ ?_; clear hK K) | (refine wx_quietG (by rfl) (by rfl) (by rfl) (by rfl) (by rfl) (fun K hK => ?_); go_big_quiet_op; refine hK _ ?_; clear hK K) | (refine wx_skipG (by rfl) (by rfl) (by rfl) (fun K hK => ?_); go_simp; refine hK _ ?_; clear hK K) | (refine wx_skipN (by rfl) (by rfl) (by rfl) (fun K hK => ?_); go_simp; refine hK _ ?_; clear hK K))
              refine wx_loudG (us := []) (by rfl) (by rfl) (by rfl) (by rfl) (fun S wS hC hS hU => ?_) (fun v hv K hK => ?_)
              ·
                exact runs_load_whole 48 (.tmp 3) rfl w.heap.size rfl 48 (lnV l) (0, 0) _ (HBox.out wS (hbwr.trans (hC.below.mono hbwr.size))) Tryz.underlying48 rfl k4 ⟨rfl, Kept.refl _ _, trivial⟩
              obtain rfl := hv; (go_simp; refine hK _ ?_; clear hK K)
              repeat (first | (refine wx_quietU (by rfl) (by rfl) (by rfl) (fun K hK => ?_); go_big_quiet_op; refine hK _ ?_; clear hK K) | (refine wx_quietG (by rfl) (by rfl) (by rfl) (by rfl) (by rfl) (fun K hK => ?_); go_big_quiet_op; refine hK _ ?_; clear hK K) | (refine wx_skipG (by rfl) (by rfl) (by rfl) (fun K hK => ?_); go_simp; refine hK _ ?_; clear hK K) | (refine wx_skipN (by rfl) (by rfl) (by rfl) (fun K hK => ?_); go_simp; refine hK _ ?_; clear hK K))
              refine wx_loudG (us := []) (by rfl) (by rfl) (by rfl) (by rfl) (fun S wS hC hS hU => runs_enter (f := 46) (by go_simp <;> rfl) ?_) (fun v hv K hK => ?_)
              · refine (HXL.out wS).mono ?_
                rintro e w' ⟨rfl, hb⟩
                exact ⟨_, rfl, rfl, Kept.of_below hb, trivial⟩
              obtain rfl := hv; (go_simp; refine hK _ ?_; clear hK K)
              repeat (first | (refine wx_quietU (by rfl) (by rfl) (by rfl) (fun K hK => ?_); go_big_quiet_op; refine hK _ ?_; clear hK K) | (refine wx_quietG (by rfl) (by rfl) (by rfl) (by rfl) (by rfl) (fun K hK => ?_); go_big_quiet_op; refine hK _ ?_; clear hK K) | (refine wx_skipG (by rfl) (by rfl) (by rfl) (fun K hK => ?_); go_simp; refine hK _ ?_; clear hK K) | (refine wx_skipN (by rfl) (by rfl) (by rfl) (fun K hK => ?_); go_simp; refine hK _ ?_; clear hK K))
              refine wx_nil fun w4 hsat => ?_
              have hbt := sat_below hsat
              have hbw4 := hbwr.trans (hbt.mono hbwr.size)
              have how4 := own_below howr hbt
              clear hsat hbt howr hbwr
              go_upto_region 10 with fail
              refine wp_region_loud (fun _ => False) [(3, plainL [] (.agg (lnV x))), (4, plainL [] (.agg (lnV l))), (5, plainL [] (.bool true)), (7, plainL [] undef), (11, plainL [] undef), (12, plainL [] undef)] (fun _ => Fact.none) (by kernel_rfl) (by kernel_rfl)
                (.cons (plainL_ok _ _) (.cons (plainL_ok _ _) (.cons (plainL_ok _ _) (.cons (plainL_ok _ _) (.cons (plainL_ok _ _) (.cons (plainL_ok _ _) .nil)))))) good_nothing sat_none (WX.out ?_)
              repeat (first | (refine wx_quietU (by rfl) (by rfl) (by rfl) (fun K hK => ?_); go_big_quiet_op; refine hK _ ?_; clear hK K) | (refine wx_quietG (by rfl) (by rfl) (by rfl) (by rfl) (by rfl) (fun K hK => ?_); go_big_quiet_op; refine hK _ ?_; clear hK K) | (refine wx_skipG (by rfl) (by rfl) (by rfl) (fun K hK => ?_); go_simp; refine hK _ ?_; clear hK K) | (refine wx_skipN (by rfl) (by rfl) (by rfl) (fun K hK => ?_); go_simp; refine hK _ ?_; clear hK K))
              refine wx_loudU (us := []) (by rfl) (by rfl) (fun S wS hC hS hU => ?_) (fun v hv K hK => ?_)
              ·
                exact runs_load_mid 48 (.tmp 40) rfl b (off + k * 4) rfl (lnC x) _ (HCell.out wS (hbw4.trans (hC.below.mono hbw4.size))) Tryz.underlying48 rfl k4 ⟨rfl, Kept.refl _ _, trivial⟩
              obtain rfl := hv; (go_simp; refine hK _ ?_; clear hK K)
              repeat (first | (refine wx_quietU (by rfl) (by rfl) (by rfl) (fun K hK => ?_); go_big_quiet_op; refine hK _ ?_; clear hK K) | (refine wx_quietG (by rfl) (by rfl) (by rfl) (by rfl) (by rfl) (fun K hK => ?_); go_big_quiet_op; refine hK _ ?_; clear hK K) | (refine wx_skipG (by rfl) (by rfl) (by rfl) (fun K hK => ?_); go_simp; refine hK _ ?_; clear hK K) | (refine wx_skipN (by rfl) (by rfl) (by rfl) (fun K hK => ?_); go_simp; refine hK _ ?_; clear hK K))
              refine wx_loudU (us := []) (by rfl) (by rfl) (fun S wS hC hS hU => ?_) (fun v hv K hK => ?_)
              ·
                exact runs_load_whole 48 (.tmp 3) rfl w.heap.size rfl 48 (lnV l) (0, 0) _ (HBox.out wS (hbw4.trans (hC.below.mono hbw4.size))) Tryz.underlying48 rfl k4 ⟨rfl, Kept.refl _ _, trivial⟩
              obtain rfl := hv; (go_simp; refine hK _ ?_; clear hK K)
              repeat (first | (refine wx_quietU (by rfl) (by rfl) (by rfl) (fun K hK => ?_); go_big_quiet_op; refine hK _ ?_; clear hK K) | (refine wx_quietG (by rfl) (by rfl) (by rfl) (by rfl) (by rfl) (fun K hK => ?_); go_big_quiet_op; refine hK _ ?_; clear hK K) | (refine wx_skipG (by rfl) (by rfl) (by rfl) (fun K hK => ?_); go_simp; refine hK _ ?_; clear hK K) | (refine wx_skipN (by rfl) (by rfl) (by rfl) (fun K hK => ?_); go_simp; refine hK _ ?_; clear hK K))
              refine wx_loudU (us := []) (by rfl) (by rfl) (fun S wS hC hS hU => runs_enter (f := 46) (by go_simp <;> rfl) ?_) (fun v hv K hK => ?_)
              · refine (HXL.out wS).mono ?_
                rintro e w' ⟨rfl, hb⟩
                exact ⟨_, rfl, rfl, Kept.of_below hb, trivial⟩
              obtain rfl := hv; (go_simp; refine hK _ ?_; clear hK K)
              repeat (first | (refine wx_quietU (by rfl) (by rfl) (by rfl) (fun K hK => ?_); go_big_quiet_op; refine hK _ ?_; clear hK K) | (refine wx_quietG (by rfl) (by rfl) (by rfl) (by rfl) (by rfl) (fun K hK => ?_); go_big_quiet_op; refine hK _ ?_; clear hK K) | (refine wx_skipG (by rfl) (by rfl) (by rfl) (fun K hK => ?_); go_simp; refine hK _ ?_; clear hK K) | (refine wx_skipN (by rfl) (by rfl) (by rfl) (fun K hK => ?_); go_simp; refine hK _ ?_; clear hK K))
              refine wx_nil fun w6 hsat => ?_
              have hbt := sat_below hsat
              have hbw6 := hbw4.trans (hbt.mono hbw4.size)
              have how6 := own_below how4 hbt
              clear hsat hbt how4 hbw4
              have hba := (Below.refl w6.heap.size w6).alloc (Nat.le_refl _) (.cells (lnV x) 48)
              have hsa := sl_blkT (heap_alloc_new w6 (.cells (lnV x) 48))
              have hoa := own_below how6 hba
              have hbb := hbw6.trans (hba.mono hbw6.size)
              have hld := HCell.out w6 hbw6
              go_wp2_with (first | refine wpList_load_mid rfl 48 (.tmp 55) rfl b (off + k * 4) rfl (lnC x) _ hld Tryz.underlying48 rfl k4 ?_ | refine wpList_build1 rfl st_rls (.tmp 56) rfl (lnV x) rfl rfl (by omega) (by omega) ?_ | (at_builtin; refine wpList_app rfl (.tmp 52) (.tmp 57) st_rls rfl w1.heap.size rfl hoa rfl hsa (LNS_one _) (by simp [maxLen]; omega) (by omega) hbb.size ?_))
              intro Aw7 cw7 w7 how7 hgw7 _
              have hbw7 := hbb.trans ((grown_below hoa hgw7 hbb.size).mono (Nat.le_refl _))
              rw [← LNS_append] at how7
              clear hba hsa hoa hbb how6 hbw6 hgw7
              clear hld
              have HLE : Hid (out.length + 1 = (out ++ [x]).length) := by show _ = _; simp
              have HOZ := hid how7
              rw [HLE.out] at HOZ
              clear how7
              go_wp2_with fail
              go_light
              exact ⟨⟨k + 1, out ++ [x], false, Aw7, cw7, by omega, by go_num, rfl, by rw [← HLE.out], by rw [← HLE.out]; omega, HNX.out, HOZ.out, hbw7⟩, by simp [intOf]; omega⟩
          | true =>
            cases a with
            | false =>
              cases bb with
              | false =>
                have HNX : Hid ((out) ++ refIns (C.drop (k + 1)) l true = insC C l) := by show _ = _; rw [HRI.out]; simpa using HNX0.out
                clear HNX0
                go_upto_region 8 with fail
                refine wp_region_loud (fun _ => False) [(6, plainL [] undef), (7, plainL [] undef), (8, plainL [] undef)] (fun _ => Fact.none) (by kernel_rfl) (by kernel_rfl)
                  (.cons (plainL_ok _ _) (.cons (plainL_ok _ _) (.cons (plainL_ok _ _) .nil))) good_nothing sat_none (WX.out ?_)
                repeat (first | (refine wx_quietU (by rfl) (by rfl) (by rfl) (fun K hK => ?_); go_big_quiet_op; refine hK _ ?_; clear hK K) | (refine wx_quietG (by rfl) (by rfl) (by rfl) (by rfl) (by rfl) (fun K hK => ?_); go_big_quiet_op; refine hK _ ?_; clear hK K) | (refine wx_skipG (by rfl) (by rfl) (by rfl) (fun K hK => ?_); go_simp; refine hK _ ?_; clear hK K) | (refine wx_skipN (by rfl) (by rfl) (by rfl) (fun K hK => ?_); go_simp; refine hK _ ?_; clear hK K))
                refine wx_nil fun w4 hsat => ?_
                have hbt := sat_below hsat
                have hbw4 := hbwr.trans (hbt.mono hbwr.size)
                have how4 := own_below howr hbt
                clear hsat hbt howr hbwr
                go_upto_region 10 with fail
                refine wp_region_loud (fun _ => False) [(3, plainL [] (.agg (lnV x))), (4, plainL [] (.agg (lnV l))), (5, plainL [] (.bool false)), (7, plainL [] (.agg (lnV l))), (11, plainL [] (.agg (lnV x))), (12, plainL [] (.bool false))] (fun _ => Fact.none) (by kernel_rfl) (by kernel_rfl)
                  (.cons (plainL_ok _ _) (.cons (plainL_ok _ _) (.cons (plainL_ok _ _) (.cons (plainL_ok _ _) (.cons (plainL_ok _ _) (.cons (plainL_ok _ _) .nil)))))) good_nothing sat_none (WX.out ?_)
                repeat (first | (refine wx_quietU (by rfl) (by rfl) (by rfl) (fun K hK => ?_); go_big_quiet_op; refine hK _ ?_; clear hK K) | (refine wx_quietG (by rfl) (by rfl) (by rfl) (by rfl) (by rfl) (fun K hK => ?_); go_big_quiet_op; refine hK _ ?_; clear hK K) | (refine wx_skipG (by rfl) (by rfl) (by rfl) (fun K hK => ?_); go_simp; refine hK _ ?_; clear hK K) | (refine wx_skipN (by rfl) (by rfl) (by rfl) (fun K hK => ?_); go_simp; refine hK _ ?_; clear hK K))
                refine wx_loudU (us := []) (by rfl) (by rfl) (fun S wS hC hS hU => ?_) (fun v hv K hK => ?_)
                ·
                  exact runs_load_mid 48 (.tmp 40) rfl b (off + k * 4) rfl (lnC x) _ (HCell.out wS (hbw4.trans (hC.below.mono hbw4.size))) Tryz.underlying48 rfl k4 ⟨rfl, Kept.refl _ _, trivial⟩
                obtain rfl := hv; (go_simp; refine hK _ ?_; clear hK K)
                repeat (first | (refine wx_quietU (by rfl) (by rfl) (by rfl) (fun K hK => ?_); go_big_quiet_op; refine hK _ ?_; clear hK K) | (refine wx_quietG (by rfl) (by rfl) (by rfl) (by rfl) (by rfl) (fun K hK => ?_); go_big_quiet_op; refine hK _ ?_; clear hK K) | (refine wx_skipG (by rfl) (by rfl) (by rfl) (fun K hK => ?_); go_simp; refine hK _ ?_; clear hK K) | (refine wx_skipN (by rfl) (by rfl) (by rfl) (fun K hK => ?_); go_simp; refine hK _ ?_; clear hK K))
                refine wx_loudU (us := []) (by rfl) (by rfl) (fun S wS hC hS hU => ?_) (fun v hv K hK => ?_)
                ·
                  exact runs_load_whole 48 (.tmp 3) rfl w.heap.size rfl 48 (lnV l) (0, 0) _ (HBox.out wS (hbw4.trans (hC.below.mono hbw4.size))) Tryz.underlying48 rfl k4 ⟨rfl, Kept.refl _ _, trivial⟩
                obtain rfl := hv; (go_simp; refine hK _ ?_; clear hK K)
                repeat (first | (refine wx_quietU (by rfl) (by rfl) (by rfl) (fun K hK => ?_); go_big_quiet_op; refine hK _ ?_; clear hK K) | (refine wx_quietG (by rfl) (by rfl) (by rfl) (by rfl) (by rfl) (fun K hK => ?_); go_big_quiet_op; refine hK _ ?_; clear hK K) | (refine wx_skipG (by rfl) (by rfl) (by rfl) (fun K hK => ?_); go_simp; refine hK _ ?_; clear hK K) | (refine wx_skipN (by rfl) (by rfl) (by rfl) (fun K hK => ?_); go_simp; refine hK _ ?_; clear hK K))
                refine wx_loudU (us := []) (by rfl) (by rfl) (fun S wS hC hS hU => runs_enter (f := 46) (by go_simp <;> rfl) ?_) (fun v hv K hK => ?_)
                · refine (HXL.out wS).mono ?_
                  rintro e w' ⟨rfl, hb⟩
                  exact ⟨_, rfl, rfl, Kept.of_below hb, trivial⟩
                obtain rfl := hv; (go_simp; refine hK _ ?_; clear hK K)
                repeat (first | (refine wx_quietU (by rfl) (by rfl) (by rfl) (fun K hK => ?_); go_big_quiet_op; refine hK _ ?_; clear hK K) | (refine wx_quietG (by rfl) (by rfl) (by rfl) (by rfl) (by rfl) (fun K hK => ?_); go_big_quiet_op; refine hK _ ?_; clear hK K) | (refine wx_skipG (by rfl) (by rfl) (by rfl) (fun K hK => ?_); go_simp; refine hK _ ?_; clear hK K) | (refine wx_skipN (by rfl) (by rfl) (by rfl) (fun K hK => ?_); go_simp; refine hK _ ?_; clear hK K))
                refine wx_loudG (us := []) (by rfl) (by rfl) (by rfl) (by rfl) (fun S wS hC hS hU => ?_) (fun v hv K hK => ?_)
                ·
                  exact runs_load_whole 48 (.tmp 3) rfl w.heap.size rfl 48 (lnV l) (0, 0) _ (HBox.out wS (hbw4.trans (hC.below.mono hbw4.size))) Tryz.underlying48 rfl k4 ⟨rfl, Kept.refl _ _, trivial⟩
                obtain rfl := hv; (go_simp; refine hK _ ?_; clear hK K)
                repeat (first | (refine wx_quietU (by rfl) (by rfl) (by rfl) (fun K hK => ?_); go_big_quiet_op; refine hK _ ?_; clear hK K) | (refine wx_quietG (by rfl) (by rfl) (by rfl) (by rfl) (by rfl) (fun K hK => ?_); go_big_quiet_op; refine hK _ ?_; clear hK K) | (refine wx_skipG (by rfl) (by rfl) (by rfl) (fun K hK => ?_); go_simp; refine hK _ ?_; clear hK K) | (refine wx_skipN (by rfl) (by rfl) (by rfl) (fun K hK => ?_); go_simp; refine hK _ ?_; clear hK K))
                refine wx_loudG (us := []) (by rfl) (by rfl) (by rfl) (by rfl) (fun S wS hC hS hU => ?_) (fun v hv K hK => ?_)
                ·
                  exact runs_load_mid 48 (.tmp 48) rfl b (off + k * 4) rfl (lnC x) _ (HCell.out wS (hbw4.trans (hC.below.mono hbw4.size))) Tryz.underlying48 rfl k4 ⟨rfl, Kept.refl _ _, trivial⟩
                obtain rfl := hv; (go_simp; refine hK _ ?_; clear hK K)
                repeat (first | (refine wx_quietU (by rfl) (by rfl) (by rfl) (fun K hK => ?_); go_big_quiet_op; refine hK _ ?_; clear hK K) | (refine wx_quietG (by rfl) (by rfl) (by rfl) (by rfl) (by rfl) (fun K hK => ?_); go_big_quiet_op; refine hK _ ?_; clear hK K) | (refine wx_skipG (by rfl) (by rfl) (by rfl) (fun K hK => ?_); go_simp; refine hK _ ?_; clear hK K) | (refine wx_skipN (by rfl) (by rfl) (by rfl) (fun K hK => ?_); go_simp; refine hK _ ?_; clear hK K))
                refine wx_loudG (us := []) (by rfl) (by rfl) (by rfl) (by rfl) (fun S wS hC hS hU => runs_enter (f := 46) (by go_simp <;> rfl) ?_) (fun v hv K hK => ?_)
                · refine (HLX.out wS).mono ?_
                  rintro e w' ⟨rfl, hb⟩
                  exact ⟨_, rfl, rfl, Kept.of_below hb, trivial⟩
                obtain rfl := hv; (go_simp; refine hK _ ?_; clear hK K)
                repeat (first | (refine wx_quietU (by rfl) (by rfl) (by rfl) (fun K hK => ?_); go_big_quiet_op; refine hK _ ?_; clear hK K) | (refine wx_quietG (by rfl) (by rfl) (by rfl) (by rfl) (by rfl) (fun K hK => ?_); go_big_quiet_op; refine hK _ ?_; clear hK K) | (refine wx_skipG (by rfl) (by rfl) (by rfl) (fun K hK => ?_); go_simp; refine hK _ ?_; clear hK K) | (refine wx_skipN (by rfl) (by rfl) (by rfl) (fun K hK => ?_); go_simp; refine hK _ ?_; clear hK K))
                refine wx_nil fun w6 hsat => ?_
                have hbt := sat_below hsat
                have hbw6 := hbw4.trans (hbt.mono hbw4.size)
                have how6 := own_below how4 hbt
                clear hsat hbt how4 hbw4
                have HLE : Hid (out.length = (out).length) := by show _ = _; simp
                have HOZ := hid how6
                rw [HLE.out] at HOZ
                clear how6
                go_wp2_with fail
                go_light
                exact ⟨⟨k + 1, out, true, A1, c1, by omega, by go_num, rfl, by rw [← HLE.out], by rw [← HLE.out]; omega, HNX.out, HOZ.out, hbw6⟩, by simp [intOf]; omega⟩
              | true =>
                have HNX : Hid ((out ++ [x]) ++ refIns (C.drop (k + 1)) l true = insC C l) := by show _ = _; rw [HRI.out]; simpa using HNX0.out
                clear HNX0
                go_upto_region 8 with fail
                refine wp_region_loud (fun _ => False) [(6, plainL [] undef), (7, plainL [] undef), (8, plainL [] undef)] (fun _ => Fact.none) (by kernel_rfl) (by kernel_rfl)
                  (.cons (plainL_ok _ _) (.cons (plainL_ok _ _) (.cons (plainL_ok _ _) .nil))) good_nothing sat_none (WX.out ?_)
                repeat (first | (refine wx_quietU (by rfl) (by rfl) (by rfl) (fun K hK => ?_); go_big_quiet_op; refine hK _ ?_; clear hK K) | (refine wx_quietG (by rfl) (by rfl) (by rfl) (by rfl) (by rfl) (fun K hK => ?_); go_big_quiet_op; refine hK _ ?_; clear hK K) | (refine wx_skipG (by rfl) (by rfl) (by rfl) (fun K hK => ?_); go_simp; refine hK _ ?_; clear hK K) | (refine wx_skipN (by rfl) (by rfl) (by rfl) (fun K hK => ?_); go_simp; refine hK _ ?_; clear hK K))
                refine wx_nil fun w4 hsat => ?_
                have hbt := sat_below hsat
                have hbw4 := hbwr.trans (hbt.mono hbwr.size)
                have how4 := own_below howr hbt
                clear hsat hbt howr hbwr
                go_upto_region 10 with fail
                refine wp_region_loud (fun _ => False) [(3, plainL [] (.agg (lnV x))), (4, plainL [] (.agg (lnV l))), (5, plainL [] (.bool false)), (7, plainL [] (.agg (lnV l))), (11, plainL [] (.agg (lnV x))), (12, plainL [] (.bool true))] (fun _ => Fact.none) (by kernel_rfl) (by kernel_rfl)
                  (.cons (plainL_ok _ _) (.cons (plainL_ok _ _) (.cons (plainL_ok _ _) (.cons (plainL_ok _ _) (.cons (plainL_ok _ _) (.cons (plainL_ok _ _) .nil)))))) good_nothing sat_none (WX.out ?_)
                repeat (first | (refine wx_quietU (by rfl) (by rfl) (by rfl) (fun K hK => ?_); go_big_quiet_op; refine hK _ ?_; clear hK K) | (refine wx_quietG (by rfl) (by rfl) (by rfl) (by rfl) (by rfl) (fun K hK => ?_); go_big_quiet_op; refine hK _ ?_; clear hK K) | (refine wx_skipG (by rfl) (by rfl) (by rfl) (fun K hK => ?_); go_simp; refine hK _ ?_; clear hK K) | (refine wx_skipN (by rfl) (by rfl) (by rfl) (fun K hK => ?_); go_simp; refine hK _ ?_; clear hK K))
                refine wx_loudU (us := []) (by rfl) (by rfl) (fun S wS hC hS hU => ?_) (fun v hv K hK => ?_)
                ·
                  exact runs_load_mid 48 (.tmp 40) rfl b (off + k * 4) rfl (lnC x) _ (HCell.out wS (hbw4.trans (hC.below.mono hbw4.size))) Tryz.underlying48 rfl k4 ⟨rfl, Kept.refl _ _, trivial⟩
                obtain rfl := hv; (go_simp; refine hK _ ?_; clear hK K)
                repeat (first | (refine wx_quietU (by rfl) (by rfl) (by rfl) (fun K hK => ?_); go_big_quiet_op; refine hK _ ?_; clear hK K) | (refine wx_quietG (by rfl) (by rfl) (by rfl) (by rfl) (by rfl) (fun K hK => ?_); go_big_quiet_op; refine hK _ ?_; clear hK K) | (refine wx_skipG (by rfl) (by rfl) (by rfl) (fun K hK => ?_); go_simp; refine hK _ ?_; clear hK K) | (refine wx_skipN (by rfl) (by rfl) (by rfl) (fun K hK => ?_); go_simp; refine hK _ ?_; clear hK K))
                refine wx_loudU (us := []) (by rfl) (by rfl) (fun S wS hC hS hU => ?_) (fun v hv K hK => ?_)
                ·
                  exact runs_load_whole 48 (.tmp 3) rfl w.heap.size rfl 48 (lnV l) (0, 0) _ (HBox.out wS (hbw4.trans (hC.below.mono hbw4.size))) Tryz.underlying48 rfl k4 ⟨rfl, Kept.refl _ _, trivial⟩
                obtain rfl := hv; (go_simp; refine hK _ ?_; clear hK K)
                repeat (first | (refine wx_quietU (by rfl) (by rfl) (by rfl) (fun K hK => ?_); go_big_quiet_op; refine hK _ ?_; clear hK K) | (refine wx_quietG (by rfl) (by rfl) (by rfl) (by rfl) (by rfl) (fun K hK => ?_); go_big_quiet_op; refine hK _ ?_; clear hK K) | (refine wx_skipG (by rfl) (by rfl) (by rfl) (fun K hK => ?_); go_simp; refine hK _ ?_; clear hK K) | (refine wx_skipN (by rfl) (by rfl) (by rfl) (fun K hK => ?_); go_simp; refine hK _ ?_; clear hK K))
                refine wx_loudU (us := []) (by rfl) (by rfl) (fun S wS hC hS hU => runs_enter (f := 46) (by go_simp <;> rfl) ?_) (fun v hv K hK => ?_)
                · refine (HXL.out wS).mono ?_
                  rintro e w' ⟨rfl, hb⟩
                  exact ⟨_, rfl, rfl, Kept.of_below hb, trivial⟩
                obtain rfl := hv; (go_simp; refine hK _ ?_; clear hK K)
                repeat (first | (refine wx_quietU (by rfl) (by rfl) (by rfl) (fun K hK => ?_); go_big_quiet_op; refine hK _ ?_; clear hK K) | (refine wx_quietG (by rfl) (by rfl) (by rfl) (by rfl) (by rfl) (fun K hK => ?_); go_big_quiet_op; refine hK _ ?_; clear hK K) | (refine wx_skipG (by rfl) (by rfl) (by rfl) (fun K hK => ?_); go_simp; refine hK _ ?_; clear hK K) | (refine wx_skipN (by rfl) (by rfl) (by rfl) (fun K hK => ?_); go_simp; refine hK _ ?_; clear hK K))
                refine wx_loudG (us := []) (by rfl) (by rfl) (by rfl) (by rfl) (fun S wS hC hS hU => ?_) (fun v hv K hK => ?_)
                ·
                  exact runs_load_whole 48 (.tmp 3) rfl w.heap.size rfl 48 (lnV l) (0, 0) _ (HBox.out wS (hbw4.trans (hC.below.mono hbw4.size))) Tryz.underlying48 rfl k4 ⟨rfl, Kept.refl _ _, trivial⟩
                obtain rfl := hv; (go_simp; refine hK _ ?_; clear hK K)
                repeat (first | (refine wx_quietU (by rfl) (by rfl) (by rfl) (fun K hK => ?_); go_big_quiet_op; refine hK _ ?_; clear hK K) | (refine wx_quietG (by rfl) (by rfl) (by rfl) (by rfl) (by rfl) (fun K hK => ?_); go_big_quiet_op; refine hK _ ?_; clear hK K) | (refine wx_skipG (by rfl) (by rfl) (by rfl) (fun K hK => ?_); go_simp; refine hK _ ?_; clear hK K) | (refine wx_skipN (by rfl) (by rfl) (by rfl) (fun K hK => ?_); go_simp; refine hK _ ?_; clear hK K))
                refine wx_loudG (us := []) (by rfl) (by rfl) (by rfl) (by rfl) (fun S wS hC hS hU => ?_) (fun v hv K hK => ?_)
                ·
                  exact runs_load_mid 48 (.tmp 48) rfl b (off + k * 4) rfl (lnC x) _ (HCell.out wS (hbw4.trans (hC.below.mono hbw4.size))) Tryz.underlying48 rfl k4 ⟨rfl, Kept.refl _ _, trivial⟩
                obtain rfl := hv; (go_simp; refine hK _ ?_; clear hK K)
                repeat (first | (refine wx_quietU (by rfl) (by rfl) (by rfl) (fun K hK => ?_); go_big_quiet_op; refine hK _ ?_; clear hK K) | (refine wx_quietG (by rfl) (by rfl) (by rfl) (by rfl) (by rfl) (fun K hK => ?_); go_big_quiet_op; refine hK _ ?_; clear hK K) | (refine wx_skipG (by rfl) (by rfl) (by rfl) (fun K hK => ?_); go_simp; refine hK _ ?_; clear hK K) | (refine wx_skipN (by rfl) (by rfl) (by rfl) (fun K hK => ?_); go_simp; refine hK _ ?_; clear hK K))
                refine wx_loudG (us := []) (by rfl) (by rfl) (by rfl) (by rfl) (fun S wS hC hS hU => runs_enter (f := 46) (by go_simp <;> rfl) ?_) (fun v hv K hK => ?_)
                · refine (HLX.out wS).mono ?_
                  rintro e w' ⟨rfl, hb⟩
                  exact ⟨_, rfl, rfl, Kept.of_below hb, trivial⟩
                obtain rfl := hv; (go_simp; refine hK _ ?_; clear hK K)
                repeat (first | (refine wx_quietU (by rfl) (by rfl) (by rfl) (fun K hK => ?_); go_big_quiet_op; refine hK _ ?_; clear hK K) | (refine wx_quietG (by rfl) (by rfl) (by rfl) (by rfl) (by rfl) (fun K hK => ?_); go_big_quiet_op; refine hK _ ?_; clear hK K) | (refine wx_skipG (by rfl) (by rfl) (by rfl) (fun K hK => ?_); go_simp; refine hK _ ?_; clear hK K) | (refine wx_skipN (by rfl) (by rfl) (by rfl) (fun K hK => ?_); go_simp; refine hK _ ?_; clear hK K))
                refine wx_nil fun w6 hsat => ?_
                have hbt := sat_below hsat
                have hbw6 := hbw4.trans (hbt.mono hbw4.size)
                have how6 := own_below how4 hbt
                clear hsat hbt how4 hbw4
                have hba := (Below.refl w6.heap.size w6).alloc (Nat.le_refl _) (.cells (lnV x) 48)
                have hsa := sl_blkT (heap_alloc_new w6 (.cells (lnV x) 48))
                have hoa := own_below how6 hba
                have hbb := hbw6.trans (hba.mono hbw6.size)
                have hld := HCell.out w6 hbw6
                go_wp2_with (first | refine wpList_load_mid rfl 48 (.tmp 55) rfl b (off + k * 4) rfl (lnC x) _ hld Tryz.underlying48 rfl k4 ?_ | refine wpList_build1 rfl st_rls (.tmp 56) rfl (lnV x) rfl rfl (by omega) (by omega) ?_ | (at_builtin; refine wpList_app rfl (.tmp 52) (.tmp 57) st_rls rfl w1.heap.size rfl hoa rfl hsa (LNS_one _) (by simp [maxLen]; omega) (by omega) hbb.size ?_))
                intro Aw7 cw7 w7 how7 hgw7 _
                have hbw7 := hbb.trans ((grown_below hoa hgw7 hbb.size).mono (Nat.le_refl _))
                rw [← LNS_append] at how7
                clear hba hsa hoa hbb how6 hbw6 hgw7
                clear hld
                have HLE : Hid (out.length + 1 = (out ++ [x]).length) := by show _ = _; simp
                have HOZ := hid how7
                rw [HLE.out] at HOZ
                clear how7
                go_wp2_with fail
                go_light
                exact ⟨⟨k + 1, out ++ [x], true, Aw7, cw7, by omega, by go_num, rfl, by rw [← HLE.out], by rw [← HLE.out]; omega, HNX.out, HOZ.out, hbw7⟩, by simp [intOf]; omega⟩
            | true =>
              have HNX : Hid ((out ++ [x]) ++ refIns (C.drop (k + 1)) l true = insC C l) := by show _ = _; rw [HRI.out]; simpa using HNX0.out
              clear HNX0
              go_upto_region 8 with fail
              refine wp_region_loud (fun _ => False) [(6, plainL [] undef), (7, plainL [] undef), (8, plainL [] undef)] (fun _ => Fact.none) (by kernel_rfl) (by kernel_rfl)
                (.cons (plainL_ok _ _) (.cons (plainL_ok _ _) (.cons (plainL_ok _ _) .nil))) good_nothing sat_none (WX.out ?_)
              repeat (first | (refine wx_quietU (by rfl) (by rfl) (by rfl) (fun K hK => ?_); go_big_quiet_op; refine hK _ ?_; clear hK K) | (refine wx_quietG (by rfl) (by rfl) (by rfl) (by rfl) (by rfl) (fun K hK => ?_); go_big_quiet_op; refine hK _ ?_; clear hK K) | (refine wx_skipG (by rfl) (by rfl) (by rfl) (fun K hK => ?_); go_simp; refine hK _ ?_; clear hK K) | (refine wx_skipN (by rfl) (by rfl) (by rfl) (fun K hK => ?_); go_simp; refine hK _ ?_; clear hK K))
              refine wx_nil fun w4 hsat => ?_
              have hbt := sat_below hsat
              have hbw4 := hbwr.trans (hbt.mono hbwr.size)
              have how4 := own_below howr hbt
              clear hsat hbt howr hbwr
              go_upto_region 10 with fail
              refine wp_region_loud (fun _ => False) [(3, plainL [] (.agg (lnV x))), (4, plainL [] (.agg (lnV l))), (5, plainL [] (.bool true)), (7, plainL [] undef), (11, plainL [] undef), (12, plainL [] undef)] (fun _ => Fact.none) (by kernel_rfl) (by kernel_rfl)
                (.cons (plainL_ok _ _) (.cons (plainL_ok _ _) (.cons (plainL_ok _ _) (.cons (plainL_ok _ _) (.cons (plainL_ok _ _) (.cons (plainL_ok _ _) .nil)))))) good_nothing sat_none (WX.out ?_)
              repeat (first | (refine wx_quietU (by rfl) (by rfl) (by rfl) (fun K hK => ?_); go_big_quiet_op; refine hK _ ?_; clear hK K) | (refine wx_quietG (by rfl) (by rfl) (by rfl) (by rfl) (by rfl) (fun K hK => ?_); go_big_quiet_op; refine hK _ ?_; clear hK K) | (refine wx_skipG (by rfl) (by rfl) (by rfl) (fun K hK => ?_); go_simp; refine hK _ ?_; clear hK K) | (refine wx_skipN (by rfl) (by rfl) (by rfl) (fun K hK => ?_); go_simp; refine hK _ ?_; clear hK K))
              refine wx_loudU (us := []) (by rfl) (by rfl) (fun S wS hC hS hU => ?_) (fun v hv K hK => ?_)
              ·
                exact runs_load_mid 48 (.tmp 40) rfl b (off + k * 4) rfl (lnC x) _ (HCell.out wS (hbw4.trans (hC.below.mono hbw4.size))) Tryz.underlying48 rfl k4 ⟨rfl, Kept.refl _ _, trivial⟩
              obtain rfl := hv; (go_simp; refine hK _ ?_; clear hK K)
              repeat (first | (refine wx_quietU (by rfl) (by rfl) (by rfl) (fun K hK => ?_); go_big_quiet_op; refine hK _ ?_; clear hK K) | (refine wx_quietG (by rfl) (by rfl) (by rfl) (by rfl) (by rfl) (fun K hK => ?_); go_big_quiet_op; refine hK _ ?_; clear hK K) | (refine wx_skipG (by rfl) (by rfl) (by rfl) (fun K hK => ?_); go_simp; refine hK _ ?_; clear hK K) | (refine wx_skipN (by rfl) (by rfl) (by rfl) (fun K hK => ?_); go_simp; refine hK _ ?_; clear hK K))
              refine wx_loudU (us := []) (by rfl) (by rfl) (fun S wS hC hS hU => ?_) (fun v hv K hK => ?_)
              ·
                exact runs_load_whole 48 (.tmp 3) rfl w.heap.size rfl 48 (lnV l) (0, 0) _ (HBox.out wS (hbw4.trans (hC.below.mono hbw4.size))) Tryz.underlying48 rfl k4 ⟨rfl, Kept.refl _ _, trivial⟩
              obtain rfl := hv; (go_simp; refine hK _ ?_; clear hK K)
              repeat (first | (refine wx_quietU (by rfl) (by rfl) (by rfl) (fun K hK => ?_); go_big_quiet_op; refine hK _ ?_; clear hK K) | (refine wx_quietG (by rfl) (by rfl) (by rfl) (by rfl) (by rfl) (fun K hK => ?_); go_big_quiet_op; refine hK _ ?_; clear hK K) | (refine wx_skipG (by rfl) (by rfl) (by rfl) (fun K hK => ?_); go_simp; refine hK _ ?_; clear hK K) | (refine wx_skipN (by rfl) (by rfl) (by rfl) (fun K hK => ?_); go_simp; refine hK _ ?_; clear hK K))
              refine wx_loudU (us := []) (by rfl) (by rfl) (fun S wS hC hS hU => runs_enter (f := 46) (by go_simp <;> rfl) ?_) (fun v hv K hK => ?_)
              · refine (HXL.out wS).mono ?_
                rintro e w' ⟨rfl, hb⟩
                exact ⟨_, rfl, rfl, Kept.of_below hb, trivial⟩
              obtain rfl := hv; (go_simp; refine hK _ ?_; clear hK K)
              repeat (first | (refine wx_quietU (by rfl) (by rfl) (by rfl) (fun K hK => ?_); go_big_quiet_op; refine hK _ ?_; clear hK K) | (refine wx_quietG (by rfl) (by rfl) (by rfl) (by rfl) (by rfl) (fun K hK => ?_); go_big_quiet_op; refine hK _ ?_; clear hK K) | (refine wx_skipG (by rfl) (by rfl) (by rfl) (fun K hK => ?_); go_simp; refine hK _ ?_; clear hK K) | (refine wx_skipN (by rfl) (by rfl) (by rfl) (fun K hK => ?_); go_simp; refine hK _ ?_; clear hK K))
              refine wx_nil fun w6 hsat => ?_
              have hbt := sat_below hsat
              have hbw6 := hbw4.trans (hbt.mono hbw4.size)
              have how6 := own_below how4 hbt
              clear hsat hbt how4 hbw4
              have hba := (Below.refl w6.heap.size w6).alloc (Nat.le_refl _) (.cells (lnV x) 48)
              have hsa := sl_blkT (heap_alloc_new w6 (.cells (lnV x) 48))
              have hoa := own_below how6 hba
              have hbb := hbw6.trans (hba.mono hbw6.size)
              have hld := HCell.out w6 hbw6
              go_wp2_with (first | refine wpList_load_mid rfl 48 (.tmp 55) rfl b (off + k * 4) rfl (lnC x) _ hld Tryz.underlying48 rfl k4 ?_ | refine wpList_build1 rfl st_rls (.tmp 56) rfl (lnV x) rfl rfl (by omega) (by omega) ?_ | (at_builtin; refine wpList_app rfl (.tmp 52) (.tmp 57) st_rls rfl w1.heap.size rfl hoa rfl hsa (LNS_one _) (by simp [maxLen]; omega) (by omega) hbb.size ?_))
              intro Aw7 cw7 w7 how7 hgw7 _
              have hbw7 := hbb.trans ((grown_below hoa hgw7 hbb.size).mono (Nat.le_refl _))
              rw [← LNS_append] at how7
              clear hba hsa hoa hbb how6 hbw6 hgw7
              clear hld
              have HLE : Hid (out.length + 1 = (out ++ [x]).length) := by show _ = _; simp
              have HOZ := hid how7
              rw [HLE.out] at HOZ
              clear how7
              go_wp2_with fail
              go_light
              exact ⟨⟨k + 1, out ++ [x], true, Aw7, cw7, by omega, by go_num, rfl, by rw [← HLE.out], by rw [← HLE.out]; omega, HNX.out, HOZ.out, hbw7⟩, by simp [intOf]; omega⟩
        · obtain rfl : k = n := by omega
          have HDZ : Hid (C.drop k = []) := by show _ = _; rw [← HLN.out]; exact List.drop_length
          clear HRI
          cases put with
          | true =>
            have HNX : Hid (out = insC C l) := by
              have := HIN.out
              rw [HDZ.out] at this
              show _ = _
              simpa [refIns] using this
            clear HIN HDZ HSL
            have HLI : Hid ((insC C l).length = out.length) := by show _ = _; rw [← HNX.out]; try simp
            have HOZ := hid howr
            rw [← HLI.out] at HOZ
            have hbz := HFI.out wr hbwr
            clear howr hbwr
            by_cases h64 : out.length ≤ 64
            · have he := HE.out
              rw [HLI.out, if_pos h64] at he
              have HE0 := hid he
              have h64' : ¬ 64 < out.length := by omega
              clear he HE
              go_wp2_with fail
              go_ret2
              refine ⟨?_, hbz⟩
              have hs := HSC.out
              rw [HE0.out] at hs ⊢
              rw [hs, if_pos rfl]
              have hoo := own_sl HOZ.out
              rw [HNX.out] at hoo
              exact ⟨A1, c1, by rw [HLI.out]; rfl, hoo⟩
            · have he := HE.out
              rw [HLI.out, if_neg h64] at he
              have HE0 := hid he
              have h64' : 64 < out.length := by omega
              clear he HE
              go_wp2_with fail
              go_ret2
              refine ⟨?_, hbz⟩
              have hs := HSC.out
              rw [HE0.out] at hs ⊢
              rw [hs]
              exact ⟨none, 0, rfl, CF.sl_nil _ _ _ (by omega)⟩
          | false =>
            have HNX : Hid (out ++ [l] = insC C l) := by
              have := HIN.out
              rw [HDZ.out] at this
              show _ = _
              simpa [refIns] using this
            clear HIN HDZ HSL
            go_upto_region 13 with fail
            have hba := (Below.refl wr.heap.size wr).alloc (Nat.le_refl _) (.cells (lnV l) 48)
            have hsa := sl_blkT (heap_alloc_new wr (.cells (lnV l) 48))
            have hoa := own_below howr hba
            have hbb := hbwr.trans (hba.mono hbwr.size)
            have hld := HBox.out wr hbwr
            go_wp2_with (first | refine wpList_load_row rfl 48 (.tmp 3) rfl w.heap.size rfl 48 (lnV l) (0, 0) _ hld Tryz.underlying48 rfl k4 ?_ | refine wpList_build1 rfl st_rls (.tmp 62) rfl (lnV l) rfl rfl (by omega) (by omega) ?_ | (at_builtin; refine wpList_app rfl (.tmp 61) (.tmp 63) st_rls rfl w1.heap.size rfl hoa rfl hsa (LNS_one _) (by simp [maxLen]; omega) (by omega) hbb.size ?_))
            intro Aw5 cw5 w5 how5 hgw5 _
            have hbw5 := hbb.trans ((grown_below hoa hgw5 hbb.size).mono (Nat.le_refl _))
            rw [← LNS_append] at how5
            clear hba hsa hoa hbb howr hbwr hgw5
            clear hld
            have HLI : Hid ((insC C l).length = out.length + 1) := by show _ = _; rw [← HNX.out]; try simp
            have HOZ := hid how5
            rw [← HLI.out] at HOZ
            have hbz := HFI.out w5 hbw5
            clear how5 hbw5
            by_cases h64 : out.length + 1 ≤ 64
            · have he := HE.out
              rw [HLI.out, if_pos h64] at he
              have HE0 := hid he
              have h64' : ¬ 64 < out.length + 1 := by omega
              clear he HE
              go_wp2_with fail
              go_ret2
              refine ⟨?_, hbz⟩
              have hs := HSC.out
              rw [HE0.out] at hs ⊢
              rw [hs, if_pos rfl]
              have hoo := own_sl HOZ.out
              rw [HNX.out] at hoo
              exact ⟨Aw5, cw5, by rw [HLI.out]; rfl, hoo⟩
            · have he := HE.out
              rw [HLI.out, if_neg h64] at he
              have HE0 := hid he
              have h64' : 64 < out.length + 1 := by omega
              clear he HE
              go_wp2_with fail
              go_ret2
              refine ⟨?_, hbz⟩
              have hs := HSC.out
              rw [HE0.out] at hs ⊢
              rw [hs]
              exact ⟨none, 0, rfl, CF.sl_nil _ _ _ (by omega)⟩
end CF
end Go.Proofs.YtecfkhgocjbocaaGreatDoor
namespace Go.Proofs.YtecfkhgocjbocaaGreatDoor
set_option linter.unusedVariables false
set_option linter.unusedSimpArgs false
open Go Go.RowKit

namespace CF
theorem ln_built4 (l : Ln) : (Tryz.prog).built 29 [(0, .int .i64 l.head), (1, .string (S8 l.name)), (2, .string (S8 l.leaf)), (3, .string (S8 l.value))] = some (lnV l) := by kernel_rfl
theorem rln_built4 (l : Ln) : (Tryz.prog).built 48 [(0, .int .i64 l.head), (1, .string (S8 l.name)), (2, .string (S8 l.leaf)), (3, .string (S8 l.value))] = some (lnV l) := by kernel_rfl
theorem LNS_take (C : List Ln) (k : Nat) (hk : k < C.length) : LNS (C.take (k + 1)) = LNS (C.take k) ++ LNS [lnAt C k] := by
  rw [← LNS_append, List.take_succ_eq_append_getElem hk, ← lnAt_get C k hk]
set_option maxRecDepth 100000 in
set_option maxHeartbeats 3200000 in
theorem to_any (C : List Ln) (A : Option Addr) (n c : Nat) (w : World) (h : Sl w 4 (.slice A n c) (LNS C)) (hn : n ≤ 1000) :
    Calls Tryz.prog 26 #[.slice A n c] w fun e w' => ∃ A' c', e = .returned (.slice A' n c') ∧ w'.ownsRow w.heap.size 29 4 (.slice A' n c') n (LNS C) ∧ Below w.heap.size w w' := by
  have hl1 := (sl_lns h).1
  obtain ⟨-, hc1, hc2⟩ := sl_lns h
  have HTK : Hid (∀ k < n, LNS (C.take (k + 1)) = LNS (C.take k) ++ LNS [lnAt C k]) := fun k hk => LNS_take C k (by omega)
  have HTZ : Hid (LNS (C.take n) = LNS C) := by show _ = _; rw [List.take_of_length_le (by omega)]
  have HSL := hid h
  clear h hl1
  go_enter Tryz.func26, Tryz.ntmps26
  go_wp2_with fail
  go_loopw [3, 4] (fun v i wr => ∃ (k : Nat) (A1 : Option Addr) (c1 : Nat), k ≤ n ∧ i = .int .i64 k ∧ v = .slice A1 k c1 ∧ wr.ownsRow w.heap.size 29 4 (.slice A1 k c1) k (LNS (C.take k)) ∧ Below w.heap.size w wr) (fun _ i _ => n - (intOf i).toNat)
  case atStart => exact ⟨0, none, 0, Nat.zero_le _, rfl, rfl, own_nilE _ _ _ _, Below.refl _ _⟩
  case round =>
    obtain ⟨k, A1, c1, hk, rfl, rfl, ho, hbr⟩ := hrel
    by_cases hlt : k < n
    · obtain ⟨b, off, rfl, hbl, hcl⟩ := sl_ln HSL.out hlt
      have hcr := range_below hcl hbl hbr
      have hszr := hbr.size
      have HTK1 := hid (HTK.out k hlt)
      clear HTK HTZ hcl
      generalize lnAt C k = x at *
      generalize LNS (C.take k) = R at *
      have hnb : ¬ (fun g => Value.ownBlock (.slice A1 k c1) = some g) b := fun e => by have := ownF_ge ho b e; omega
      have y0 := fun (z : WK (fun g => Value.ownBlock (.slice A1 k c1) = some g) wr) => (wat_cell (p := ⟨b, off + k * 4, none⟩) (Nat.lt_of_lt_of_le hbl hszr) hnb z).trans (hcr 0 _ rfl)
      have y1 := fun (z : WK (fun g => Value.ownBlock (.slice A1 k c1) = some g) wr) => (wat_cell (p := ⟨b, off + k * 4 + 1, none⟩) (Nat.lt_of_lt_of_le hbl hszr) hnb z).trans (hcr 1 _ rfl)
      have y2 := fun (z : WK (fun g => Value.ownBlock (.slice A1 k c1) = some g) wr) => (wat_cell (p := ⟨b, off + k * 4 + 2, none⟩) (Nat.lt_of_lt_of_le hbl hszr) hnb z).trans (hcr 2 _ rfl)
      have y3 := fun (z : WK (fun g => Value.ownBlock (.slice A1 k c1) = some g) wr) => (wat_cell (p := ⟨b, off + k * 4 + 3, none⟩) (Nat.lt_of_lt_of_le hbl hszr) hnb z).trans (hcr 3 _ rfl)
      have HBL := hid (ln_built4 x)
      obtain ⟨Lx, hLx⟩ : ∃ z, z = LNS [x] := ⟨_, rfl⟩
      obtain ⟨vx, hvx⟩ : ∃ z, z = lnV x := ⟨_, rfl⟩
      rw [← hvx] at HBL
      rw [← hLx] at HTK1
      have HVX : Hid (vx = Lx.toArray) := by show _ = _; rw [hvx, hLx]; rfl
      have HL4 : Hid (Lx.length = 1 * 4) := by show _ = _; rw [hLx]; rfl
      have HO1 : Hid (∀ u ∈ Lx, u.oneCell' = true) := by rw [hLx]; exact LNS_one _
      clear hLx hvx hcr hnb
      have hbase := hbr.size
      go_upto_region 5 with fail
      refine wp_region_loud (fun g => Value.ownBlock (.slice A1 k c1) = some g) [(21, plainL [] (.agg vx)), (22, rowL [] w.heap.size 29 4 1 Lx), (23, rowL [100, 22] w.heap.size 29 4 (k + 1) (LNS (C.take (k + 1))))]
        (labelled 100 (OwnF w.heap.size 29 4 k R (.slice A1 k c1))) (by kernel_rfl) (by kernel_rfl)
        (.cons (plainL_ok _ _) (.cons (rowL_ok _ _ _ _ _ _) (.cons (rowL_ok _ _ _ _ _ _) .nil))) (good_one 100 (good_own _ _ _ _ _ _)) (sat_one 100 _ (ownF_lt ho) (ownF_in ho)) (WX.out ?_)
      repeat (first | (refine wx_quietU (by rfl) (by rfl) (by rfl) (fun K hK => ?_); go_big_quiet_op; refine hK _ ?_; clear hK K) | (refine wx_quietG (by rfl) (by rfl) (by rfl) (by rfl) (by rfl) (fun K hK => ?_); go_big_quiet_op; refine hK _ ?_; clear hK K) | (refine wx_skipG (by rfl) (by rfl) (by rfl) (fun K hK => ?_); go_simp; refine hK _ ?_; clear hK K) | (refine wx_skipN (by rfl) (by rfl) (by rfl) (fun K hK => ?_); go_simp; refine hK _ ?_; clear hK K))
      refine wx_loudU (us := []) (by rfl) (by rfl) (fun S wS hC hS hU => ?_) (fun v hv K hK => ?_)
      · exact runs_buildV 29 [(0, .tmp 16), (1, .tmp 21), (2, .tmp 26), (3, .tmp 31)] rfl [(0, .int .i64 x.head), (1, .string (S8 x.name)), (2, .string (S8 x.leaf)), (3, .string (S8 x.value))] rfl vx HBL.out ⟨rfl, Kept.refl _ _, trivial⟩
      obtain rfl := hv; (go_simp; refine hK _ ?_; clear hK K)
      repeat (first | (refine wx_quietU (by rfl) (by rfl) (by rfl) (fun K hK => ?_); go_big_quiet_op; refine hK _ ?_; clear hK K) | (refine wx_quietG (by rfl) (by rfl) (by rfl) (by rfl) (by rfl) (fun K hK => ?_); go_big_quiet_op; refine hK _ ?_; clear hK K) | (refine wx_skipG (by rfl) (by rfl) (by rfl) (fun K hK => ?_); go_simp; refine hK _ ?_; clear hK K) | (refine wx_skipN (by rfl) (by rfl) (by rfl) (fun K hK => ?_); go_simp; refine hK _ ?_; clear hK K))
      refine wx_loudU (us := []) (by rfl) (by rfl) (fun S wS hC hS hU => ?_) (fun v hv K hK => ?_)
      · exact runs_build1 st_lns (.tmp 32) rfl vx rfl (by rw [HVX.out]; simp [HL4.out]) (by omega) (by omega) (made_x rfl (Nat.le_trans hbase hC.size) HVX.out HL4.out (by omega) (by omega))
      obtain ⟨A9, c9, rfl⟩ := hv; (go_simp; refine hK _ ?_; clear hK K)
      repeat (first | (refine wx_quietU (by rfl) (by rfl) (by rfl) (fun K hK => ?_); go_big_quiet_op; refine hK _ ?_; clear hK K) | (refine wx_quietG (by rfl) (by rfl) (by rfl) (by rfl) (by rfl) (fun K hK => ?_); go_big_quiet_op; refine hK _ ?_; clear hK K) | (refine wx_skipG (by rfl) (by rfl) (by rfl) (fun K hK => ?_); go_simp; refine hK _ ?_; clear hK K) | (refine wx_skipN (by rfl) (by rfl) (by rfl) (fun K hK => ?_); go_simp; refine hK _ ?_; clear hK K))
      refine wx_loudU (us := [100, 22]) (by rfl) (by rfl) (fun S wS hC hS hU => ?_) (fun v hv K hK => ?_)
      · exact appS_x (.tmp 11) (.tmp 33) st_lns (by rfl) (by rfl) (by rfl) (hU 100 (by simp)) (own_sl (hU 22 (by simp)).2) HO1.out (by simp [maxLen]; omega) (by omega) (Nat.le_trans hbase hC.size) HTK1.out
      obtain ⟨A8, c8, rfl⟩ := hv; (go_simp; refine hK _ ?_; clear hK K)
      repeat (first | (refine wx_quietU (by rfl) (by rfl) (by rfl) (fun K hK => ?_); go_big_quiet_op; refine hK _ ?_; clear hK K) | (refine wx_quietG (by rfl) (by rfl) (by rfl) (by rfl) (by rfl) (fun K hK => ?_); go_big_quiet_op; refine hK _ ?_; clear hK K) | (refine wx_skipG (by rfl) (by rfl) (by rfl) (fun K hK => ?_); go_simp; refine hK _ ?_; clear hK K) | (refine wx_skipN (by rfl) (by rfl) (by rfl) (fun K hK => ?_); go_simp; refine hK _ ?_; clear hK K))
      refine wx_nil fun w3 hsat => ?_
      have ho3 := sat_row hsat 23 (by rfl)
      have hb3 := hbr.trans (hsat.1.below_of (B := w.heap.size) hbase (fun g hg => ownF_ge ho g hg))
      clear hsat y0 y1 y2 y3 HBL HO1 ho
      go_wp2_with fail
      go_light
      exact ⟨⟨k + 1, A8, c8, by omega, by go_num, rfl, ho3, hb3⟩, by simp [intOf]; omega⟩
    · obtain rfl : k = n := by omega
      rw [HTZ.out] at ho
      have HO := hid ho
      clear ho HTK HTZ
      go_wp2_with fail
      go_ret
      exact ⟨A1, c1, rfl, HO.out, hbr⟩
set_option maxRecDepth 100000 in
set_option maxHeartbeats 3200000 in
theorem from_any (C : List Ln) (A : Option Addr) (n c : Nat) (w : World) (h : Sl w 4 (.slice A n c) (LNS C)) (hn : n ≤ 1000) :
    Calls Tryz.prog 23 #[.slice A n c] w fun e w' => ∃ A' c', e = .returned (.slice A' n c') ∧ w'.ownsRow w.heap.size 48 4 (.slice A' n c') n (LNS C) ∧ Below w.heap.size w w' := by
  have hl1 := (sl_lns h).1
  obtain ⟨-, hc1, hc2⟩ := sl_lns h
  have HTK : Hid (∀ k < n, LNS (C.take (k + 1)) = LNS (C.take k) ++ LNS [lnAt C k]) := fun k hk => LNS_take C k (by omega)
  have HTZ : Hid (LNS (C.take n) = LNS C) := by show _ = _; rw [List.take_of_length_le (by omega)]
  have HSL := hid h
  clear h hl1
  go_enter Tryz.func23, Tryz.ntmps23
  go_wp2_with fail
  go_loopw [3, 4] (fun v i wr => ∃ (k : Nat) (A1 : Option Addr) (c1 : Nat), k ≤ n ∧ i = .int .i64 k ∧ v = .slice A1 k c1 ∧ wr.ownsRow w.heap.size 48 4 (.slice A1 k c1) k (LNS (C.take k)) ∧ Below w.heap.size w wr) (fun _ i _ => n - (intOf i).toNat)
  case atStart => exact ⟨0, none, 0, Nat.zero_le _, rfl, rfl, own_nilE _ _ _ _, Below.refl _ _⟩
  case round =>
    obtain ⟨k, A1, c1, hk, rfl, rfl, ho, hbr⟩ := hrel
    by_cases hlt : k < n
    · obtain ⟨b, off, rfl, hbl, hcl⟩ := sl_ln HSL.out hlt
      have hcr := range_below hcl hbl hbr
      have hszr := hbr.size
      have HTK1 := hid (HTK.out k hlt)
      clear HTK HTZ hcl
      generalize lnAt C k = x at *
      generalize LNS (C.take k) = R at *
      have hnb : ¬ (fun g => Value.ownBlock (.slice A1 k c1) = some g) b := fun e => by have := ownF_ge ho b e; omega
      have y0 := fun (z : WK (fun g => Value.ownBlock (.slice A1 k c1) = some g) wr) => (wat_cell (p := ⟨b, off + k * 4, none⟩) (Nat.lt_of_lt_of_le hbl hszr) hnb z).trans (hcr 0 _ rfl)
      have y1 := fun (z : WK (fun g => Value.ownBlock (.slice A1 k c1) = some g) wr) => (wat_cell (p := ⟨b, off + k * 4 + 1, none⟩) (Nat.lt_of_lt_of_le hbl hszr) hnb z).trans (hcr 1 _ rfl)
      have y2 := fun (z : WK (fun g => Value.ownBlock (.slice A1 k c1) = some g) wr) => (wat_cell (p := ⟨b, off + k * 4 + 2, none⟩) (Nat.lt_of_lt_of_le hbl hszr) hnb z).trans (hcr 2 _ rfl)
      have y3 := fun (z : WK (fun g => Value.ownBlock (.slice A1 k c1) = some g) wr) => (wat_cell (p := ⟨b, off + k * 4 + 3, none⟩) (Nat.lt_of_lt_of_le hbl hszr) hnb z).trans (hcr 3 _ rfl)
      have HBL := hid (rln_built4 x)
      obtain ⟨Lx, hLx⟩ : ∃ z, z = LNS [x] := ⟨_, rfl⟩
      obtain ⟨vx, hvx⟩ : ∃ z, z = lnV x := ⟨_, rfl⟩
      rw [← hvx] at HBL
      rw [← hLx] at HTK1
      have HVX : Hid (vx = Lx.toArray) := by show _ = _; rw [hvx, hLx]; rfl
      have HL4 : Hid (Lx.length = 1 * 4) := by show _ = _; rw [hLx]; rfl
      have HO1 : Hid (∀ u ∈ Lx, u.oneCell' = true) := by rw [hLx]; exact LNS_one _
      clear hLx hvx hcr hnb
      have hbase := hbr.size
      go_upto_region 5 with fail
      refine wp_region_loud (fun g => Value.ownBlock (.slice A1 k c1) = some g) [(21, plainL [] (.agg vx)), (22, rowL [] w.heap.size 48 4 1 Lx), (23, rowL [100, 22] w.heap.size 48 4 (k + 1) (LNS (C.take (k + 1))))]
        (labelled 100 (OwnF w.heap.size 48 4 k R (.slice A1 k c1))) (by kernel_rfl) (by kernel_rfl)
        (.cons (plainL_ok _ _) (.cons (rowL_ok _ _ _ _ _ _) (.cons (rowL_ok _ _ _ _ _ _) .nil))) (good_one 100 (good_own _ _ _ _ _ _)) (sat_one 100 _ (ownF_lt ho) (ownF_in ho)) (WX.out ?_)
      repeat (first | (refine wx_quietU (by rfl) (by rfl) (by rfl) (fun K hK => ?_); go_big_quiet_op; refine hK _ ?_; clear hK K) | (refine wx_quietG (by rfl) (by rfl) (by rfl) (by rfl) (by rfl) (fun K hK => ?_); go_big_quiet_op; refine hK _ ?_; clear hK K) | (refine wx_skipG (by rfl) (by rfl) (by rfl) (fun K hK => ?_); go_simp; refine hK _ ?_; clear hK K) | (refine wx_skipN (by rfl) (by rfl) (by rfl) (fun K hK => ?_); go_simp; refine hK _ ?_; clear hK K))
      refine wx_loudU (us := []) (by rfl) (by rfl) (fun S wS hC hS hU => ?_) (fun v hv K hK => ?_)
      · exact runs_buildV 48 [(0, .tmp 16), (1, .tmp 21), (2, .tmp 26), (3, .tmp 31)] rfl [(0, .int .i64 x.head), (1, .string (S8 x.name)), (2, .string (S8 x.leaf)), (3, .string (S8 x.value))] rfl vx HBL.out ⟨rfl, Kept.refl _ _, trivial⟩
      obtain rfl := hv; (go_simp; refine hK _ ?_; clear hK K)
      repeat (first | (refine wx_quietU (by rfl) (by rfl) (by rfl) (fun K hK => ?_); go_big_quiet_op; refine hK _ ?_; clear hK K) | (refine wx_quietG (by rfl) (by rfl) (by rfl) (by rfl) (by rfl) (fun K hK => ?_); go_big_quiet_op; refine hK _ ?_; clear hK K) | (refine wx_skipG (by rfl) (by rfl) (by rfl) (fun K hK => ?_); go_simp; refine hK _ ?_; clear hK K) | (refine wx_skipN (by rfl) (by rfl) (by rfl) (fun K hK => ?_); go_simp; refine hK _ ?_; clear hK K))
      refine wx_loudU (us := []) (by rfl) (by rfl) (fun S wS hC hS hU => ?_) (fun v hv K hK => ?_)
      · exact runs_build1 st_rls (.tmp 32) rfl vx rfl (by rw [HVX.out]; simp [HL4.out]) (by omega) (by omega) (made_x rfl (Nat.le_trans hbase hC.size) HVX.out HL4.out (by omega) (by omega))
      obtain ⟨A9, c9, rfl⟩ := hv; (go_simp; refine hK _ ?_; clear hK K)
      repeat (first | (refine wx_quietU (by rfl) (by rfl) (by rfl) (fun K hK => ?_); go_big_quiet_op; refine hK _ ?_; clear hK K) | (refine wx_quietG (by rfl) (by rfl) (by rfl) (by rfl) (by rfl) (fun K hK => ?_); go_big_quiet_op; refine hK _ ?_; clear hK K) | (refine wx_skipG (by rfl) (by rfl) (by rfl) (fun K hK => ?_); go_simp; refine hK _ ?_; clear hK K) | (refine wx_skipN (by rfl) (by rfl) (by rfl) (fun K hK => ?_); go_simp; refine hK _ ?_; clear hK K))
      refine wx_loudU (us := [100, 22]) (by rfl) (by rfl) (fun S wS hC hS hU => ?_) (fun v hv K hK => ?_)
      · exact appS_x (.tmp 11) (.tmp 33) st_rls (by rfl) (by rfl) (by rfl) (hU 100 (by simp)) (own_sl (hU 22 (by simp)).2) HO1.out (by simp [maxLen]; omega) (by omega) (Nat.le_trans hbase hC.size) HTK1.out
      obtain ⟨A8, c8, rfl⟩ := hv; (go_simp; refine hK _ ?_; clear hK K)
      repeat (first | (refine wx_quietU (by rfl) (by rfl) (by rfl) (fun K hK => ?_); go_big_quiet_op; refine hK _ ?_; clear hK K) | (refine wx_quietG (by rfl) (by rfl) (by rfl) (by rfl) (by rfl) (fun K hK => ?_); go_big_quiet_op; refine hK _ ?_; clear hK K) | (refine wx_skipG (by rfl) (by rfl) (by rfl) (fun K hK => ?_); go_simp; refine hK _ ?_; clear hK K) | (refine wx_skipN (by rfl) (by rfl) (by rfl) (fun K hK => ?_); go_simp; refine hK _ ?_; clear hK K))
      refine wx_nil fun w3 hsat => ?_
      have ho3 := sat_row hsat 23 (by rfl)
      have hb3 := hbr.trans (hsat.1.below_of (B := w.heap.size) hbase (fun g hg => ownF_ge ho g hg))
      clear hsat y0 y1 y2 y3 HBL HO1 ho
      go_wp2_with fail
      go_light
      exact ⟨⟨k + 1, A8, c8, by omega, by go_num, rfl, ho3, hb3⟩, by simp [intOf]; omega⟩
    · obtain rfl : k = n := by omega
      rw [HTZ.out] at ho
      have HO := hid ho
      clear ho HTK HTZ
      go_wp2_with fail
      go_ret
      exact ⟨A1, c1, rfl, HO.out, hbr⟩
end CF
end Go.Proofs.YtecfkhgocjbocaaGreatDoor
namespace Go.Proofs.YtecfkhgocjbocaaGreatDoor
set_option linter.unusedVariables false
set_option linter.unusedSimpArgs false
open Go Go.RowKit

namespace CF
def stepB (C : List Ln) (l : Ln) : List Ln := if setE C l = 0 then setC C l else C
def buildTo (L : List Ln) (k : Nat) : List Ln := (L.take k).foldl stepB []
/-- the configuration of the lines that may be, and still fit -/
def buildC (L : List Ln) : List Ln := buildTo L 100
theorem buildTo_succ (L : List Ln) (k : Nat) (hk : k < L.length) : buildTo L (k + 1) = stepB (buildTo L k) (lnAt L k) := by
  unfold buildTo
  rw [List.take_succ_eq_append_getElem hk, List.foldl_append, ← lnAt_get L k hk]
  rfl
theorem setE_ok (C : List Ln) (l : Ln) (h : setE C l = 0) : RightC C = true ∧ rightL l = true ∧ (insC C l).length ≤ 64 ∧ setC C l = insC C l := by
  have h2 : setC C l = insC C l := by unfold setC; rw [if_pos h]
  unfold setE at h
  split at h
  · rename_i h1
    rw [Bool.and_eq_true] at h1
    split at h
    · rename_i h3
      exact ⟨h1.1, h1.2, h3, h2⟩
    · cases h
  · cases h
theorem right_set (C : List Ln) (l : Ln) (h : setE C l = 0) : RightC (setC C l) = true := by
  obtain ⟨h1, h2, h3, h4⟩ := setE_ok C l h
  rw [h4]
  exact right_ins C l h1 h2 h3
theorem stepB_right (C : List Ln) (l : Ln) (h : RightC C = true) : RightC (stepB C l) = true := by
  unfold stepB
  split
  · rename_i h1; exact right_set C l h1
  · exact h
theorem stepB_mem (C : List Ln) (l x : Ln) (h : x ∈ stepB C l) : x = l ∨ x ∈ C := by
  unfold stepB at h
  split at h
  · rename_i h1
    rw [(setE_ok C l h1).2.2.2] at h
    exact ins_mem C l x h
  · exact .inr h
theorem fold_right (L C : List Ln) (h : RightC C = true) : RightC (L.foldl stepB C) = true := by
  induction L generalizing C with
  | nil => exact h
  | cons x r ih => exact ih _ (stepB_right C x h)
theorem fold_mem (L C : List Ln) (x : Ln) (h : x ∈ L.foldl stepB C) : x ∈ L ∨ x ∈ C := by
  induction L generalizing C with
  | nil => exact .inr h
  | cons y r ih =>
    rcases ih _ h with h | h
    · exact .inl (List.mem_cons_of_mem _ h)
    · rcases stepB_mem C y x h with h | h
      · exact .inl (by rw [h]; exact List.mem_cons_self)
      · exact .inr h
theorem build_right (L : List Ln) (k : Nat) : RightC (buildTo L k) = true := fold_right _ _ rfl
theorem build_mem (L : List Ln) (k : Nat) (x : Ln) (h : x ∈ buildTo L k) : x ∈ L := by
  rcases fold_mem _ _ x h with h | h
  · exact List.mem_of_mem_take h
  · cases h
theorem right_len {C : List Ln} (h : RightC C = true) : C.length ≤ 64 := ((RightC_iff C).1 h).2.2
theorem right_srt {C : List Ln} (h : RightC C = true) : Srt C := ((RightC_iff C).1 h).2.1
theorem build_all (L : List Ln) (k : Nat) (hk : L.length ≤ k ∨ k = 100) (h2 : k ≤ 100) : buildTo L k = buildC L := by
  unfold buildC buildTo
  rcases hk with h | h
  · rw [List.take_of_length_le h, List.take_of_length_le (by omega)]
  · rw [h]
set_option maxRecDepth 100000 in
set_option maxHeartbeats 3200000 in
theorem build_any (L : List Ln) (A : Option Addr) (n c : Nat) (w : World) (h : Sl w 4 (.slice A n c) (LNS L)) (hL : ∀ l ∈ L, LnOk l) (hen : Env w) :
    Calls Tryz.prog 19 #[.slice A n c] w fun e w' => (∃ A' c', e = .returned (.slice A' (buildC L).length c') ∧ Sl w' 4 (.slice A' (buildC L).length c') (LNS (buildC L))) ∧ Below w.heap.size w w' := by
  have hl1 := (sl_lns h).1
  obtain ⟨-, hc1, hc2⟩ := sl_lns h
  have HSL := hid h
  have HEN := hid hen
  have HBS : Hid (∀ k < n, buildTo L (k + 1) = stepB (buildTo L k) (lnAt L k)) := fun k hk => buildTo_succ L k (by omega)
  have HBA : Hid (∀ k, n ≤ k ∨ k = 100 → k ≤ 100 → buildTo L k = buildC L) := fun k h1 h2 => build_all L k (h1.elim (fun h => .inl (by omega)) .inr) h2
  have HOK : Hid (∀ k, ∀ l ∈ buildTo L k, LnOk l) := fun k l hl => hL l (build_mem L k l hl)
  have HLK : Hid (∀ k < n, LnOk (lnAt L k)) := fun k hk => by rw [lnAt_get L k (by omega)]; exact hL _ (List.getElem_mem _)
  clear hL h hen hl1
  generalize buildC L = BC at *
  go_enter Tryz.func19, Tryz.ntmps19
  go_wp2_with fail
  go_loopw [3, 4] (fun v i wr => ∃ (k : Nat) (A1 : Option Addr) (c1 : Nat), k ≤ n ∧ k ≤ 100 ∧ i = .int .i64 k ∧ v = .slice A1 (buildTo L k).length c1 ∧ Hid (Sl wr 4 (.slice A1 (buildTo L k).length c1) (LNS (buildTo L k))) ∧ Below w.heap.size w wr) (fun _ i _ => n - (intOf i).toNat)
  case atStart => exact ⟨0, none, 0, Nat.zero_le _, by omega, rfl, rfl, CF.sl_nil _ _ _ (by omega), Below.refl _ _⟩
  case round =>
    obtain ⟨k, A1, c1, hk, hk1, rfl, rfl, hs, hbr⟩ := hrel
    by_cases hlt : k < n
    · by_cases h100 : k < 100
      · obtain ⟨b, off, rfl, hbl, hcl⟩ := sl_ln (HSL.out.below hbr) hlt
        have HS1 := hid (refSet_any (buildTo L k) (lnAt L k) A1 (buildTo L k).length c1 wr hs.out (HOK.out k) (HLK.out k hlt) (HEN.out.below hbr))
        have HB1 := hid (HBS.out k hlt)
        have HSN : Hid (∀ E, setE (buildTo L k) (lnAt L k) = E → stepB (buildTo L k) (lnAt L k) = if E = 0 then setC (buildTo L k) (lnAt L k) else buildTo L k) := fun E h => by unfold stepB; rw [h]
        clear HBA HOK HLK HBS
        generalize setE (buildTo L k) (lnAt L k) = E at *
        generalize setC (buildTo L k) (lnAt L k) = D at *
        generalize hST : stepB (buildTo L k) (lnAt L k) = ST at *
        have HST := hid (HSN.out E rfl)
        clear HSN hST
        generalize lnAt L k = l at *
        generalize buildTo L k = C at *
        go_upto_region 5 with fail
        go_wp2_with (refine wpList_load_mid rfl 48 (.tmp 21) rfl b (off + k * 4) rfl (lnC l) _ hcl Tryz.underlying48 rfl k4 ?_)
        refine HS1.out.mono ?_
        rintro e w2 ⟨⟨A2, c2, rfl, hs2⟩, hb2⟩
        have hbw2 := hbr.trans (hb2.mono hbr.size)
        have HS2 := hid hs2
        have HS3 := hid (hs.out.below hb2)
        clear HS1 hb2 hs2 hs hcl
        by_cases hE : E = 0
        · have te : (E == 0) = true := by simpa using hE
          have HEQ : Hid (buildTo L (k + 1) = D) := by show _ = _; rw [HB1.out, HST.out, if_pos hE]
          clear hE HB1 HST
          go_wp2_with fail
          go_light
          exact ⟨⟨k + 1, A2, c2, by omega, by omega, by go_num, by rw [HEQ.out], by rw [HEQ.out]; exact HS2, hbw2⟩, by simp [intOf]; omega⟩
        · have te : (E == 0) = false := by simpa using hE
          have HEQ : Hid (buildTo L (k + 1) = C) := by show _ = _; rw [HB1.out, HST.out, if_neg hE]
          clear hE HB1 HST
          go_wp2_with fail
          go_light
          exact ⟨⟨k + 1, A1, c1, by omega, by omega, by go_num, by rw [HEQ.out], by rw [HEQ.out]; exact HS3, hbw2⟩, by simp [intOf]; omega⟩
      · obtain rfl : k = 100 := by omega
        have HE := hid (HBA.out 100 (.inr rfl) (by omega))
        clear HBA HOK HLK HBS
        generalize buildTo L 100 = C at *
        go_wp2_with fail
        go_ret
        exact ⟨⟨A1, c1, by rw [← HE.out]; rfl, by rw [← HE.out]; exact hs.out⟩, hbr⟩
    · have HE := hid (HBA.out k (.inl (by omega)) hk1)
      clear HBA HOK HLK HBS
      generalize buildTo L k = C at *
      go_wp2_with fail
      go_ret
      exact ⟨⟨A1, c1, by rw [← HE.out]; rfl, by rw [← HE.out]; exact hs.out⟩, hbr⟩
end CF
end Go.Proofs.YtecfkhgocjbocaaGreatDoor
namespace Go.Proofs.YtecfkhgocjbocaaGreatDoor
set_option linter.unusedVariables false
set_option linter.unusedSimpArgs false
open Go Go.RowKit

namespace CF
theorem st_bts : ST Tryz.prog 38 5 1 1 := .mk Tryz.underlying38 (z := .int .u8 0) (by kernel_rfl) rfl (by omega)
theorem info_bt : (Tryz.prog.info? 5).map (fun i => (i.zero, i.size, i.bytes)) = some (some (.int .u8 0), 1, 1) := by kernel_rfl
/-- append of a string, within a region -/
theorem appT_x {w : World} {o : Oper} {a : Act} {S : Nat → Prop} (s x : Operand) (ho : o.op = .call { callee := .builtin .append, args := #[s, x], argTypes := #[38, 9] })
    {base n c : Nat} {A : Option Addr} {P r Z : List UInt8} (hs : a.eval s = .slice A n c) (hx : a.eval x = .string (S8 r))
    (k1 : OwnF base 5 1 n (B8 P) (.slice A n c) S w) (hb : n + r.length ≤ 140737488355328) (hbase : base ≤ w.heap.size) (hz : Z = P ++ r) :
    runs Tryz.prog o a w fun v w' => LeavesRow S w base 5 1 (n + r.length) (B8 Z) v w' := by
  obtain ⟨i0, hi0, hz0, hzs, hzb⟩ := info_parts info_bt
  obtain ⟨A', c', w', hr, h2, h3, h4⟩ := app_str (P := Tryz.prog) w (t := 38) (u := 9) (e := 5) o.type Tryz.underlying38 Tryz.underlying9 hi0 hz0 hzs hzb base n c A (B8 P) k1.2 r hb hbase
  unfold runs execOp
  simp only [ho, resolve, invoke, builtin, Sem.run_bind, Sem.run_pure, Result.andThen_ok, List.map_toArray, List.map_cons, List.map_nil, hs, hx, hr]
  rw [← B8_append, ← hz] at h2
  exact ⟨⟨_, _, rfl⟩, own_kept k1 h3, own_app k1 h2 h4⟩
def bt (n : Nat) : UInt8 := UInt8.ofNat n
theorem bt_nat (n : Nat) (h : n < 256) : (bt n).toNat = n := by unfold bt; rw [UInt8.toNat_ofNat']; omega
/-- a line as bytes -/
def lineP (l : Ln) : List UInt8 := [bt l.head.toNat, bt l.name.length] ++ l.name ++ ([bt l.leaf.length] ++ l.leaf) ++ ([bt l.value.length] ++ l.value)
def putC (C : List Ln) : List UInt8 := C.flatMap lineP
/-- it can be laid as bytes -/
def LnB (l : Ln) : Prop := 0 ≤ l.head ∧ l.head ≤ 255 ∧ l.name.length ≤ 255 ∧ l.leaf.length ≤ 255 ∧ l.value.length ≤ 255
theorem lineP_len (l : Ln) (h : LnB l) : (lineP l).length ≤ 800 := by
  obtain ⟨_, _, h1, h2, h3⟩ := h
  unfold lineP
  simp only [List.length_append, List.length_cons, List.length_nil]
  omega
theorem putC_len (C : List Ln) (h : ∀ l ∈ C, LnB l) : (putC C).length ≤ C.length * 800 := flat_len C _ _ fun x hx => lineP_len x (h x hx)
theorem own_ne {w : World} {base n g : Nat} {v : Value} {xs : List Value} {cs : Array Value} {T : TypeId} {fr : Nat × Nat} (h : w.ownsRow base 5 1 v n xs) (hg : w.heap[g]? = some (.cells cs T fr)) (hT : T ≠ 5) : v.ownBlock ≠ some g := by
  intro e
  obtain ⟨_, h1 | ⟨g', cap, cur, hv, _, hg', _⟩⟩ := h
  · rw [h1.1] at e; cases e
  · rw [hv] at e
    injection e with e
    subst e
    rw [hg] at hg'
    injection hg' with e1
    injection e1 with _ e2 _
    exact hT e2
theorem box_z {w : World} {g : Nat} {cs : List Value} {T : TypeId} {S0 : Nat → Prop} (h : w.heap[g]? = some (.cells cs.toArray T (0, 0))) (hn : ¬ S0 g) (i : Nat) (v : Value) (hv : cs[i]? = some v) : ∀ z : WK S0 w, (wat z).cell? ⟨g, i, none⟩ = some v := fun z =>
  (wat_cell (p := ⟨g, i, none⟩) (blk_lt h) hn z).trans ((blkCell h i).trans (by simpa using hv))
set_option maxRecDepth 100000 in
set_option maxHeartbeats 6400000 in
theorem refPut_any (C : List Ln) (A : Option Addr) (n c : Nat) (w : World) (h : Sl w 4 (.slice A n c) (LNS C)) (hC : ∀ l ∈ C, LnB l) (hn : n ≤ 100) :
    Calls Tryz.prog 18 #[.slice A n c] w fun e w' => ∃ A' c', e = .returned (.slice A' (putC C).length c') ∧ w'.ownsRow w.heap.size 5 1 (.slice A' (putC C).length c') (putC C).length (B8 (putC C)) ∧ Below w.heap.size w w' := by
  have hl1 := (sl_lns h).1
  obtain ⟨-, hc1, hc2⟩ := sl_lns h
  have HTK : Hid (∀ k < n, putC (C.take (k + 1)) = putC (C.take k) ++ lineP (lnAt C k)) := fun k hk => flat_succ C _ k (by omega)
  have HTZ : Hid (putC (C.take n) = putC C) := by show _ = _; rw [List.take_of_length_le (by omega)]
  have HTL : Hid (∀ k, k ≤ n → (putC (C.take k)).length ≤ 80000) := fun k hk => by
    have h1 := putC_len (C.take k) (fun l hl => hC l (List.mem_of_mem_take hl))
    have h2 : (C.take k).length ≤ 100 := by rw [List.length_take]; omega
    have h3 : (C.take k).length * 800 ≤ 100 * 800 := Nat.mul_le_mul_right _ h2
    omega
  have HL : Hid (∀ k < n, LnB (lnAt C k)) := fun k hk => by rw [lnAt_get C k (by omega)]; exact hC _ (List.getElem_mem _)
  have HSL := hid h
  clear h hl1 hC
  go_enter Tryz.func18, Tryz.ntmps18
  go_wp2_with fail
  go_loopw [3, 4] (fun v i wr => ∃ (k : Nat) (A1 : Option Addr) (c1 : Nat), k ≤ n ∧ i = .int .i64 k ∧ v = .slice A1 (putC (C.take k)).length c1 ∧ wr.ownsRow w.heap.size 5 1 (.slice A1 (putC (C.take k)).length c1) (putC (C.take k)).length (B8 (putC (C.take k))) ∧ Below w.heap.size w wr) (fun _ i _ => n - (intOf i).toNat)
  case atStart => exact ⟨0, none, 0, Nat.zero_le _, rfl, rfl, own_nilE _ _ _ _, Below.refl _ _⟩
  case round =>
    obtain ⟨k, A1, c1, hk, rfl, rfl, ho, hbr⟩ := hrel
    by_cases hlt : k < n
    · obtain ⟨b, off, rfl, hbl, hcl⟩ := sl_ln (HSL.out.below hbr) hlt
      obtain ⟨hh0, hh1, hn1, hn2, hn3⟩ := HL.out k hlt
      have HT1 := hid (HTK.out k hlt)
      have htl := HTL.out k hk
      obtain ⟨hb2, hg2, hl2⟩ := box1 wr (.cells (lnV (lnAt C k)) 48)
      have ho2 := own_below ho hb2
      have hbw2 := hbr.trans (hb2.mono hbr.size)
      have hlo := ownF_lt ho
      clear HL HTK HTL HTZ ho
      generalize lnAt C k = l at *
      generalize putC (C.take k) = P at *
      go_upto_region 6 with (first | refine wpList_load_mid rfl 48 (.tmp 14) rfl b (off + k * 4) rfl (lnC l) _ hcl Tryz.underlying48 rfl k4 ?_ | refine wpList_store_last rfl 48 (.tmp 5) (.tmp 15) rfl (lnV l) rfl rfl k4 rfl (lnV_one _) ?_)
      obtain ⟨gB, hgB⟩ : ∃ g, g = wr.heap.size := ⟨_, rfl⟩
      rw [← hgB] at hg2 ⊢
      generalize wr.alloc (.cells (lnV l) 48) = w2 at *
      have hbase := hbw2.size
      clear hlo hgB hb2 hl2 hcl hbr
      show Code.wp _ _ _ ({ tmps := _, defers := [] } : Act) _
      have z0 := box_z (S0 := fun b => Value.ownBlock (.slice A1 P.length c1) = some b) hg2 (fun e => own_ne ho2 hg2 (by decide) e) 0 _ rfl
      have z1 := box_z (S0 := fun b => Value.ownBlock (.slice A1 P.length c1) = some b) hg2 (fun e => own_ne ho2 hg2 (by decide) e) 1 _ rfl
      have HB1 : Hid (#[Value.int .u8 l.head, Value.int .u8 ((S8 l.name).size : Int)] = (B8 [bt l.head.toNat, bt l.name.length]).toArray) := by
        show _ = _
        simp only [B8, List.map_cons, List.map_nil, bt_nat l.name.length (by omega), bt_nat l.head.toNat (by omega), S8_size, Int.toNat_of_nonneg hh0]
      have hw1 : IntKind.u8.wrap ((S8 l.name).size : Int) = ((S8 l.name).size : Int) := by rw [S8_size, IntKind.wrap_u8]; omega
      have hw2 : IntKind.u8.wrap l.head = l.head := by rw [IntKind.wrap_u8]; omega
      refine wp_region_loud (fun b => Value.ownBlock (.slice A1 P.length c1) = some b) [(8, rowL [] w.heap.size 5 1 2 (B8 [bt l.head.toNat, bt l.name.length])), (9, rowL [100, 8] w.heap.size 5 1 (P.length + 2) (B8 (P ++ [bt l.head.toNat, bt l.name.length]))), (12, rowL [9] w.heap.size 5 1 (P.length + 2 + l.name.length) (B8 (P ++ [bt l.head.toNat, bt l.name.length] ++ l.name)))]
        (labelled 100 (OwnF w.heap.size 5 1 P.length (B8 P) (.slice A1 P.length c1))) (by kernel_rfl) (by kernel_rfl)
        (.cons (rowL_ok _ _ _ _ _ _) (.cons (rowL_ok _ _ _ _ _ _) (.cons (rowL_ok _ _ _ _ _ _) .nil))) (good_one 100 (good_own _ _ _ _ _ _)) (sat_one 100 _ (ownF_lt ho2) (ownF_in ho2)) (WX.out ?_)
      repeat (first | (refine wx_quietU (by rfl) (by rfl) (by rfl) (fun K hK => ?_); go_big_quiet_op; refine hK _ ?_; clear hK K) | (refine wx_quietG (by rfl) (by rfl) (by rfl) (by rfl) (by rfl) (fun K hK => ?_); go_big_quiet_op; refine hK _ ?_; clear hK K) | (refine wx_skipG (by rfl) (by rfl) (by rfl) (fun K hK => ?_); go_simp; refine hK _ ?_; clear hK K) | (refine wx_skipN (by rfl) (by rfl) (by rfl) (fun K hK => ?_); go_simp; refine hK _ ?_; clear hK K))
      refine wx_loudU (us := []) (by rfl) (by rfl) (fun S wS hC hS hU => ?_) (fun v hv K hK => ?_)
      · exact runs_value (by go_simp <;> rfl) (made_x rfl (Nat.le_trans hbase hC.size) HB1.out (by simp [B8]) (by omega) (by omega))
      obtain ⟨A5, c5, rfl⟩ := hv; (go_simp; refine hK _ ?_; clear hK K)
      repeat (first | (refine wx_quietU (by rfl) (by rfl) (by rfl) (fun K hK => ?_); go_big_quiet_op; refine hK _ ?_; clear hK K) | (refine wx_quietG (by rfl) (by rfl) (by rfl) (by rfl) (by rfl) (fun K hK => ?_); go_big_quiet_op; refine hK _ ?_; clear hK K) | (refine wx_skipG (by rfl) (by rfl) (by rfl) (fun K hK => ?_); go_simp; refine hK _ ?_; clear hK K) | (refine wx_skipN (by rfl) (by rfl) (by rfl) (fun K hK => ?_); go_simp; refine hK _ ?_; clear hK K))
      refine wx_loudU (us := [100, 8]) (by rfl) (by rfl) (fun S wS hC hS hU => ?_) (fun v hv K hK => ?_)
      · exact appS_x (.tmp 16) (.tmp 24) st_bts (by rfl) (by rfl) (by rfl) (hU 100 (by simp)) (own_sl (hU 8 (by simp)).2) (B8_one _) (by simp [maxLen]; omega) (by omega) (Nat.le_trans hbase hC.size) (B8_append _ _)
      obtain ⟨A6, c6, rfl⟩ := hv; (go_simp; refine hK _ ?_; clear hK K)
      repeat (first | (refine wx_quietU (by rfl) (by rfl) (by rfl) (fun K hK => ?_); go_big_quiet_op; refine hK _ ?_; clear hK K) | (refine wx_quietG (by rfl) (by rfl) (by rfl) (by rfl) (by rfl) (fun K hK => ?_); go_big_quiet_op; refine hK _ ?_; clear hK K) | (refine wx_skipG (by rfl) (by rfl) (by rfl) (fun K hK => ?_); go_simp; refine hK _ ?_; clear hK K) | (refine wx_skipN (by rfl) (by rfl) (by rfl) (fun K hK => ?_); go_simp; refine hK _ ?_; clear hK K))
      refine wx_loudU (us := [9]) (by rfl) (by rfl) (fun S wS hC hS hU => ?_) (fun v hv K hK => ?_)
      · exact appT_x (.tmp 25) (.tmp 27) (by rfl) (by rfl) (by rfl) (hU 9 (by simp)) (by omega) (Nat.le_trans hbase hC.size) rfl
      obtain ⟨A7, c7, rfl⟩ := hv; (go_simp; refine hK _ ?_; clear hK K)
      repeat (first | (refine wx_quietU (by rfl) (by rfl) (by rfl) (fun K hK => ?_); go_big_quiet_op; refine hK _ ?_; clear hK K) | (refine wx_quietG (by rfl) (by rfl) (by rfl) (by rfl) (by rfl) (fun K hK => ?_); go_big_quiet_op; refine hK _ ?_; clear hK K) | (refine wx_skipG (by rfl) (by rfl) (by rfl) (fun K hK => ?_); go_simp; refine hK _ ?_; clear hK K) | (refine wx_skipN (by rfl) (by rfl) (by rfl) (fun K hK => ?_); go_simp; refine hK _ ?_; clear hK K))
      refine wx_nil fun w3 hsat => ?_
      have how3 := sat_row hsat 12 (by rfl)
      have hgw3 : w3.heap[gB]? = some (.cells (lnV l) 48 (0, 0)) := (hsat.1.block gB (blk_lt hg2) (fun e => own_ne ho2 hg2 (by decide) e)).trans hg2
      have hbw3 := hbw2.trans (hsat.1.below_of (B := w.heap.size) hbase (fun g hg => ownF_ge ho2 g hg))
      clear hsat ho2 hg2 hbw2 z0 z1 HB1 hw1 hw2 hbase
      obtain ⟨m3, hm3⟩ : ∃ m, m = P.length + 2 + l.name.length := ⟨_, rfl⟩
      obtain ⟨P3, hP3⟩ : ∃ z, z = P ++ [bt l.head.toNat, bt l.name.length] ++ l.name := ⟨_, rfl⟩
      have hm3l : m3 ≤ 80300 := by omega
      rw [← hm3, ← hP3] at how3
      rw [← hm3]
      have HM3 := hid hm3
      have HP3 := hid hP3
      clear hm3 hP3
      go_upto_region 7 with fail
      have z2 := box_z (S0 := fun b => Value.ownBlock (.slice A7 m3 c7) = some b) hgw3 (fun e => own_ne how3 hgw3 (by decide) e) 2 _ rfl
      have hbase := hbw3.size
      have HB1 : Hid (#[Value.int .u8 ((S8 (l.leaf)).size : Int)] = (B8 [bt (l.leaf).length]).toArray) := by
        show _ = _
        simp only [B8, List.map_cons, List.map_nil, bt_nat (l.leaf).length (by omega), S8_size]
      have hw1 : IntKind.u8.wrap ((S8 (l.leaf)).size : Int) = ((S8 (l.leaf)).size : Int) := by rw [S8_size, IntKind.wrap_u8]; omega
      refine wp_region_loud (fun b => Value.ownBlock (.slice A7 m3 c7) = some b) [(5, rowL [] w.heap.size 5 1 1 (B8 [bt (l.leaf).length])), (6, rowL [100, 5] w.heap.size 5 1 (m3 + 1) (B8 (P3 ++ [bt (l.leaf).length]))), (9, rowL [6] w.heap.size 5 1 (m3 + 1 + (l.leaf).length) (B8 (P3 ++ [bt (l.leaf).length] ++ l.leaf)))]
        (labelled 100 (OwnF w.heap.size 5 1 (m3) (B8 (P3)) (.slice A7 m3 c7))) (by kernel_rfl) (by kernel_rfl)
        (.cons (rowL_ok _ _ _ _ _ _) (.cons (rowL_ok _ _ _ _ _ _) (.cons (rowL_ok _ _ _ _ _ _) .nil))) (good_one 100 (good_own _ _ _ _ _ _)) (sat_one 100 _ (ownF_lt how3) (ownF_in how3)) (WX.out ?_)
      repeat (first | (refine wx_quietU (by rfl) (by rfl) (by rfl) (fun K hK => ?_); go_big_quiet_op; refine hK _ ?_; clear hK K) | (refine wx_quietG (by rfl) (by rfl) (by rfl) (by rfl) (by rfl) (fun K hK => ?_); go_big_quiet_op; refine hK _ ?_; clear hK K) | (refine wx_skipG (by rfl) (by rfl) (by rfl) (fun K hK => ?_); go_simp; refine hK _ ?_; clear hK K) | (refine wx_skipN (by rfl) (by rfl) (by rfl) (fun K hK => ?_); go_simp; refine hK _ ?_; clear hK K))
      refine wx_loudU (us := []) (by rfl) (by rfl) (fun S wS hC hS hU => ?_) (fun v hv K hK => ?_)
      · exact runs_value (by go_simp <;> rfl) (made_x rfl (Nat.le_trans hbase hC.size) HB1.out (by simp [B8]) (by omega) (by omega))
      obtain ⟨A5, c5, rfl⟩ := hv; (go_simp; refine hK _ ?_; clear hK K)
      repeat (first | (refine wx_quietU (by rfl) (by rfl) (by rfl) (fun K hK => ?_); go_big_quiet_op; refine hK _ ?_; clear hK K) | (refine wx_quietG (by rfl) (by rfl) (by rfl) (by rfl) (by rfl) (fun K hK => ?_); go_big_quiet_op; refine hK _ ?_; clear hK K) | (refine wx_skipG (by rfl) (by rfl) (by rfl) (fun K hK => ?_); go_simp; refine hK _ ?_; clear hK K) | (refine wx_skipN (by rfl) (by rfl) (by rfl) (fun K hK => ?_); go_simp; refine hK _ ?_; clear hK K))
      refine wx_loudU (us := [100, 5]) (by rfl) (by rfl) (fun S wS hC hS hU => ?_) (fun v hv K hK => ?_)
      · exact appS_x (.tmp 29) (.tmp 34) st_bts (by rfl) (by rfl) (by rfl) (hU 100 (by simp)) (own_sl (hU 5 (by simp)).2) (B8_one _) (by simp [maxLen]; omega) (by omega) (Nat.le_trans hbase hC.size) (B8_append _ _)
      obtain ⟨A6, c6, rfl⟩ := hv; (go_simp; refine hK _ ?_; clear hK K)
      repeat (first | (refine wx_quietU (by rfl) (by rfl) (by rfl) (fun K hK => ?_); go_big_quiet_op; refine hK _ ?_; clear hK K) | (refine wx_quietG (by rfl) (by rfl) (by rfl) (by rfl) (by rfl) (fun K hK => ?_); go_big_quiet_op; refine hK _ ?_; clear hK K) | (refine wx_skipG (by rfl) (by rfl) (by rfl) (fun K hK => ?_); go_simp; refine hK _ ?_; clear hK K) | (refine wx_skipN (by rfl) (by rfl) (by rfl) (fun K hK => ?_); go_simp; refine hK _ ?_; clear hK K))
      refine wx_loudU (us := [6]) (by rfl) (by rfl) (fun S wS hC hS hU => ?_) (fun v hv K hK => ?_)
      · exact appT_x (.tmp 35) (.tmp 37) (by rfl) (by rfl) (by rfl) (hU 6 (by simp)) (by omega) (Nat.le_trans hbase hC.size) rfl
      obtain ⟨Aw4, cw4, rfl⟩ := hv; (go_simp; refine hK _ ?_; clear hK K)
      repeat (first | (refine wx_quietU (by rfl) (by rfl) (by rfl) (fun K hK => ?_); go_big_quiet_op; refine hK _ ?_; clear hK K) | (refine wx_quietG (by rfl) (by rfl) (by rfl) (by rfl) (by rfl) (fun K hK => ?_); go_big_quiet_op; refine hK _ ?_; clear hK K) | (refine wx_skipG (by rfl) (by rfl) (by rfl) (fun K hK => ?_); go_simp; refine hK _ ?_; clear hK K) | (refine wx_skipN (by rfl) (by rfl) (by rfl) (fun K hK => ?_); go_simp; refine hK _ ?_; clear hK K))
      refine wx_nil fun w4 hsat => ?_
      have how4 := sat_row hsat 9 (by rfl)
      have hgw4 : w4.heap[gB]? = some (.cells (lnV l) 48 (0, 0)) := (hsat.1.block gB (blk_lt hgw3) (fun e => own_ne how3 hgw3 (by decide) e)).trans hgw3
      have hbw4 := hbw3.trans (hsat.1.below_of (B := w.heap.size) hbase (fun g hg => ownF_ge how3 g hg))
      clear hsat how3 hgw3 hbw3 z2 HB1 hw1 hbase
      obtain ⟨m4, hm4⟩ : ∃ m, m = m3 + 1 + l.leaf.length := ⟨_, rfl⟩
      obtain ⟨P4, hP4⟩ : ∃ z, z = P3 ++ [bt l.leaf.length] ++ l.leaf := ⟨_, rfl⟩
      have hm4l : m4 ≤ 80600 := by omega
      rw [← hm4, ← hP4] at how4
      rw [← hm4]
      have HM4 := hid hm4
      have HP4 := hid hP4
      clear hm4 hP4
      go_upto_region 8 with fail
      have z3 := box_z (S0 := fun b => Value.ownBlock (.slice Aw4 m4 cw4) = some b) hgw4 (fun e => own_ne how4 hgw4 (by decide) e) 3 _ rfl
      have hbase := hbw4.size
      have HB1 : Hid (#[Value.int .u8 ((S8 (l.value)).size : Int)] = (B8 [bt (l.value).length]).toArray) := by
        show _ = _
        simp only [B8, List.map_cons, List.map_nil, bt_nat (l.value).length (by omega), S8_size]
      have hw1 : IntKind.u8.wrap ((S8 (l.value)).size : Int) = ((S8 (l.value)).size : Int) := by rw [S8_size, IntKind.wrap_u8]; omega
      refine wp_region_loud (fun b => Value.ownBlock (.slice Aw4 m4 cw4) = some b) [(5, rowL [] w.heap.size 5 1 1 (B8 [bt (l.value).length])), (6, rowL [100, 5] w.heap.size 5 1 (m4 + 1) (B8 (P4 ++ [bt (l.value).length]))), (9, rowL [6] w.heap.size 5 1 (m4 + 1 + (l.value).length) (B8 (P4 ++ [bt (l.value).length] ++ l.value)))]
        (labelled 100 (OwnF w.heap.size 5 1 (m4) (B8 (P4)) (.slice Aw4 m4 cw4))) (by kernel_rfl) (by kernel_rfl)
        (.cons (rowL_ok _ _ _ _ _ _) (.cons (rowL_ok _ _ _ _ _ _) (.cons (rowL_ok _ _ _ _ _ _) .nil))) (good_one 100 (good_own _ _ _ _ _ _)) (sat_one 100 _ (ownF_lt how4) (ownF_in how4)) (WX.out ?_)
      repeat (first | (refine wx_quietU (by rfl) (by rfl) (by rfl) (fun K hK => ?_); go_big_quiet_op; refine hK _ ?_; clear hK K) | (refine wx_quietG (by rfl) (by rfl) (by rfl) (by rfl) (by rfl) (fun K hK => ?_); go_big_quiet_op; refine hK _ ?_; clear hK K) | (refine wx_skipG (by rfl) (by rfl) (by rfl) (fun K hK => ?_); go_simp; refine hK _ ?_; clear hK K) | (refine wx_skipN (by rfl) (by rfl) (by rfl) (fun K hK => ?_); go_simp; refine hK _ ?_; clear hK K))
      refine wx_loudU (us := []) (by rfl) (by rfl) (fun S wS hC hS hU => ?_) (fun v hv K hK => ?_)
      · exact runs_value (by go_simp <;> rfl) (made_x rfl (Nat.le_trans hbase hC.size) HB1.out (by simp [B8]) (by omega) (by omega))
      obtain ⟨A5, c5, rfl⟩ := hv; (go_simp; refine hK _ ?_; clear hK K)
      repeat (first | (refine wx_quietU (by rfl) (by rfl) (by rfl) (fun K hK => ?_); go_big_quiet_op; refine hK _ ?_; clear hK K) | (refine wx_quietG (by rfl) (by rfl) (by rfl) (by rfl) (by rfl) (fun K hK => ?_); go_big_quiet_op; refine hK _ ?_; clear hK K) | (refine wx_skipG (by rfl) (by rfl) (by rfl) (fun K hK => ?_); go_simp; refine hK _ ?_; clear hK K) | (refine wx_skipN (by rfl) (by rfl) (by rfl) (fun K hK => ?_); go_simp; refine hK _ ?_; clear hK K))
      refine wx_loudU (us := [100, 5]) (by rfl) (by rfl) (fun S wS hC hS hU => ?_) (fun v hv K hK => ?_)
      · exact appS_x (.tmp 39) (.tmp 44) st_bts (by rfl) (by rfl) (by rfl) (hU 100 (by simp)) (own_sl (hU 5 (by simp)).2) (B8_one _) (by simp [maxLen]; omega) (by omega) (Nat.le_trans hbase hC.size) (B8_append _ _)
      obtain ⟨A6, c6, rfl⟩ := hv; (go_simp; refine hK _ ?_; clear hK K)
      repeat (first | (refine wx_quietU (by rfl) (by rfl) (by rfl) (fun K hK => ?_); go_big_quiet_op; refine hK _ ?_; clear hK K) | (refine wx_quietG (by rfl) (by rfl) (by rfl) (by rfl) (by rfl) (fun K hK => ?_); go_big_quiet_op; refine hK _ ?_; clear hK K) | (refine wx_skipG (by rfl) (by rfl) (by rfl) (fun K hK => ?_); go_simp; refine hK _ ?_; clear hK K) | (refine wx_skipN (by rfl) (by rfl) (by rfl) (fun K hK => ?_); go_simp; refine hK _ ?_; clear hK K))
      refine wx_loudU (us := [6]) (by rfl) (by rfl) (fun S wS hC hS hU => ?_) (fun v hv K hK => ?_)
      · exact appT_x (.tmp 45) (.tmp 47) (by rfl) (by rfl) (by rfl) (hU 6 (by simp)) (by omega) (Nat.le_trans hbase hC.size) rfl
      obtain ⟨Aw5, cw5, rfl⟩ := hv; (go_simp; refine hK _ ?_; clear hK K)
      repeat (first | (refine wx_quietU (by rfl) (by rfl) (by rfl) (fun K hK => ?_); go_big_quiet_op; refine hK _ ?_; clear hK K) | (refine wx_quietG (by rfl) (by rfl) (by rfl) (by rfl) (by rfl) (fun K hK => ?_); go_big_quiet_op; refine hK _ ?_; clear hK K) | (refine wx_skipG (by rfl) (by rfl) (by rfl) (fun K hK => ?_); go_simp; refine hK _ ?_; clear hK K) | (refine wx_skipN (by rfl) (by rfl) (by rfl) (fun K hK => ?_); go_simp; refine hK _ ?_; clear hK K))
      refine wx_nil fun w5 hsat => ?_
      have how5 := sat_row hsat 9 (by rfl)
      have hgw5 : w5.heap[gB]? = some (.cells (lnV l) 48 (0, 0)) := (hsat.1.block gB (blk_lt hgw4) (fun e => own_ne how4 hgw4 (by decide) e)).trans hgw4
      have hbw5 := hbw4.trans (hsat.1.below_of (B := w.heap.size) hbase (fun g hg => ownF_ge how4 g hg))
      clear hsat how4 hgw4 hbw4 z3 HB1 hw1 hbase
      have HPZ : Hid (putC (C.take (k + 1)) = P4 ++ [bt l.value.length] ++ l.value) := by
        show _ = _
        rw [HT1.out, HP4.out, HP3.out]
        unfold lineP
        simp only [List.append_assoc]
      have HMZ : Hid (m4 + 1 + l.value.length = (putC (C.take (k + 1))).length) := by
        show _ = _
        rw [HPZ.out, HM4.out, HM3.out, HP4.out, HP3.out]
        simp only [List.length_append, List.length_cons, List.length_nil]
      rw [← HPZ.out, HMZ.out] at how5
      have HO5 := hid how5
      clear how5 hgw5
      go_wp2_with fail
      go_light
      exact ⟨⟨k + 1, Aw5, cw5, by omega, by go_num, by rw [← HMZ.out], HO5.out, hbw5⟩, by simp [intOf]; omega⟩
    · obtain rfl : k = n := by omega
      rw [HTZ.out] at ho
      have HO := hid ho
      have HZ := hid HTZ.out
      clear ho HTK HTZ HL HTL
      generalize putC (C.take k) = P at *
      go_wp2_with fail
      go_ret
      exact ⟨A1, c1, by rw [← HZ.out]; rfl, HO.out, hbr⟩
end CF
end Go.Proofs.YtecfkhgocjbocaaGreatDoor
namespace Go.Proofs.YtecfkhgocjbocaaGreatDoor
set_option linter.unusedVariables false
set_option linter.unusedSimpArgs false
open Go Go.RowKit

namespace CF
theorem sl_dropB {w : World} {A : Option Addr} {n c : Nat} {l : List UInt8} (h : Sl w 1 (.slice A n c) (B8 l)) (k : Nat) (hk : k ≤ n) :
    Sl w 1 (.slice (if c = k then A else A.map (·.add k)) (n - k) (c - k)) (B8 (l.drop k)) := by
  obtain ⟨A', n', c', he, hl, hnc, hcm, hr⟩ := h
  injection he with e1 e2 e3
  subst e1; subst e2; subst e3
  rw [B8_length, Nat.mul_one] at hl
  refine ⟨_, _, _, rfl, by rw [B8_length, List.length_drop]; omega, by omega, by simp only [maxLen] at *; omega, fun h0 => ?_⟩
  obtain ⟨b, off, rfl, hlt, hc⟩ := hr (by omega)
  refine ⟨b, off + k, by rw [if_neg (by omega)]; simp [addr_add], hlt, fun i hi => ?_⟩
  rw [Nat.add_assoc, hc (k + i) (by omega)]
  simp only [B8, ← List.map_drop, List.getElem?_map, List.getElem?_drop]
theorem sl_takeB {w : World} {A : Option Addr} {n c : Nat} {l : List UInt8} (h : Sl w 1 (.slice A n c) (B8 l)) (k : Nat) (hk : k ≤ n) : Sl w 1 (.slice A k c) (B8 (l.take k)) := by
  obtain ⟨A', n', c', he, hl, hnc, hcm, hr⟩ := h
  injection he with e1 e2 e3
  subst e1; subst e2; subst e3
  rw [B8_length, Nat.mul_one] at hl
  refine ⟨_, _, _, rfl, by rw [B8_length, List.length_take]; omega, by omega, hcm, fun h0 => ?_⟩
  obtain ⟨b, off, rfl, hlt, hc⟩ := hr (by omega)
  refine ⟨b, off, rfl, hlt, fun i hi => ?_⟩
  rw [hc i (by omega)]
  simp only [B8, ← List.map_take, List.getElem?_map, List.getElem?_take]
  rw [if_pos (by omega)]
/-- one text ahead of bytes, and what is behind it -/
def takeS : List UInt8 → Option (List UInt8 × List UInt8)
  | [] => none
  | x :: r => if x.toNat ≤ r.length then some (r.take x.toNat, r.drop x.toNat) else none
theorem takeS_len (b : List UInt8) (s r : List UInt8) (h : takeS b = some (s, r)) : s.length ≤ 255 ∧ r.length < b.length ∧ b.length = 1 + s.length + r.length := by
  cases b with
  | nil => cases h
  | cons x t =>
    rw [show takeS (x :: t) = if x.toNat ≤ t.length then some (t.take x.toNat, t.drop x.toNat) else none from rfl] at h
    split at h
    · rename_i hx
      injection h with h
      injection h with h1 h2
      subst h1; subst h2
      have := x.toNat_lt
      simp only [List.length_take, List.length_drop, List.length_cons]
      omega
    · cases h
/-- one line -/
def takeL : List UInt8 → Option (Ln × List UInt8)
  | [] => none
  | x :: r => match takeS r with
    | none => none
    | some (nm, r1) => match takeS r1 with
      | none => none
      | some (lf, r2) => match takeS r2 with
        | none => none
        | some (vl, r3) => some (⟨x.toNat, nm, lf, vl⟩, r3)
theorem takeL_len (b : List UInt8) (l : Ln) (r : List UInt8) (h : takeL b = some (l, r)) : r.length < b.length ∧ LnB l := by
  cases b with
  | nil => cases h
  | cons x t =>
    rw [show takeL (x :: t) = (match takeS t with
      | none => none
      | some (nm, r1) => match takeS r1 with
        | none => none
        | some (lf, r2) => match takeS r2 with
          | none => none
          | some (vl, r3) => some (⟨x.toNat, nm, lf, vl⟩, r3)) from rfl] at h
    cases h1 : takeS t with
    | none => rw [h1] at h; cases h
    | some p1 =>
      obtain ⟨nm, r1⟩ := p1
      rw [h1] at h
      simp only at h
      cases h2 : takeS r1 with
      | none => rw [h2] at h; cases h
      | some p2 =>
        obtain ⟨lf, r2⟩ := p2
        rw [h2] at h
        simp only at h
        cases h3 : takeS r2 with
        | none => rw [h3] at h; cases h
        | some p3 =>
          obtain ⟨vl, r3⟩ := p3
          rw [h3] at h
          simp only at h
          injection h with h
          injection h with e1 e2
          subst e1; subst e2
          have k1 := takeS_len _ _ _ h1
          have k2 := takeS_len _ _ _ h2
          have k3 := takeS_len _ _ _ h3
          have := x.toNat_lt
          refine ⟨by simp only [List.length_cons]; omega, ?_⟩
          unfold LnB
          simp only
          omega
def getF : Nat → List UInt8 → Option (List Ln)
  | 0, b => if b = [] then some [] else none
  | f + 1, b => if b = [] then some [] else match takeL b with
    | none => none
    | some (l, r) => (getF f r).map (l :: ·)
theorem getF_more (f g : Nat) (b : List UInt8) (h1 : b.length ≤ f) (h2 : b.length ≤ g) : getF f b = getF g b := by
  induction f generalizing g b with
  | zero =>
    obtain rfl : b = [] := List.eq_nil_of_length_eq_zero (by omega)
    cases g <;> rfl
  | succ f ih =>
    cases g with
    | zero =>
      obtain rfl : b = [] := List.eq_nil_of_length_eq_zero (by omega)
      rfl
    | succ g =>
      unfold getF
      by_cases hb : b = []
      · rw [if_pos hb, if_pos hb]
      · rw [if_neg hb, if_neg hb]
        cases ht : takeL b with
        | none => rfl
        | some p =>
          obtain ⟨l, r⟩ := p
          have := (takeL_len b l r ht).1
          simp only
          rw [ih g r (by omega) (by omega)]
/-- the lines of bytes -/
def getG (b : List UInt8) : Option (List Ln) := getF b.length b
theorem getG_nil : getG [] = some [] := rfl
theorem getG_none (b : List UInt8) (hb : b ≠ []) (h : takeL b = none) : getG b = none := by
  unfold getG
  cases hl : b.length with
  | zero => exact absurd (List.eq_nil_of_length_eq_zero hl) hb
  | succ f => unfold getF; rw [if_neg hb, h]
theorem getG_some (b : List UInt8) (l : Ln) (r : List UInt8) (h : takeL b = some (l, r)) : getG b = (getG r).map (l :: ·) := by
  unfold getG
  have hr := (takeL_len b l r h).1
  have hb : b ≠ [] := fun e => by rw [e] at h; cases h
  cases hl : b.length with
  | zero => omega
  | succ f =>
    rw [show getF (f + 1) b = if b = [] then some [] else match takeL b with
      | none => none
      | some (l, r) => (getF f r).map (l :: ·) from rfl, if_neg hb, h]
    simp only
    rw [getF_more f r.length r (by omega) (Nat.le_refl _)]
def getE (b : List UInt8) : Int := match getG b with
  | none => 4
  | some C => if RightC C = true then 0 else 3
def getC (b : List UInt8) : List Ln := match getG b with
  | none => []
  | some C => if RightC C = true then C else []
def TextPost (b : List UInt8) (e : Ending) (w' : World) : Prop := match takeS b with
  | none => e = .returned (.tuple #[.string ⟨#[]⟩, .slice none 0 0, .bool false])
  | some (s, r) => ∃ A' c', e = .returned (.tuple #[.string (S8 s), .slice A' r.length c', .bool true]) ∧ Sl w' 1 (.slice A' r.length c') (B8 r)
set_option maxRecDepth 100000 in
set_option maxHeartbeats 1600000 in
theorem text_any (b : List UInt8) (A : Option Addr) (n c : Nat) (w0 w : World) (h0 : Sl w0 1 (.slice A n c) (B8 b)) (hb0 : Below w0.heap.size w0 w) :
    Calls Tryz.prog 57 #[.slice A n c] w fun e w' => TextPost b e w0 ∧ Below w.heap.size w w' := by
  have h := h0.below hb0
  obtain ⟨hl1, hc1, hc2⟩ := h.len
  cases b with
  | nil =>
    obtain rfl : n = 0 := by simpa using hl1.symm
    have HP : Hid (TextPost [] (.returned (.tuple #[.string ⟨#[]⟩, .slice none 0 0, .bool false])) w0) := rfl
    go_enter Tryz.func57, Tryz.ntmps57
    go_wp2_with fail
    refine bodyPost_ret (v := .tuple #[.string ⟨#[]⟩, .slice none 0 0, .bool false]) (by simp [results, Tryz.results57, go_sem]) rfl ⟨HP.out, Below.refl _ _⟩
  | cons x r =>
    have hn : 0 < n := by rw [← hl1]; simp
    have hrl : r.length + 1 = n := by rw [← hl1]; simp
    obtain ⟨bb, off, rfl, hbb, hcell⟩ := h.byte hn
    have hbz : byt (x :: r) 0 = x.toNat := rfl
    rw [hbz, Nat.add_zero] at hcell
    have hx : x.toNat < 256 := x.toNat_lt
    have hTS : takeS (x :: r) = if x.toNat ≤ r.length then some (r.take x.toNat, r.drop x.toNat) else none := rfl
    by_cases hle : x.toNat ≤ r.length
    · rw [if_pos hle] at hTS
      have ht1 := sl_takeB h (1 + x.toNat) (by omega)
      have hs1 := sl_dropB ht1 1 (by omega)
      have hs2 := sl_dropB h0 (1 + x.toNat) (by omega)
      rw [show (((x :: r).take (1 + x.toNat)).drop 1) = r.take x.toNat by rw [Nat.add_comm, List.take_succ_cons]; rfl] at hs1
      rw [show (x :: r).drop (1 + x.toNat) = r.drop x.toNat by rw [Nat.add_comm]; rfl] at hs2
      have hrd : n - (1 + x.toNat) = (r.drop x.toNat).length := by rw [List.length_drop]; omega
      have HTS := hid hTS
      rw [show (1 + x.toNat - 1) = x.toNat by omega] at hs1
      have e1 : (if c = 1 then some (⟨bb, off, none⟩ : Addr) else (some (⟨bb, off, none⟩ : Addr)).map (·.add 1)) = if c = 1 then some ⟨bb, off, none⟩ else some ⟨bb, off + 1, none⟩ := by simp [addr_add]
      have e2 : (if c = 1 + x.toNat then some (⟨bb, off, none⟩ : Addr) else (some (⟨bb, off, none⟩ : Addr)).map (·.add (1 + x.toNat))) = if c = 1 + x.toNat then some ⟨bb, off, none⟩ else some ⟨bb, off + (1 + x.toNat), none⟩ := by simp [addr_add]
      rw [e1] at hs1
      rw [e2] at hs2
      have HS1 := hid hs1
      have HS2 := hid hs2
      clear e1 e2 hs1
      have HRD := hid hrd
      have hmn : x.toNat < n := by omega
      have hmn2 : ¬ (n : Int) ≤ (x.toNat : Int) := by omega
      have te : ((n : Int) == 0) = false := by rw [beq_eq_false_iff_ne]; omega
      clear hTS hs2 ht1 hrl hbz hl1 hrd h0
      generalize x.toNat = m at *
      have hw1 : IntKind.i64.wrap (1 + (m : Int)) = 1 + (m : Int) := by rw [IntKind.wrap_i64]; omega
      have hca : 1 + m ≤ c := by omega
      have hcn : 1 + m ≤ n := by omega
      have hz0 : (0 : Int) ≤ 1 + (m : Int) := by omega
      have htn : (1 + (m : Int)).toNat = 1 + m := by omega
      have h1c : 1 ≤ c := by omega
      have hz1 : (1 : Int) ≤ 1 + (m : Int) := by omega
      have hza : 1 + (m : Int) ≤ (c : Int) := by omega
      have hzn : 1 + (m : Int) ≤ (n : Int) := by omega
      go_enter Tryz.func57, Tryz.ntmps57
      go_upto_region 4 with fail
      refine wp_region_loud (fun _ => False) [(3, plainL [] (.string (S8 (r.take m))))] (fun _ => Fact.none) (by kernel_rfl) (by kernel_rfl) (.cons (plainL_ok _ _) .nil) good_nothing sat_none (WX.out ?_)
      repeat (first | (refine wx_quietU (by rfl) (by rfl) (by rfl) (fun K hK => ?_); go_big_quiet_op; refine hK _ ?_; clear hK K) | (refine wx_quietG (by rfl) (by rfl) (by rfl) (by rfl) (by rfl) (fun K hK => ?_); go_big_quiet_op; refine hK _ ?_; clear hK K) | (refine wx_skipG (by rfl) (by rfl) (by rfl) (fun K hK => ?_); go_simp; refine hK _ ?_; clear hK K) | (refine wx_skipN (by rfl) (by rfl) (by rfl) (fun K hK => ?_); go_simp; refine hK _ ?_; clear hK K))
      refine wx_loudU (us := []) (by rfl) (by rfl) (fun S wS hC hS hU => ?_) (fun v hv K hK => ?_)
      · have st := str_of (P := Tryz.prog) (HS1.out.below hC.below) 38 9 5 Tryz.underlying38 Tryz.underlying5 Tryz.underlying9
        exact runs_value (by go_simp <;> rfl) ⟨rfl, Kept.refl _ _, trivial⟩
      obtain rfl := hv; (go_simp; refine hK _ ?_; clear hK K)
      repeat (first | (refine wx_quietU (by rfl) (by rfl) (by rfl) (fun K hK => ?_); go_big_quiet_op; refine hK _ ?_; clear hK K) | (refine wx_quietG (by rfl) (by rfl) (by rfl) (by rfl) (by rfl) (fun K hK => ?_); go_big_quiet_op; refine hK _ ?_; clear hK K) | (refine wx_skipG (by rfl) (by rfl) (by rfl) (fun K hK => ?_); go_simp; refine hK _ ?_; clear hK K) | (refine wx_skipN (by rfl) (by rfl) (by rfl) (fun K hK => ?_); go_simp; refine hK _ ?_; clear hK K))
      refine wx_nil fun w3 hsat => ?_
      have hb3 := sat_below hsat
      have HPO : Hid (TextPost (x :: r) (.returned (.tuple #[.string (S8 (r.take m)), .slice (if c = 1 + m then some ⟨bb, off, none⟩ else some ⟨bb, off + (1 + m), none⟩) (n - (1 + m)) (c - (1 + m)), .bool true])) w0) := by
        show TextPost _ _ _
        unfold TextPost
        rw [HTS.out]
        have hs3 := HS2.out
        rw [HRD.out] at hs3 ⊢
        exact ⟨_, _, rfl, hs3⟩
      clear hsat HTS HS1 HS2 HRD hcell
      generalize (if c = 1 + m then some (⟨bb, off, none⟩ : Addr) else some ⟨bb, off + (1 + m), none⟩) = P2 at *
      generalize (if c = 1 then some (⟨bb, off, none⟩ : Addr) else some ⟨bb, off + 1, none⟩) = P1 at *
      go_wp2_with fail
      refine bodyPost_ret (v := .tuple #[.string (S8 (r.take m)), .slice P2 (n - (1 + m)) (c - (1 + m)), .bool true]) (by simp [results, Tryz.results57, go_sem]) rfl ⟨HPO.out, hb3⟩
    · rw [if_neg hle] at hTS
      have HP : Hid (TextPost (x :: r) (.returned (.tuple #[.string ⟨#[]⟩, .slice none 0 0, .bool false])) w0) := by
        show TextPost _ _ _
        unfold TextPost
        rw [hTS]
      have hmn2 : (n : Int) ≤ (x.toNat : Int) := by omega
      have hmn3 : n ≤ x.toNat := by omega
      have te : ((n : Int) == 0) = false := by rw [beq_eq_false_iff_ne]; omega
      clear hTS hrl hbz hl1 hle
      generalize x.toNat = m at *
      go_enter Tryz.func57, Tryz.ntmps57
      go_wp2_with fail
      refine bodyPost_ret (v := .tuple #[.string ⟨#[]⟩, .slice none 0 0, .bool false]) (by simp [results, Tryz.results57, go_sem]) rfl ⟨HP.out, Below.refl _ _⟩
end CF
end Go.Proofs.YtecfkhgocjbocaaGreatDoor
namespace Go.Proofs.YtecfkhgocjbocaaGreatDoor
set_option linter.unusedVariables false
set_option linter.unusedSimpArgs false
open Go Go.RowKit

namespace CF
theorem ln_built1 (h : Int) : (Tryz.prog).built 29 [(0, .int .i64 h)] = some (lnV ⟨h, [], [], []⟩) := by kernel_rfl
/-- how far a line has been read -/
def Lat (h : Int) (r0 : List UInt8) (j : Int) (l : Ln) (rest : List UInt8) : Prop :=
  (j = 0 ∧ l = ⟨h, [], [], []⟩ ∧ rest = r0) ∨ (j = 1 ∧ ∃ nm, takeS r0 = some (nm, rest) ∧ l = ⟨h, nm, [], []⟩) ∨
  (j = 2 ∧ ∃ nm lf r1, takeS r0 = some (nm, r1) ∧ takeS r1 = some (lf, rest) ∧ l = ⟨h, nm, lf, []⟩) ∨
  (j = 3 ∧ ∃ nm lf vl r1 r2, takeS r0 = some (nm, r1) ∧ takeS r1 = some (lf, r2) ∧ takeS r2 = some (vl, rest) ∧ l = ⟨h, nm, lf, vl⟩)
theorem takeL_cons (x : UInt8) (t : List UInt8) : takeL (x :: t) = (match takeS t with
      | none => none
      | some (nm, r1) => match takeS r1 with
        | none => none
        | some (lf, r2) => match takeS r2 with
          | none => none
          | some (vl, r3) => some (⟨x.toNat, nm, lf, vl⟩, r3)) := rfl
theorem Lat.done {x : UInt8} {t : List UInt8} {l : Ln} {rest : List UInt8} (h : Lat (x.toNat : Nat) t 3 l rest) : takeL (x :: t) = some (l, rest) := by
  rcases h with ⟨h, _⟩ | ⟨h, _⟩ | ⟨h, _⟩ | ⟨_, nm, lf, vl, r1, r2, h1, h2, h3, rfl⟩
  · cases h
  · cases h
  · cases h
  · rw [takeL_cons, h1]
    simp only
    rw [h2]
    simp only
    rw [h3]
theorem Lat.fail {x : UInt8} {t : List UInt8} {j : Int} {l : Ln} {rest : List UInt8} (h : Lat (x.toNat : Nat) t j l rest) (hj : j ≠ 3) (hn : takeS rest = none) : takeL (x :: t) = none := by
  rcases h with ⟨_, _, rfl⟩ | ⟨_, nm, h1, _⟩ | ⟨_, nm, lf, r1, h1, h2, _⟩ | ⟨h, _⟩
  · rw [takeL_cons, hn]
  · rw [takeL_cons, h1]
    simp only
    rw [hn]
  · rw [takeL_cons, h1]
    simp only
    rw [h2]
    simp only
    rw [hn]
  · exact absurd h hj
theorem Lat.len {h : Int} {r0 : List UInt8} {j : Int} {l : Ln} {rest : List UInt8} (k : Lat h r0 j l rest) : rest.length ≤ r0.length := by
  rcases k with ⟨_, _, rfl⟩ | ⟨_, nm, h1, _⟩ | ⟨_, nm, lf, r1, h1, h2, _⟩ | ⟨_, nm, lf, vl, r1, r2, h1, h2, h3, _⟩
  · exact Nat.le_refl _
  · have := (takeS_len _ _ _ h1).2.1; omega
  · have := (takeS_len _ _ _ h1).2.1; have := (takeS_len _ _ _ h2).2.1; omega
  · have := (takeS_len _ _ _ h1).2.1; have := (takeS_len _ _ _ h2).2.1; have := (takeS_len _ _ _ h3).2.1; omega
theorem Lat.step {h : Int} {r0 : List UInt8} {j : Int} {l : Ln} {r s r' : List UInt8} (k : Lat h r0 j l r) (hj : j < 3) (hs : takeS r = some (s, r')) :
    ∃ l', Lat h r0 (j + 1) l' r' ∧ (lnV l).setIfInBounds (j.toNat + 1) (.string (S8 s)) = lnV l' := by
  rcases k with ⟨rfl, rfl, rfl⟩ | ⟨rfl, nm, h1, rfl⟩ | ⟨rfl, nm, lf, r1, h1, h2, rfl⟩ | ⟨rfl, _⟩
  · exact ⟨⟨h, s, [], []⟩, .inr (.inl ⟨rfl, s, hs, rfl⟩), rfl⟩
  · exact ⟨⟨h, nm, s, []⟩, .inr (.inr (.inl ⟨rfl, nm, s, r, h1, hs, rfl⟩)), rfl⟩
  · exact ⟨⟨h, nm, lf, s⟩, .inr (.inr (.inr ⟨rfl, nm, lf, s, r1, r, h1, h2, hs, rfl⟩)), rfl⟩
  · omega
def sliceN : Value → Nat
  | .slice _ n _ => n
  | _ => 0
theorem getE_none (b : List UInt8) (h : getG b = none) : getE b = 4 ∧ getC b = [] := by unfold getE getC; rw [h]; exact ⟨rfl, rfl⟩
theorem getE_some (b : List UInt8) (C : List Ln) (h : getG b = some C) : (RightC C = true → getE b = 0 ∧ getC b = C) ∧ (RightC C = false → getE b = 3 ∧ getC b = []) := by
  unfold getE getC
  rw [h]
  refine ⟨fun k => ?_, fun k => ?_⟩
  · simp only [k, if_true, and_self]
  · simp only [k, Bool.false_eq_true, if_false, and_self]
theorem conf_nil (w : World) (er : Int) : ConfPost [] er (.returned (.tuple #[.slice none 0 0, .int .i64 er])) w := ⟨none, 0, rfl, CF.sl_nil _ _ _ (by omega)⟩
set_option maxRecDepth 100000 in
set_option maxHeartbeats 6400000 in
theorem Get_any (b : List UInt8) (A : Option Addr) (n c : Nat) (w : World) (h : Sl w 1 (.slice A n c) (B8 b)) (hn : n ≤ 1000000) (hen : Env w) :
    Calls Tryz.prog 20 #[.slice A n c] w fun e w' => ConfPost (getC b) (getE b) e w' ∧ Below w.heap.size w w' := by
  have hl0 := h.len.1
  have HEN := hid hen
  clear hen
  go_enter Tryz.func20, Tryz.ntmps20
  go_wp2_with fail
  go_loopw [0, 4] (fun v u wr => ∃ (C : List Ln) (r : List UInt8) (A1 A2 : Option Addr) (c1 c2 : Nat), v = .slice A1 r.length c1 ∧ u = .slice A2 C.length c2 ∧ Hid (Sl w 1 (.slice A1 r.length c1) (B8 r)) ∧ wr.ownsRow w.heap.size 29 4 (.slice A2 C.length c2) C.length (LNS C) ∧
    C.length + r.length ≤ b.length ∧ Hid (getG b = (getG r).map (C ++ ·)) ∧ Hid (∀ l ∈ C, LnB l) ∧ Below w.heap.size w wr) (fun v _ _ => sliceN v)
  case atStart => exact ⟨[], b, A, none, c, 0, by rw [hl0], rfl, by rw [hl0]; exact h, own_nilE _ _ _ _, by simp, by show _ = _; cases getG b <;> rfl, (fun l hl => by cases hl), Below.refl _ _⟩
  case round =>
    clear h
    obtain ⟨C, r, A1, A2, c1, c2, rfl, rfl, HS, ho, hlen, HG, HLB, hbr⟩ := hrel
    cases r with
    | nil =>
      have hgg : getG b = some C := by rw [HG.out, getG_nil]; simp
      obtain ⟨h1, h2⟩ := getE_some b C hgg
      have H1 := hid h1
      have H2 := hid h2
      have HOKL : ∀ l ∈ C, LnOk l := fun l hl => by obtain ⟨_, _, k1, k2, k3⟩ := HLB.out l hl; exact ⟨by omega, by omega, by omega⟩
      have HRC := hid (Right_any C A2 C.length c2 wr (own_sl ho) HOKL (HEN.out.below hbr))
      have HO := hid (own_sl ho)
      rw [List.length_nil]
      clear hgg h1 h2 ho HG HLB HS HOKL
      go_wp2_with fail
      refine HRC.out.mono ?_
      rintro e w1 ⟨rfl, hb1⟩
      have hbz := hbr.trans (hb1.mono hbr.size)
      cases hrc : RightC C with
      | false =>
        have HP : Hid (ConfPost (getC b) (getE b) (.returned (.tuple #[.slice none 0 0, .int .i64 3])) w1) := by
          obtain ⟨e1, e2⟩ := H2.out hrc
          show ConfPost _ _ _ _
          rw [e1, e2]
          exact conf_nil w1 3
        clear H1 H2 HRC HO hrc
        go_wp2_with fail
        go_ret2
        exact ⟨HP.out, hbz⟩
      | true =>
        have HP : Hid (ConfPost (getC b) (getE b) (.returned (.tuple #[.slice A2 C.length c2, .int .i64 0])) w1) := by
          obtain ⟨e1, e2⟩ := H1.out hrc
          show ConfPost _ _ _ _
          rw [e1, e2]
          exact ⟨A2, c2, rfl, HO.out.below hb1⟩
        clear H1 H2 HRC HO hrc
        go_wp2_with fail
        go_ret2
        exact ⟨HP.out, hbz⟩
    | cons x t =>
      have hs := HS.out
      obtain ⟨-, hc1, hc2⟩ := hs.len
      have hlt : (x :: t).length = t.length + 1 := rfl
      obtain ⟨bb, off, rfl, hbb, hcell⟩ := hs.byte (k := 0) (by omega)
      have hbz : byt (x :: t) 0 = x.toNat := rfl
      rw [hbz, Nat.add_zero] at hcell
      have hcr := (hbr.cell (p := ⟨bb, off, none⟩) hbb).trans hcell
      have hs1 := sl_dropB hs 1 (by omega)
      rw [show (x :: t).drop 1 = t from rfl] at hs1
      rw [hlt] at hs1 hc1 hlen ⊢
      rw [show t.length + 1 - 1 = t.length by omega] at hs1
      have e1 : (if c1 = 1 then some (⟨bb, off, none⟩ : Addr) else (some (⟨bb, off, none⟩ : Addr)).map (·.add 1)) = if c1 = 1 then some ⟨bb, off, none⟩ else some ⟨bb, off + 1, none⟩ := by simp [addr_add]
      rw [e1] at hs1
      have HS1 := hid hs1
      have HL3 : Hid (∀ l r', Lat (x.toNat : Nat) t 3 l r' → getG (x :: t) = (getG r').map (l :: ·) ∧ LnB l) := fun l r' hl => ⟨getG_some _ _ _ hl.done, (takeL_len _ _ _ hl.done).2⟩
      have HLF : Hid (∀ j l r', Lat (x.toNat : Nat) t j l r' → j ≠ 3 → takeS r' = none → getG b = none) := fun j l r' hl hj hn => by rw [HG.out, getG_none (x :: t) (by simp) (hl.fail hj hn)]; rfl
      have HBL := hid (ln_built1 (x.toNat : Nat))
      have hx : x.toNat < 256 := x.toNat_lt
      clear hcell hbz hs1 e1 hs hlt HS
      obtain ⟨h, hh⟩ : ∃ h, h = x.toNat := ⟨_, rfl⟩
      rw [← hh] at HL3 HLF HBL hcr hx
      clear hh
      obtain ⟨hb2, hg2, hl2⟩ := box1 wr (.cells (lnV ⟨(h : Int), [], [], []⟩) 29)
      go_upto_region 5 with (first | refine wpList_buildV rfl 29 [(0, .tmp 17)] rfl (some 18) rfl [(0, .int .i64 (h : Int))] rfl _ HBL.out ?_ | refine wpList_store_last rfl 29 (.tmp 5) (.tmp 18) rfl (lnV ⟨(h : Int), [], [], []⟩) rfl rfl i4 rfl (lnV_one _) ?_)
      generalize (if c1 = 1 then some (⟨bb, off, none⟩ : Addr) else some ⟨bb, off + 1, none⟩) = P1 at *
      obtain ⟨gL, hgL⟩ : ∃ g, g = wr.heap.size := ⟨_, rfl⟩
      rw [← hgL] at hg2 hl2 hb2 ⊢
      have hga : gL ≤ wr.heap.size := by omega
      have hgb : wr.heap.size ≤ gL := by omega
      have HGL := hid hgL
      clear hgL
      generalize hw2 : wr.alloc (.cells (lnV ⟨(h : Int), [], [], []⟩) 29) = w2 at *
      clear hw2
      obtain ⟨hb3, hg3, hl3⟩ := box1 w2 (.cells #[.pointer (some ⟨gL, 1, none⟩), .pointer (some ⟨gL, 2, none⟩), .pointer (some ⟨gL, 3, none⟩)] 97)
      have hgl3 := blk_below hg2 hb3 hl2
      have hbl3 := hb2.trans (hb3.mono (show gL ≤ w2.heap.size by omega))
      have HW3 := hid (And.intro hgl3 (And.intro hbl3 (And.intro hg3 hl3)))
      have ho2 := hid ho
      clear hgl3 hbl3 hg3 hl3 hb3 hg2 hb2 ho hcr
      go_wp2_with fail
      obtain ⟨gP, hgP⟩ : ∃ g, g = w2.heap.size := ⟨_, rfl⟩
      rw [← hgP] at HW3 ⊢
      have hpa : w2.heap.size ≤ gP := by omega
      clear hgP
      generalize w2.alloc (.cells #[.pointer (some ⟨gL, 1, none⟩), .pointer (some ⟨gL, 2, none⟩), .pointer (some ⟨gL, 3, none⟩)] 97) = w3 at *
      obtain ⟨hgl3, hbl3, hg3, hl3⟩ := HW3.out
      have hne : gL ≠ gP := by omega
      clear HW3
      obtain ⟨wq, hwq⟩ : ∃ wq : World, wq = wr := ⟨_, rfl⟩
      rw [← hwq] at ho2 hbr hga hgb hbl3 HGL
      clear hwq
      go_loopw [0, 26] (fun v i ws => ∃ (l : Ln) (r : List UInt8) (A3 : Option Addr) (c3 : Nat) (j : Int), v = .slice A3 r.length c3 ∧ i = .int .i64 j ∧ 0 ≤ j ∧ j ≤ 3 ∧ Hid (Lat (h : Int) t j l r) ∧ Hid (Sl w 1 (.slice A3 r.length c3) (B8 r)) ∧ ws.heap[gL]? = some (.cells (lnV l) 29 (0, 0)) ∧ ws.heap[gP]? = some (.cells #[.pointer (some ⟨gL, 1, none⟩), .pointer (some ⟨gL, 2, none⟩), .pointer (some ⟨gL, 3, none⟩)] 97 (0, 0)) ∧ Below gL wq ws) (fun _ i _ => 3 - (intOf i).toNat)
      case atStart => exact ⟨⟨h, [], [], []⟩, t, P1, c1 - 1, 0, rfl, rfl, by omega, by omega, .inl ⟨rfl, rfl, rfl⟩, HS1, hgl3, hg3, hbl3⟩
      case round =>
        obtain ⟨l, r, A3, c3, j, rfl, rfl, hj0, hj3, HL, HS3, hgl, hgp, hbl⟩ := hrel
        have hjc : j = 0 ∨ j = 1 ∨ j = 2 ∨ j = 3 := by omega
        rcases hjc with rfl | rfl | rfl | rfl
        ·
          have qp : wr.cell? ⟨gP, 0, none⟩ = some (.pointer (some ⟨gL, 1, none⟩)) := by rw [blkCell hgp 0]; rfl
          have HTX := hid (text_any r A3 r.length c3 w wr HS3.out (hbr.trans (hbl.mono (show w.heap.size ≤ gL by have := hbr.size; omega))))
          have hrl := HL.out.len
          go_wp2_with fail
          refine HTX.out.mono ?_
          rintro e w5 ⟨htp, hb5⟩
          have hgl5 := blk_below hgl hb5 (blk_lt hgl)
          have hgp5 := blk_below hgp hb5 (blk_lt hgp)
          have hbl5 := hbl.trans (hb5.mono (show gL ≤ wr.heap.size by have := blk_lt hgl; omega))
          clear HTX qp hgl hgp hbl hb5
          unfold TextPost at htp
          cases hts : takeS r with
          | none =>
            rw [hts] at htp
            subst htp
            have HG0 := hid (HLF.out _ _ _ HL.out (by omega) hts)
            have HPO : Hid (ConfPost (getC b) (getE b) (.returned (.tuple #[.slice none 0 0, .int .i64 4])) w5) := by
              obtain ⟨e1, e2⟩ := getE_none b HG0.out
              show ConfPost _ _ _ _
              rw [e1, e2]
              exact conf_nil w5 4
            have hbz : Below w.heap.size w w5 := hbr.trans (hbl5.mono (show w.heap.size ≤ gL by have := hbr.size; omega))
            clear hts HG0 hgl5 hgp5 hbl5 HLF
            go_wp2_with fail
            go_ret2
            exact ⟨HPO.out, hbz⟩
          | some p =>
            obtain ⟨s, r2⟩ := p
            rw [hts] at htp
            obtain ⟨A5, c5, rfl, hs5⟩ := htp
            obtain ⟨l2, hl2, hset⟩ := HL.out.step (by omega) hts
            have hset2 : (lnV l).setIfInBounds 1 (.string (S8 s)) = lnV l2 := hset
            have HL2 := hid hl2
            have HS5 := hid hs5
            have qs : w5.cell? ⟨gL, 1, none⟩ = some ((fun l => Value.string (S8 l.name)) l) := by rw [blkCell hgl5 1]; rfl
            have qf : w5.frozen? ⟨gL, 1, none⟩ = false := frozen_of_row w5 _ _ _ _ hgl5
            have hgl6 := blk_set hgl5 1 (.string (S8 s))
            rw [hset2] at hgl6
            have hgp6 := (Below.heap_setCell w5 ⟨gL, 1, none⟩ (.string (S8 s)) gP (fun e => hne e.symm)).trans hgp5
            have hbl6 := hbl5.setCell (p := ⟨gL, 1, none⟩) (Nat.le_refl _) (.string (S8 s))
            clear hts hset hset2 hgl5 hgp5 hbl5 HS3 HL hs5 hl2
            go_wp2_with fail
            go_light
            exact ⟨⟨l2, r2, A5, c5, _, rfl, rfl, by omega, by omega, HL2, HS5, hgl6, hgp6, hbl6⟩, by simp [intOf]⟩
        ·
          have qp : wr.cell? ⟨gP, 1, none⟩ = some (.pointer (some ⟨gL, 2, none⟩)) := by rw [blkCell hgp 1]; rfl
          have HTX := hid (text_any r A3 r.length c3 w wr HS3.out (hbr.trans (hbl.mono (show w.heap.size ≤ gL by have := hbr.size; omega))))
          have hrl := HL.out.len
          go_wp2_with fail
          refine HTX.out.mono ?_
          rintro e w5 ⟨htp, hb5⟩
          have hgl5 := blk_below hgl hb5 (blk_lt hgl)
          have hgp5 := blk_below hgp hb5 (blk_lt hgp)
          have hbl5 := hbl.trans (hb5.mono (show gL ≤ wr.heap.size by have := blk_lt hgl; omega))
          clear HTX qp hgl hgp hbl hb5
          unfold TextPost at htp
          cases hts : takeS r with
          | none =>
            rw [hts] at htp
            subst htp
            have HG0 := hid (HLF.out _ _ _ HL.out (by omega) hts)
            have HPO : Hid (ConfPost (getC b) (getE b) (.returned (.tuple #[.slice none 0 0, .int .i64 4])) w5) := by
              obtain ⟨e1, e2⟩ := getE_none b HG0.out
              show ConfPost _ _ _ _
              rw [e1, e2]
              exact conf_nil w5 4
            have hbz : Below w.heap.size w w5 := hbr.trans (hbl5.mono (show w.heap.size ≤ gL by have := hbr.size; omega))
            clear hts HG0 hgl5 hgp5 hbl5 HLF
            go_wp2_with fail
            go_ret2
            exact ⟨HPO.out, hbz⟩
          | some p =>
            obtain ⟨s, r2⟩ := p
            rw [hts] at htp
            obtain ⟨A5, c5, rfl, hs5⟩ := htp
            obtain ⟨l2, hl2, hset⟩ := HL.out.step (by omega) hts
            have hset2 : (lnV l).setIfInBounds 2 (.string (S8 s)) = lnV l2 := hset
            have HL2 := hid hl2
            have HS5 := hid hs5
            have qs : w5.cell? ⟨gL, 2, none⟩ = some ((fun l => Value.string (S8 l.leaf)) l) := by rw [blkCell hgl5 2]; rfl
            have qf : w5.frozen? ⟨gL, 2, none⟩ = false := frozen_of_row w5 _ _ _ _ hgl5
            have hgl6 := blk_set hgl5 2 (.string (S8 s))
            rw [hset2] at hgl6
            have hgp6 := (Below.heap_setCell w5 ⟨gL, 2, none⟩ (.string (S8 s)) gP (fun e => hne e.symm)).trans hgp5
            have hbl6 := hbl5.setCell (p := ⟨gL, 2, none⟩) (Nat.le_refl _) (.string (S8 s))
            clear hts hset hset2 hgl5 hgp5 hbl5 HS3 HL hs5 hl2
            go_wp2_with fail
            go_light
            exact ⟨⟨l2, r2, A5, c5, _, rfl, rfl, by omega, by omega, HL2, HS5, hgl6, hgp6, hbl6⟩, by simp [intOf]⟩
        ·
          have qp : wr.cell? ⟨gP, 2, none⟩ = some (.pointer (some ⟨gL, 3, none⟩)) := by rw [blkCell hgp 2]; rfl
          have HTX := hid (text_any r A3 r.length c3 w wr HS3.out (hbr.trans (hbl.mono (show w.heap.size ≤ gL by have := hbr.size; omega))))
          have hrl := HL.out.len
          go_wp2_with fail
          refine HTX.out.mono ?_
          rintro e w5 ⟨htp, hb5⟩
          have hgl5 := blk_below hgl hb5 (blk_lt hgl)
          have hgp5 := blk_below hgp hb5 (blk_lt hgp)
          have hbl5 := hbl.trans (hb5.mono (show gL ≤ wr.heap.size by have := blk_lt hgl; omega))
          clear HTX qp hgl hgp hbl hb5
          unfold TextPost at htp
          cases hts : takeS r with
          | none =>
            rw [hts] at htp
            subst htp
            have HG0 := hid (HLF.out _ _ _ HL.out (by omega) hts)
            have HPO : Hid (ConfPost (getC b) (getE b) (.returned (.tuple #[.slice none 0 0, .int .i64 4])) w5) := by
              obtain ⟨e1, e2⟩ := getE_none b HG0.out
              show ConfPost _ _ _ _
              rw [e1, e2]
              exact conf_nil w5 4
            have hbz : Below w.heap.size w w5 := hbr.trans (hbl5.mono (show w.heap.size ≤ gL by have := hbr.size; omega))
            clear hts HG0 hgl5 hgp5 hbl5 HLF
            go_wp2_with fail
            go_ret2
            exact ⟨HPO.out, hbz⟩
          | some p =>
            obtain ⟨s, r2⟩ := p
            rw [hts] at htp
            obtain ⟨A5, c5, rfl, hs5⟩ := htp
            obtain ⟨l2, hl2, hset⟩ := HL.out.step (by omega) hts
            have hset2 : (lnV l).setIfInBounds 3 (.string (S8 s)) = lnV l2 := hset
            have HL2 := hid hl2
            have HS5 := hid hs5
            have qs : w5.cell? ⟨gL, 3, none⟩ = some ((fun l => Value.string (S8 l.value)) l) := by rw [blkCell hgl5 3]; rfl
            have qf : w5.frozen? ⟨gL, 3, none⟩ = false := frozen_of_row w5 _ _ _ _ hgl5
            have hgl6 := blk_set hgl5 3 (.string (S8 s))
            rw [hset2] at hgl6
            have hgp6 := (Below.heap_setCell w5 ⟨gL, 3, none⟩ (.string (S8 s)) gP (fun e => hne e.symm)).trans hgp5
            have hbl6 := hbl5.setCell (p := ⟨gL, 3, none⟩) (Nat.le_refl _) (.string (S8 s))
            clear hts hset hset2 hgl5 hgp5 hbl5 HS3 HL hs5 hl2
            go_wp2_with fail
            go_light
            exact ⟨⟨l2, r2, A5, c5, _, rfl, rfl, by omega, by omega, HL2, HS5, hgl6, hgp6, hbl6⟩, by simp [intOf]⟩
        · have hrl := HL.out.len
          obtain ⟨hg1, hlb⟩ := HL3.out l r HL.out
          have HG1 : Hid (getG b = (getG r).map ((C ++ [l]) ++ ·)) := by
            show _ = _
            rw [HG.out, hg1, Option.map_map]
            congr 1
            funext z
            simp
          have HLB1 : Hid (∀ y ∈ C ++ [l], LnB y) := fun y hy => by
            rcases List.mem_append.1 hy with hy | hy
            · exact HLB.out y hy
            · rw [List.mem_singleton.1 hy]; exact hlb
          have hbq : Below wq.heap.size wq wr := by rw [← HGL.out]; exact hbl
          have hbw := hbr.trans (hbl.mono (show w.heap.size ≤ gL by have := hbr.size; omega))
          have ho4 := own_below ho2.out hbq
          have hba := (Below.refl wr.heap.size wr).alloc (Nat.le_refl _) (.cells (lnV l) 29)
          have hsa := sl_blkT (heap_alloc_new wr (.cells (lnV l) 29))
          have hoa := own_below ho4 hba
          have hbb2 := hbw.trans (hba.mono hbw.size)
          clear hbq ho4 hba hg1 hlb HL3 HLF HL hgp hbl HG HLB
          go_wp2_with (first | refine wpList_load_row rfl 29 (.tmp 5) rfl gL rfl 29 (lnV l) (0, 0) _ hgl Tryz.underlying29 rfl i4 ?_ | refine wpList_build1 rfl st_lns (.tmp 44) rfl (lnV l) rfl rfl (by omega) (by omega) ?_ | (at_builtin; refine wpList_app rfl (.tmp 43) (.tmp 45) st_lns rfl w.heap.size rfl hoa rfl hsa (LNS_one _) (by simp [maxLen]; omega) (by omega) hbb2.size ?_))
          intro A9 c9 w9 ho9 hg9 _
          have hb9 := hbb2.trans ((grown_below hoa hg9 hbb2.size).mono (Nat.le_refl _))
          rw [← LNS_append] at ho9
          have HCL : Hid (C.length + 1 = (C ++ [l]).length) := by show _ = _; simp
          rw [HCL.out] at ho9
          have HO9 := hid ho9
          clear hsa hoa hbb2 hg9 ho9 hgl
          go_wp2_with fail
          go_light
          exact ⟨⟨C ++ [l], r, A3, A9, c3, c9, rfl, by rw [← HCL.out], HS3, HO9.out, by rw [← HCL.out]; omega, HG1, HLB1, hb9⟩, by show r.length < t.length + 1; omega⟩
end CF
end Go.Proofs.YtecfkhgocjbocaaGreatDoor
namespace Go.Proofs.YtecfkhgocjbocaaGreatDoor
set_option linter.unusedVariables false
set_option linter.unusedSimpArgs false
open Go Go.RowKit

namespace CF
theorem rln_built1 (h : Int) : (Tryz.prog).built 48 [(0, .int .i64 h)] = some (lnV ⟨h, [], [], []⟩) := by kernel_rfl
set_option maxRecDepth 100000 in
set_option maxHeartbeats 6400000 in
theorem refGet_any (b : List UInt8) (A : Option Addr) (n c : Nat) (w : World) (h : Sl w 1 (.slice A n c) (B8 b)) (hn : n ≤ 1000000) (hen : Env w) :
    Calls Tryz.prog 21 #[.slice A n c] w fun e w' => ConfPost (getC b) (getE b) e w' ∧ Below w.heap.size w w' := by
  have hl0 := h.len.1
  have HEN := hid hen
  clear hen
  go_enter Tryz.func21, Tryz.ntmps21
  go_wp2_with fail
  go_loopw [0, 4] (fun v u wr => ∃ (C : List Ln) (r : List UInt8) (A1 A2 : Option Addr) (c1 c2 : Nat), v = .slice A1 r.length c1 ∧ u = .slice A2 C.length c2 ∧ Hid (Sl w 1 (.slice A1 r.length c1) (B8 r)) ∧ wr.ownsRow w.heap.size 48 4 (.slice A2 C.length c2) C.length (LNS C) ∧
    C.length + r.length ≤ b.length ∧ Hid (getG b = (getG r).map (C ++ ·)) ∧ Hid (∀ l ∈ C, LnB l) ∧ Below w.heap.size w wr) (fun v _ _ => sliceN v)
  case atStart => exact ⟨[], b, A, none, c, 0, by rw [hl0], rfl, by rw [hl0]; exact h, own_nilE _ _ _ _, by simp, by show _ = _; cases getG b <;> rfl, (fun l hl => by cases hl), Below.refl _ _⟩
  case round =>
    clear h
    obtain ⟨C, r, A1, A2, c1, c2, rfl, rfl, HS, ho, hlen, HG, HLB, hbr⟩ := hrel
    cases r with
    | nil =>
      have hgg : getG b = some C := by rw [HG.out, getG_nil]; simp
      obtain ⟨h1, h2⟩ := getE_some b C hgg
      have H1 := hid h1
      have H2 := hid h2
      have HOKL : ∀ l ∈ C, LnOk l := fun l hl => by obtain ⟨_, _, k1, k2, k3⟩ := HLB.out l hl; exact ⟨by omega, by omega, by omega⟩
      have HRC := hid (refRight_all C A2 C.length c2 wr (own_sl ho) HOKL (HEN.out.below hbr))
      have HO := hid (own_sl ho)
      rw [List.length_nil]
      clear hgg h1 h2 ho HG HLB HS HOKL
      go_wp2_with fail
      refine HRC.out.mono ?_
      rintro e w1 ⟨rfl, hb1⟩
      have hbz := hbr.trans (hb1.mono hbr.size)
      cases hrc : RightC C with
      | false =>
        have HP : Hid (ConfPost (getC b) (getE b) (.returned (.tuple #[.slice none 0 0, .int .i64 3])) w1) := by
          obtain ⟨e1, e2⟩ := H2.out hrc
          show ConfPost _ _ _ _
          rw [e1, e2]
          exact conf_nil w1 3
        clear H1 H2 HRC HO hrc
        go_wp2_with fail
        go_ret2
        exact ⟨HP.out, hbz⟩
      | true =>
        have HP : Hid (ConfPost (getC b) (getE b) (.returned (.tuple #[.slice A2 C.length c2, .int .i64 0])) w1) := by
          obtain ⟨e1, e2⟩ := H1.out hrc
          show ConfPost _ _ _ _
          rw [e1, e2]
          exact ⟨A2, c2, rfl, HO.out.below hb1⟩
        clear H1 H2 HRC HO hrc
        go_wp2_with fail
        go_ret2
        exact ⟨HP.out, hbz⟩
    | cons x t =>
      have hs := HS.out
      obtain ⟨-, hc1, hc2⟩ := hs.len
      have hlt : (x :: t).length = t.length + 1 := rfl
      obtain ⟨bb, off, rfl, hbb, hcell⟩ := hs.byte (k := 0) (by omega)
      have hbz : byt (x :: t) 0 = x.toNat := rfl
      rw [hbz, Nat.add_zero] at hcell
      have hcr := (hbr.cell (p := ⟨bb, off, none⟩) hbb).trans hcell
      have hs1 := sl_dropB hs 1 (by omega)
      rw [show (x :: t).drop 1 = t from rfl] at hs1
      rw [hlt] at hs1 hc1 hlen ⊢
      rw [show t.length + 1 - 1 = t.length by omega] at hs1
      have e1 : (if c1 = 1 then some (⟨bb, off, none⟩ : Addr) else (some (⟨bb, off, none⟩ : Addr)).map (·.add 1)) = if c1 = 1 then some ⟨bb, off, none⟩ else some ⟨bb, off + 1, none⟩ := by simp [addr_add]
      rw [e1] at hs1
      have HS1 := hid hs1
      have HL3 : Hid (∀ l r', Lat (x.toNat : Nat) t 3 l r' → getG (x :: t) = (getG r').map (l :: ·) ∧ LnB l) := fun l r' hl => ⟨getG_some _ _ _ hl.done, (takeL_len _ _ _ hl.done).2⟩
      have HLF : Hid (∀ j l r', Lat (x.toNat : Nat) t j l r' → j ≠ 3 → takeS r' = none → getG b = none) := fun j l r' hl hj hn => by rw [HG.out, getG_none (x :: t) (by simp) (hl.fail hj hn)]; rfl
      have HBL := hid (rln_built1 (x.toNat : Nat))
      have hx : x.toNat < 256 := x.toNat_lt
      clear hcell hbz hs1 e1 hs hlt HS
      obtain ⟨h, hh⟩ : ∃ h, h = x.toNat := ⟨_, rfl⟩
      rw [← hh] at HL3 HLF HBL hcr hx
      clear hh
      obtain ⟨hb2, hg2, hl2⟩ := box1 wr (.cells (lnV ⟨(h : Int), [], [], []⟩) 48)
      go_upto_region 5 with (first | refine wpList_buildV rfl 48 [(0, .tmp 14)] rfl (some 15) rfl [(0, .int .i64 (h : Int))] rfl _ HBL.out ?_ | refine wpList_store_last rfl 48 (.tmp 5) (.tmp 15) rfl (lnV ⟨(h : Int), [], [], []⟩) rfl rfl k4 rfl (lnV_one _) ?_)
      generalize (if c1 = 1 then some (⟨bb, off, none⟩ : Addr) else some ⟨bb, off + 1, none⟩) = P1 at *
      obtain ⟨gL, hgL⟩ : ∃ g, g = wr.heap.size := ⟨_, rfl⟩
      rw [← hgL] at hg2 hl2 hb2 ⊢
      have hga : gL ≤ wr.heap.size := by omega
      have hgb : wr.heap.size ≤ gL := by omega
      have HGL := hid hgL
      clear hgL
      generalize hw2 : wr.alloc (.cells (lnV ⟨(h : Int), [], [], []⟩) 48) = w2 at *
      clear hw2
      have hgl3 := hg2
      have hbl3 := hb2
      have ho2 := hid ho
      clear hg2 hb2 ho hcr
      go_wp2_with fail
      obtain ⟨wq, hwq⟩ : ∃ wq : World, wq = wr := ⟨_, rfl⟩
      rw [← hwq] at ho2 hbr hga hgb hbl3 HGL
      clear hwq
      go_loopw [0, 6] (fun v i ws => ∃ (l : Ln) (r : List UInt8) (A3 : Option Addr) (c3 : Nat) (j : Int), v = .slice A3 r.length c3 ∧ i = .int .i64 j ∧ 0 ≤ j ∧ j ≤ 3 ∧ Hid (Lat (h : Int) t j l r) ∧ Hid (Sl w 1 (.slice A3 r.length c3) (B8 r)) ∧ ws.heap[gL]? = some (.cells (lnV l) 48 (0, 0)) ∧ Below gL wq ws) (fun _ i _ => 3 - (intOf i).toNat)
      case atStart => exact ⟨⟨h, [], [], []⟩, t, P1, c1 - 1, 0, rfl, rfl, by omega, by omega, .inl ⟨rfl, rfl, rfl⟩, HS1, hgl3, hbl3⟩
      case round =>
        obtain ⟨l, r, A3, c3, j, rfl, rfl, hj0, hj3, HL, HS3, hgl, hbl⟩ := hrel
        have hjc : j = 0 ∨ j = 1 ∨ j = 2 ∨ j = 3 := by omega
        rcases hjc with rfl | rfl | rfl | rfl
        ·
          have hbw : Below w.heap.size w wr := hbr.trans (hbl.mono (show w.heap.size ≤ gL by have := hbr.size; omega))
          have hrl := HL.out.len
          cases r with
          | nil =>
            have hts : takeS [] = none := rfl
            rw [List.length_nil]
            have HG0 := hid (HLF.out _ _ _ HL.out (by omega) hts)
            have hbz : Below w.heap.size w wr := hbr.trans (hbl.mono (show w.heap.size ≤ gL by have := hbr.size; omega))
            have HPO : Hid (ConfPost (getC b) (getE b) (.returned (.tuple #[.slice none 0 0, .int .i64 4])) wr) := by
              obtain ⟨e1, e2⟩ := getE_none b HG0.out
              show ConfPost _ _ _ _
              rw [e1, e2]
              exact conf_nil wr 4
            clear hts HG0 hgl hbl HLF HL HS3
            go_wp2_with fail
            go_ret2
            exact ⟨HPO.out, hbz⟩
          | cons y0 t2 =>
            have hs3 := HS3.out
            obtain ⟨-, hd1, hd2⟩ := hs3.len
            obtain ⟨b3, off3, rfl, hbb3, hcell3⟩ := hs3.byte (k := 0) (by simp)
            have hbz3 : byt (y0 :: t2) 0 = y0.toNat := rfl
            rw [hbz3, Nat.add_zero] at hcell3
            have hcw := (hbw.cell (p := ⟨b3, off3, none⟩) hbb3).trans hcell3
            have hy : y0.toNat < 256 := y0.toNat_lt
            have hlt2 : (y0 :: t2).length = t2.length + 1 := rfl
            have htd : takeS (y0 :: t2) = if y0.toNat ≤ t2.length then some (t2.take y0.toNat, t2.drop y0.toNat) else none := rfl
            rw [hlt2] at hd1 hrl
            have hnz : ¬ ((t2.length : Int) + 1 < 1) := by omega
            by_cases hle : y0.toNat ≤ t2.length
            · rw [if_pos hle] at htd
              have ht1 := sl_takeB hs3 (1 + y0.toNat) (by omega)
              have hs1 := sl_dropB ht1 1 (by omega)
              have hs2 := sl_dropB hs3 (1 + y0.toNat) (by omega)
              rw [show (((y0 :: t2).take (1 + y0.toNat)).drop 1) = t2.take y0.toNat by rw [Nat.add_comm, List.take_succ_cons]; rfl, show (1 + y0.toNat - 1) = y0.toNat by omega] at hs1
              rw [show (y0 :: t2).drop (1 + y0.toNat) = t2.drop y0.toNat by rw [Nat.add_comm]; rfl, hlt2] at hs2
              have hrd : t2.length + 1 - (1 + y0.toNat) = (t2.drop y0.toNat).length := by rw [List.length_drop]; omega
              obtain ⟨l2, hl2, hset⟩ := HL.out.step (by omega) htd
              have hset2 : (lnV l).setIfInBounds 1 (.string (S8 (t2.take y0.toNat))) = lnV l2 := hset
              have HL2 := hid hl2
              have qs : wr.cell? ⟨gL, 1, none⟩ = some ((fun l => Value.string (S8 l.name)) l) := by rw [blkCell hgl 1]; rfl
              have qf : wr.frozen? ⟨gL, 1, none⟩ = false := frozen_of_row wr _ _ _ _ hgl
              have hgl6 := blk_set hgl 1 (.string (S8 (t2.take y0.toNat)))
              rw [hset2] at hgl6
              have hbl6 := hbl.setCell (p := ⟨gL, 1, none⟩) (Nat.le_refl _) (.string (S8 (t2.take y0.toNat)))
              have HRD := hid hrd
              have HSa0 := hid hs1
              have HSb0 := hid hs2
              clear htd ht1 hs1 hs2 hrd hset hset2 hl2 HL HS3 hs3 hcell3 hbz3 hgl HLF HL3 HG hlen
              generalize y0.toNat = y at *
              have hw1 : IntKind.i64.wrap (1 + (y : Int)) = 1 + (y : Int) := by rw [IntKind.wrap_i64]; omega
              have hnn : ¬ ((t2.length : Int) + 1 < 1 + (y : Int)) := by omega
              have hnm : ¬ (t2.length < y) := by omega
              have hca : 1 + y ≤ c3 := by omega
              have hz0 : (0 : Int) ≤ 1 + (y : Int) := by omega
              have htn : (1 + (y : Int)).toNat = 1 + y := by omega
              have h1c : 1 ≤ c3 := by omega
              have hz1 : (1 : Int) ≤ 1 + (y : Int) := by omega
              have hza : 1 + (y : Int) ≤ (c3 : Int) := by omega
              have hzn : 1 + (y : Int) ≤ (t2.length : Int) + 1 := by omega
              rw [hlt2]
              generalize t2.take y = ts at *
              generalize t2.drop y = td at *
              have ea : (some (⟨b3, off3, none⟩ : Addr)).map (·.add 1) = some ⟨b3, off3 + 1, none⟩ := by simp [addr_add]
              have eb : (some (⟨b3, off3, none⟩ : Addr)).map (·.add (1 + y)) = some ⟨b3, off3 + (1 + y), none⟩ := by simp [addr_add]
              rw [ea] at HSa0
              rw [eb] at HSb0
              clear ea eb
              by_cases hc31 : c3 = 1
              · have hc3y : c3 = 1 + y := by omega
                have HSa : Hid (Sl w 1 (.slice (some ⟨b3, off3, none⟩) y (c3 - 1)) (B8 ts)) := by
                  have := HSa0.out
                  rw [if_pos hc31] at this
                  exact this
                have HSZ : Hid (Sl w 1 (.slice (some ⟨b3, off3, none⟩) td.length (c3 - (1 + y))) (B8 td)) := by
                  have := HSb0.out
                  rw [if_pos hc3y, HRD.out] at this
                  exact this
                have q1 : (c3 = 1) = True := eq_true hc31
                have q2 : (c3 = 1 + y) = True := eq_true hc3y
                clear HSa0 HSb0 hc31 hc3y
                have st := str_of (P := Tryz.prog) (HSa.out.below hbw) 38 9 5 Tryz.underlying38 Tryz.underlying5 Tryz.underlying9
                clear HSa hbw
                go_wp2_with fail
                go_light
                exact ⟨⟨l2, td, _, _, _, by first | rfl | (rw [← HRD.out]), rfl, by omega, by omega, HL2, HSZ, hgl6, hbl6⟩, by simp [intOf]⟩
              · have HSa : Hid (Sl w 1 (.slice (some ⟨b3, off3 + 1, none⟩) y (c3 - 1)) (B8 ts)) := by
                  have := HSa0.out
                  rw [if_neg hc31] at this
                  exact this
                by_cases hc3y : c3 = 1 + y
                · have HSZ : Hid (Sl w 1 (.slice (some ⟨b3, off3, none⟩) td.length (c3 - (1 + y))) (B8 td)) := by
                    have := HSb0.out
                    rw [if_pos hc3y, HRD.out] at this
                    exact this
                  have q2 : (c3 = 1 + y) = True := eq_true hc3y
                  clear HSa0 HSb0 hc3y
                  have st := str_of (P := Tryz.prog) (HSa.out.below hbw) 38 9 5 Tryz.underlying38 Tryz.underlying5 Tryz.underlying9
                  clear HSa hbw
                  go_wp2_with fail
                  go_light
                  exact ⟨⟨l2, td, _, _, _, by first | rfl | (rw [← HRD.out]), rfl, by omega, by omega, HL2, HSZ, hgl6, hbl6⟩, by simp [intOf]⟩
                · have HSZ : Hid (Sl w 1 (.slice (some ⟨b3, off3 + (1 + y), none⟩) td.length (c3 - (1 + y))) (B8 td)) := by
                    have := HSb0.out
                    rw [if_neg hc3y, HRD.out] at this
                    exact this
                  clear HSa0 HSb0
                  have st := str_of (P := Tryz.prog) (HSa.out.below hbw) 38 9 5 Tryz.underlying38 Tryz.underlying5 Tryz.underlying9
                  clear HSa hbw
                  go_wp2_with fail
                  go_light
                  exact ⟨⟨l2, td, _, _, _, by first | rfl | (rw [← HRD.out]), rfl, by omega, by omega, HL2, HSZ, hgl6, hbl6⟩, by simp [intOf]⟩
            · rw [if_neg hle] at htd
              have hts := htd
              have hnn : (t2.length : Int) + 1 < 1 + (y0.toNat : Int) := by omega
              have hnm : t2.length < y0.toNat := by omega
              have hw1 : IntKind.i64.wrap (1 + (y0.toNat : Int)) = 1 + (y0.toNat : Int) := by rw [IntKind.wrap_i64]; omega
              rw [hlt2]
              clear htd hle hbz3 hcell3 hs3
              have HG0 := hid (HLF.out _ _ _ HL.out (by omega) hts)
              have hbz : Below w.heap.size w wr := hbr.trans (hbl.mono (show w.heap.size ≤ gL by have := hbr.size; omega))
              have HPO : Hid (ConfPost (getC b) (getE b) (.returned (.tuple #[.slice none 0 0, .int .i64 4])) wr) := by
                obtain ⟨e1, e2⟩ := getE_none b HG0.out
                show ConfPost _ _ _ _
                rw [e1, e2]
                exact conf_nil wr 4
              clear hts HG0 hgl hbl HLF HL HS3
              go_wp2_with fail
              go_ret2
              exact ⟨HPO.out, hbz⟩
        ·
          have hbw : Below w.heap.size w wr := hbr.trans (hbl.mono (show w.heap.size ≤ gL by have := hbr.size; omega))
          have hrl := HL.out.len
          cases r with
          | nil =>
            have hts : takeS [] = none := rfl
            rw [List.length_nil]
            have HG0 := hid (HLF.out _ _ _ HL.out (by omega) hts)
            have hbz : Below w.heap.size w wr := hbr.trans (hbl.mono (show w.heap.size ≤ gL by have := hbr.size; omega))
            have HPO : Hid (ConfPost (getC b) (getE b) (.returned (.tuple #[.slice none 0 0, .int .i64 4])) wr) := by
              obtain ⟨e1, e2⟩ := getE_none b HG0.out
              show ConfPost _ _ _ _
              rw [e1, e2]
              exact conf_nil wr 4
            clear hts HG0 hgl hbl HLF HL HS3
            go_wp2_with fail
            go_ret2
            exact ⟨HPO.out, hbz⟩
          | cons y0 t2 =>
            have hs3 := HS3.out
            obtain ⟨-, hd1, hd2⟩ := hs3.len
            obtain ⟨b3, off3, rfl, hbb3, hcell3⟩ := hs3.byte (k := 0) (by simp)
            have hbz3 : byt (y0 :: t2) 0 = y0.toNat := rfl
            rw [hbz3, Nat.add_zero] at hcell3
            have hcw := (hbw.cell (p := ⟨b3, off3, none⟩) hbb3).trans hcell3
            have hy : y0.toNat < 256 := y0.toNat_lt
            have hlt2 : (y0 :: t2).length = t2.length + 1 := rfl
            have htd : takeS (y0 :: t2) = if y0.toNat ≤ t2.length then some (t2.take y0.toNat, t2.drop y0.toNat) else none := rfl
            rw [hlt2] at hd1 hrl
            have hnz : ¬ ((t2.length : Int) + 1 < 1) := by omega
            by_cases hle : y0.toNat ≤ t2.length
            · rw [if_pos hle] at htd
              have ht1 := sl_takeB hs3 (1 + y0.toNat) (by omega)
              have hs1 := sl_dropB ht1 1 (by omega)
              have hs2 := sl_dropB hs3 (1 + y0.toNat) (by omega)
              rw [show (((y0 :: t2).take (1 + y0.toNat)).drop 1) = t2.take y0.toNat by rw [Nat.add_comm, List.take_succ_cons]; rfl, show (1 + y0.toNat - 1) = y0.toNat by omega] at hs1
              rw [show (y0 :: t2).drop (1 + y0.toNat) = t2.drop y0.toNat by rw [Nat.add_comm]; rfl, hlt2] at hs2
              have hrd : t2.length + 1 - (1 + y0.toNat) = (t2.drop y0.toNat).length := by rw [List.length_drop]; omega
              obtain ⟨l2, hl2, hset⟩ := HL.out.step (by omega) htd
              have hset2 : (lnV l).setIfInBounds 2 (.string (S8 (t2.take y0.toNat))) = lnV l2 := hset
              have HL2 := hid hl2
              have qs : wr.cell? ⟨gL, 2, none⟩ = some ((fun l => Value.string (S8 l.leaf)) l) := by rw [blkCell hgl 2]; rfl
              have qf : wr.frozen? ⟨gL, 2, none⟩ = false := frozen_of_row wr _ _ _ _ hgl
              have hgl6 := blk_set hgl 2 (.string (S8 (t2.take y0.toNat)))
              rw [hset2] at hgl6
              have hbl6 := hbl.setCell (p := ⟨gL, 2, none⟩) (Nat.le_refl _) (.string (S8 (t2.take y0.toNat)))
              have HRD := hid hrd
              have HSa0 := hid hs1
              have HSb0 := hid hs2
              clear htd ht1 hs1 hs2 hrd hset hset2 hl2 HL HS3 hs3 hcell3 hbz3 hgl HLF HL3 HG hlen
              generalize y0.toNat = y at *
              have hw1 : IntKind.i64.wrap (1 + (y : Int)) = 1 + (y : Int) := by rw [IntKind.wrap_i64]; omega
              have hnn : ¬ ((t2.length : Int) + 1 < 1 + (y : Int)) := by omega
              have hnm : ¬ (t2.length < y) := by omega
              have hca : 1 + y ≤ c3 := by omega
              have hz0 : (0 : Int) ≤ 1 + (y : Int) := by omega
              have htn : (1 + (y : Int)).toNat = 1 + y := by omega
              have h1c : 1 ≤ c3 := by omega
              have hz1 : (1 : Int) ≤ 1 + (y : Int) := by omega
              have hza : 1 + (y : Int) ≤ (c3 : Int) := by omega
              have hzn : 1 + (y : Int) ≤ (t2.length : Int) + 1 := by omega
              rw [hlt2]
              generalize t2.take y = ts at *
              generalize t2.drop y = td at *
              have ea : (some (⟨b3, off3, none⟩ : Addr)).map (·.add 1) = some ⟨b3, off3 + 1, none⟩ := by simp [addr_add]
              have eb : (some (⟨b3, off3, none⟩ : Addr)).map (·.add (1 + y)) = some ⟨b3, off3 + (1 + y), none⟩ := by simp [addr_add]
              rw [ea] at HSa0
              rw [eb] at HSb0
              clear ea eb
              by_cases hc31 : c3 = 1
              · have hc3y : c3 = 1 + y := by omega
                have HSa : Hid (Sl w 1 (.slice (some ⟨b3, off3, none⟩) y (c3 - 1)) (B8 ts)) := by
                  have := HSa0.out
                  rw [if_pos hc31] at this
                  exact this
                have HSZ : Hid (Sl w 1 (.slice (some ⟨b3, off3, none⟩) td.length (c3 - (1 + y))) (B8 td)) := by
                  have := HSb0.out
                  rw [if_pos hc3y, HRD.out] at this
                  exact this
                have q1 : (c3 = 1) = True := eq_true hc31
                have q2 : (c3 = 1 + y) = True := eq_true hc3y
                clear HSa0 HSb0 hc31 hc3y
                have st := str_of (P := Tryz.prog) (HSa.out.below hbw) 38 9 5 Tryz.underlying38 Tryz.underlying5 Tryz.underlying9
                clear HSa hbw
                go_wp2_with fail
                go_light
                exact ⟨⟨l2, td, _, _, _, by first | rfl | (rw [← HRD.out]), rfl, by omega, by omega, HL2, HSZ, hgl6, hbl6⟩, by simp [intOf]⟩
              · have HSa : Hid (Sl w 1 (.slice (some ⟨b3, off3 + 1, none⟩) y (c3 - 1)) (B8 ts)) := by
                  have := HSa0.out
                  rw [if_neg hc31] at this
                  exact this
                by_cases hc3y : c3 = 1 + y
                · have HSZ : Hid (Sl w 1 (.slice (some ⟨b3, off3, none⟩) td.length (c3 - (1 + y))) (B8 td)) := by
                    have := HSb0.out
                    rw [if_pos hc3y, HRD.out] at this
                    exact this
                  have q2 : (c3 = 1 + y) = True := eq_true hc3y
                  clear HSa0 HSb0 hc3y
                  have st := str_of (P := Tryz.prog) (HSa.out.below hbw) 38 9 5 Tryz.underlying38 Tryz.underlying5 Tryz.underlying9
                  clear HSa hbw
                  go_wp2_with fail
                  go_light
                  exact ⟨⟨l2, td, _, _, _, by first | rfl | (rw [← HRD.out]), rfl, by omega, by omega, HL2, HSZ, hgl6, hbl6⟩, by simp [intOf]⟩
                · have HSZ : Hid (Sl w 1 (.slice (some ⟨b3, off3 + (1 + y), none⟩) td.length (c3 - (1 + y))) (B8 td)) := by
                    have := HSb0.out
                    rw [if_neg hc3y, HRD.out] at this
                    exact this
                  clear HSa0 HSb0
                  have st := str_of (P := Tryz.prog) (HSa.out.below hbw) 38 9 5 Tryz.underlying38 Tryz.underlying5 Tryz.underlying9
                  clear HSa hbw
                  go_wp2_with fail
                  go_light
                  exact ⟨⟨l2, td, _, _, _, by first | rfl | (rw [← HRD.out]), rfl, by omega, by omega, HL2, HSZ, hgl6, hbl6⟩, by simp [intOf]⟩
            · rw [if_neg hle] at htd
              have hts := htd
              have hnn : (t2.length : Int) + 1 < 1 + (y0.toNat : Int) := by omega
              have hnm : t2.length < y0.toNat := by omega
              have hw1 : IntKind.i64.wrap (1 + (y0.toNat : Int)) = 1 + (y0.toNat : Int) := by rw [IntKind.wrap_i64]; omega
              rw [hlt2]
              clear htd hle hbz3 hcell3 hs3
              have HG0 := hid (HLF.out _ _ _ HL.out (by omega) hts)
              have hbz : Below w.heap.size w wr := hbr.trans (hbl.mono (show w.heap.size ≤ gL by have := hbr.size; omega))
              have HPO : Hid (ConfPost (getC b) (getE b) (.returned (.tuple #[.slice none 0 0, .int .i64 4])) wr) := by
                obtain ⟨e1, e2⟩ := getE_none b HG0.out
                show ConfPost _ _ _ _
                rw [e1, e2]
                exact conf_nil wr 4
              clear hts HG0 hgl hbl HLF HL HS3
              go_wp2_with fail
              go_ret2
              exact ⟨HPO.out, hbz⟩
        ·
          have hbw : Below w.heap.size w wr := hbr.trans (hbl.mono (show w.heap.size ≤ gL by have := hbr.size; omega))
          have hrl := HL.out.len
          cases r with
          | nil =>
            have hts : takeS [] = none := rfl
            rw [List.length_nil]
            have HG0 := hid (HLF.out _ _ _ HL.out (by omega) hts)
            have hbz : Below w.heap.size w wr := hbr.trans (hbl.mono (show w.heap.size ≤ gL by have := hbr.size; omega))
            have HPO : Hid (ConfPost (getC b) (getE b) (.returned (.tuple #[.slice none 0 0, .int .i64 4])) wr) := by
              obtain ⟨e1, e2⟩ := getE_none b HG0.out
              show ConfPost _ _ _ _
              rw [e1, e2]
              exact conf_nil wr 4
            clear hts HG0 hgl hbl HLF HL HS3
            go_wp2_with fail
            go_ret2
            exact ⟨HPO.out, hbz⟩
          | cons y0 t2 =>
            have hs3 := HS3.out
            obtain ⟨-, hd1, hd2⟩ := hs3.len
            obtain ⟨b3, off3, rfl, hbb3, hcell3⟩ := hs3.byte (k := 0) (by simp)
            have hbz3 : byt (y0 :: t2) 0 = y0.toNat := rfl
            rw [hbz3, Nat.add_zero] at hcell3
            have hcw := (hbw.cell (p := ⟨b3, off3, none⟩) hbb3).trans hcell3
            have hy : y0.toNat < 256 := y0.toNat_lt
            have hlt2 : (y0 :: t2).length = t2.length + 1 := rfl
            have htd : takeS (y0 :: t2) = if y0.toNat ≤ t2.length then some (t2.take y0.toNat, t2.drop y0.toNat) else none := rfl
            rw [hlt2] at hd1 hrl
            have hnz : ¬ ((t2.length : Int) + 1 < 1) := by omega
            by_cases hle : y0.toNat ≤ t2.length
            · rw [if_pos hle] at htd
              have ht1 := sl_takeB hs3 (1 + y0.toNat) (by omega)
              have hs1 := sl_dropB ht1 1 (by omega)
              have hs2 := sl_dropB hs3 (1 + y0.toNat) (by omega)
              rw [show (((y0 :: t2).take (1 + y0.toNat)).drop 1) = t2.take y0.toNat by rw [Nat.add_comm, List.take_succ_cons]; rfl, show (1 + y0.toNat - 1) = y0.toNat by omega] at hs1
              rw [show (y0 :: t2).drop (1 + y0.toNat) = t2.drop y0.toNat by rw [Nat.add_comm]; rfl, hlt2] at hs2
              have hrd : t2.length + 1 - (1 + y0.toNat) = (t2.drop y0.toNat).length := by rw [List.length_drop]; omega
              obtain ⟨l2, hl2, hset⟩ := HL.out.step (by omega) htd
              have hset2 : (lnV l).setIfInBounds 3 (.string (S8 (t2.take y0.toNat))) = lnV l2 := hset
              have HL2 := hid hl2
              have qs : wr.cell? ⟨gL, 3, none⟩ = some ((fun l => Value.string (S8 l.value)) l) := by rw [blkCell hgl 3]; rfl
              have qf : wr.frozen? ⟨gL, 3, none⟩ = false := frozen_of_row wr _ _ _ _ hgl
              have hgl6 := blk_set hgl 3 (.string (S8 (t2.take y0.toNat)))
              rw [hset2] at hgl6
              have hbl6 := hbl.setCell (p := ⟨gL, 3, none⟩) (Nat.le_refl _) (.string (S8 (t2.take y0.toNat)))
              have HRD := hid hrd
              have HSa0 := hid hs1
              have HSb0 := hid hs2
              clear htd ht1 hs1 hs2 hrd hset hset2 hl2 HL HS3 hs3 hcell3 hbz3 hgl HLF HL3 HG hlen
              generalize y0.toNat = y at *
              have hw1 : IntKind.i64.wrap (1 + (y : Int)) = 1 + (y : Int) := by rw [IntKind.wrap_i64]; omega
              have hnn : ¬ ((t2.length : Int) + 1 < 1 + (y : Int)) := by omega
              have hnm : ¬ (t2.length < y) := by omega
              have hca : 1 + y ≤ c3 := by omega
              have hz0 : (0 : Int) ≤ 1 + (y : Int) := by omega
              have htn : (1 + (y : Int)).toNat = 1 + y := by omega
              have h1c : 1 ≤ c3 := by omega
              have hz1 : (1 : Int) ≤ 1 + (y : Int) := by omega
              have hza : 1 + (y : Int) ≤ (c3 : Int) := by omega
              have hzn : 1 + (y : Int) ≤ (t2.length : Int) + 1 := by omega
              rw [hlt2]
              generalize t2.take y = ts at *
              generalize t2.drop y = td at *
              have ea : (some (⟨b3, off3, none⟩ : Addr)).map (·.add 1) = some ⟨b3, off3 + 1, none⟩ := by simp [addr_add]
              have eb : (some (⟨b3, off3, none⟩ : Addr)).map (·.add (1 + y)) = some ⟨b3, off3 + (1 + y), none⟩ := by simp [addr_add]
              rw [ea] at HSa0
              rw [eb] at HSb0
              clear ea eb
              by_cases hc31 : c3 = 1
              · have hc3y : c3 = 1 + y := by omega
                have HSa : Hid (Sl w 1 (.slice (some ⟨b3, off3, none⟩) y (c3 - 1)) (B8 ts)) := by
                  have := HSa0.out
                  rw [if_pos hc31] at this
                  exact this
                have HSZ : Hid (Sl w 1 (.slice (some ⟨b3, off3, none⟩) td.length (c3 - (1 + y))) (B8 td)) := by
                  have := HSb0.out
                  rw [if_pos hc3y, HRD.out] at this
                  exact this
                have q1 : (c3 = 1) = True := eq_true hc31
                have q2 : (c3 = 1 + y) = True := eq_true hc3y
                clear HSa0 HSb0 hc31 hc3y
                have st := str_of (P := Tryz.prog) (HSa.out.below hbw) 38 9 5 Tryz.underlying38 Tryz.underlying5 Tryz.underlying9
                clear HSa hbw
                go_wp2_with fail
                go_light
                exact ⟨⟨l2, td, _, _, _, by first | rfl | (rw [← HRD.out]), rfl, by omega, by omega, HL2, HSZ, hgl6, hbl6⟩, by simp [intOf]⟩
              · have HSa : Hid (Sl w 1 (.slice (some ⟨b3, off3 + 1, none⟩) y (c3 - 1)) (B8 ts)) := by
                  have := HSa0.out
                  rw [if_neg hc31] at this
                  exact this
                by_cases hc3y : c3 = 1 + y
                · have HSZ : Hid (Sl w 1 (.slice (some ⟨b3, off3, none⟩) td.length (c3 - (1 + y))) (B8 td)) := by
                    have := HSb0.out
                    rw [if_pos hc3y, HRD.out] at this
                    exact this
                  have q2 : (c3 = 1 + y) = True := eq_true hc3y
                  clear HSa0 HSb0 hc3y
                  have st := str_of (P := Tryz.prog) (HSa.out.below hbw) 38 9 5 Tryz.underlying38 Tryz.underlying5 Tryz.underlying9
                  clear HSa hbw
                  go_wp2_with fail
                  go_light
                  exact ⟨⟨l2, td, _, _, _, by first | rfl | (rw [← HRD.out]), rfl, by omega, by omega, HL2, HSZ, hgl6, hbl6⟩, by simp [intOf]⟩
                · have HSZ : Hid (Sl w 1 (.slice (some ⟨b3, off3 + (1 + y), none⟩) td.length (c3 - (1 + y))) (B8 td)) := by
                    have := HSb0.out
                    rw [if_neg hc3y, HRD.out] at this
                    exact this
                  clear HSa0 HSb0
                  have st := str_of (P := Tryz.prog) (HSa.out.below hbw) 38 9 5 Tryz.underlying38 Tryz.underlying5 Tryz.underlying9
                  clear HSa hbw
                  go_wp2_with fail
                  go_light
                  exact ⟨⟨l2, td, _, _, _, by first | rfl | (rw [← HRD.out]), rfl, by omega, by omega, HL2, HSZ, hgl6, hbl6⟩, by simp [intOf]⟩
            · rw [if_neg hle] at htd
              have hts := htd
              have hnn : (t2.length : Int) + 1 < 1 + (y0.toNat : Int) := by omega
              have hnm : t2.length < y0.toNat := by omega
              have hw1 : IntKind.i64.wrap (1 + (y0.toNat : Int)) = 1 + (y0.toNat : Int) := by rw [IntKind.wrap_i64]; omega
              rw [hlt2]
              clear htd hle hbz3 hcell3 hs3
              have HG0 := hid (HLF.out _ _ _ HL.out (by omega) hts)
              have hbz : Below w.heap.size w wr := hbr.trans (hbl.mono (show w.heap.size ≤ gL by have := hbr.size; omega))
              have HPO : Hid (ConfPost (getC b) (getE b) (.returned (.tuple #[.slice none 0 0, .int .i64 4])) wr) := by
                obtain ⟨e1, e2⟩ := getE_none b HG0.out
                show ConfPost _ _ _ _
                rw [e1, e2]
                exact conf_nil wr 4
              clear hts HG0 hgl hbl HLF HL HS3
              go_wp2_with fail
              go_ret2
              exact ⟨HPO.out, hbz⟩
        · have hrl := HL.out.len
          obtain ⟨hg1, hlb⟩ := HL3.out l r HL.out
          have HG1 : Hid (getG b = (getG r).map ((C ++ [l]) ++ ·)) := by
            show _ = _
            rw [HG.out, hg1, Option.map_map]
            congr 1
            funext z
            simp
          have HLB1 : Hid (∀ y ∈ C ++ [l], LnB y) := fun y hy => by
            rcases List.mem_append.1 hy with hy | hy
            · exact HLB.out y hy
            · rw [List.mem_singleton.1 hy]; exact hlb
          have hbq : Below wq.heap.size wq wr := by rw [← HGL.out]; exact hbl
          have hbw := hbr.trans (hbl.mono (show w.heap.size ≤ gL by have := hbr.size; omega))
          have ho4 := own_below ho2.out hbq
          have hba := (Below.refl wr.heap.size wr).alloc (Nat.le_refl _) (.cells (lnV l) 48)
          have hsa := sl_blkT (heap_alloc_new wr (.cells (lnV l) 48))
          have hoa := own_below ho4 hba
          have hbb2 := hbw.trans (hba.mono hbw.size)
          clear hbq ho4 hba hg1 hlb HL3 HLF HL hbl HG HLB
          go_wp2_with (first | refine wpList_load_row rfl 48 (.tmp 5) rfl gL rfl 48 (lnV l) (0, 0) _ hgl Tryz.underlying48 rfl k4 ?_ | refine wpList_build1 rfl st_rls (.tmp 64) rfl (lnV l) rfl rfl (by omega) (by omega) ?_ | (at_builtin; refine wpList_app rfl (.tmp 63) (.tmp 65) st_rls rfl w.heap.size rfl hoa rfl hsa (LNS_one _) (by simp [maxLen]; omega) (by omega) hbb2.size ?_))
          intro A9 c9 w9 ho9 hg9 _
          have hb9 := hbb2.trans ((grown_below hoa hg9 hbb2.size).mono (Nat.le_refl _))
          rw [← LNS_append] at ho9
          have HCL : Hid (C.length + 1 = (C ++ [l]).length) := by show _ = _; simp
          rw [HCL.out] at ho9
          have HO9 := hid ho9
          clear hsa hoa hbb2 hg9 ho9 hgl
          go_wp2_with fail
          go_light
          exact ⟨⟨C ++ [l], r, A3, A9, c3, c9, rfl, by rw [← HCL.out], HS3, HO9.out, by rw [← HCL.out]; omega, HG1, HLB1, hb9⟩, by show r.length < t.length + 1; omega⟩
end CF
end Go.Proofs.YtecfkhgocjbocaaGreatDoor
namespace Go.Proofs.YtecfkhgocjbocaaGreatDoor
set_option linter.unusedVariables false
set_option linter.unusedSimpArgs false
open Go Go.RowKit

namespace CF
def lens (L : List (List UInt8)) : Nat := (L.map fun p => p.length + 1).sum
theorem cut_sum (c : UInt8) (l : List UInt8) : lens (SC.cut c l) = l.length + 1 := by
  induction l with
  | nil => rfl
  | cons x t ih =>
    unfold SC.cut
    split
    · show 1 + lens (SC.cut c t) = _
      rw [ih, List.length_cons]
      omega
    · cases hc : SC.cut c t with
      | nil => exact absurd hc (SC.cut_ne c t)
      | cons h r =>
        rw [hc] at ih
        simp only
        have e1 : lens ((x :: h) :: r) = (h.length + 1 + 1) + lens r := by simp [lens]
        have e2 : lens (h :: r) = (h.length + 1) + lens r := by simp [lens]
        rw [e1, List.length_cons]
        omega
theorem dec_len {l : List UInt8} {n : Nat} (h : SC.dec l = some n) : l.length ≤ 9 := by
  unfold SC.dec at h
  split at h
  · rename_i hd
    unfold SC.decOk at hd
    simp only [Bool.and_eq_true, decide_eq_true_eq] at hd
    exact hd.1.1.2
  · cases h
theorem part_len {l : List UInt8} {n : Nat} (h : SC.part l = some n) : l.length ≤ 9 := by
  unfold SC.part at h
  split at h
  · rename_i n' hn
    exact dec_len hn
  · cases h
theorem addr_len {l : List UInt8} {n : Nat} (h : SC.addr l = some n) : l.length ≤ 39 := by
  have hs := cut_sum 46 l
  unfold SC.addr at h
  split at h
  · rename_i a b c d hcut
    rw [hcut] at hs
    split at h
    · rename_i a' b' c' d' h1 h2 h3 h4
      have := part_len h1
      have := part_len h2
      have := part_len h3
      have := part_len h4
      simp [lens] at hs
      omega
    · cases h
  · cases h
theorem addrB_len {l : List UInt8} (h : SC.addrB l = true) : l.length ≤ 39 := by
  unfold SC.addrB at h
  cases ha : SC.addr l with
  | none => rw [ha] at h; cases h
  | some n => exact addr_len ha
theorem netB_len {l : List UInt8} (h : SC.netB l = true) : l.length ≤ 49 := by
  unfold SC.netB at h
  cases ha : SC.net l with
  | none => rw [ha] at h; cases h
  | some n =>
    have hs := cut_sum 47 l
    unfold SC.net at ha
    split at ha
    · rename_i a b hcut
      rw [hcut] at hs
      split at ha
      · rename_i a' b' h1 h2
        have q1 := addr_len h1
        have q2 : b.length ≤ 9 := by
          unfold SC.len32 at h2
          split at h2
          · rename_i n' hn; exact dec_len hn
          · cases h2
        simp [lens] at hs
        omega
      · cases ha
    · cases ha
theorem tab_small (r : Rw) (h : r ∈ TAB) : (0 ≤ r.head ∧ r.head ≤ 2) ∧ r.name.length ≤ 20 ∧ (∀ x ∈ r.cho, x.length ≤ 20) ∧ r.hi ≤ 65535 := by
  have : TAB.all (fun r => decide (0 ≤ r.head ∧ r.head ≤ 2) && decide (r.name.length ≤ 20) && r.cho.all (fun x => decide (x.length ≤ 20)) && decide (r.hi ≤ 65535)) = true := by kernel_rfl
  have h1 := List.all_eq_true.1 this r h
  simp only [Bool.and_eq_true, decide_eq_true_eq, List.all_eq_true] at h1
  exact ⟨h1.1.1.1, h1.1.1.2, fun x hx => by simpa using h1.1.2 x hx, h1.2⟩
theorem right_lnb (l : Ln) (h : rightL l = true) : LnB l := by
  unfold rightL at h
  simp only [Bool.and_eq_true] at h
  obtain ⟨⟨h1, h2⟩, h3⟩ := h
  cases hf : TAB.find? (isR l.head l.leaf) with
  | none =>
    have : findR l.head l.leaf = (row0, false) := by unfold findR; rw [hf]
    rw [this] at h1
    cases h1
  | some r =>
    have e : findR l.head l.leaf = (r, true) := by unfold findR; rw [hf]
    rw [e] at h3
    obtain ⟨hd, hn, hc, hh⟩ := tab_small r (List.mem_of_find?_eq_some hf)
    have hr := List.find?_some hf
    unfold isR at hr
    simp only [Bool.and_eq_true, decide_eq_true_eq] at hr
    obtain ⟨e1, e2⟩ := hr
    rw [e1] at hd
    rw [e2] at hn
    refine ⟨hd.1, by omega, ?_, by omega, ?_⟩
    · unfold namedR at h2
      split at h2
      · have := of_decide_eq_true h2
        rw [this]; exact Nat.zero_le _
      · split at h2
        · have := addrB_len h2; omega
        · split at h2
          · rw [Bool.and_eq_true] at h2
            have := ((LX.isW_iff _).1 h2.1).2.1
            omega
          · cases h2
    · simp only at h3
      unfold rightR at h3
      split at h3
      · have := addrB_len h3; omega
      · split at h3
        · have := netB_len h3; omega
        · split at h3
          · simp only [Bool.and_eq_true] at h3
            have h4 := h3.1.1
            unfold SC.decB at h4
            cases hd : SC.dec l.value with
            | none => rw [hd] at h4; cases h4
            | some n => have := dec_len hd; omega
          · split at h3
            · have hm : l.value ∈ r.cho := by simpa using h3
              have := hc _ hm
              omega
            · rw [Bool.and_eq_true] at h3
              have := ((LX.isW_iff _).1 h3.1).2.1
              omega
theorem lnb_ok {l : Ln} (h : LnB l) : LnOk l := ⟨by have := h.2.2.1; omega, by have := h.2.2.2.1; omega, by have := h.2.2.2.2; omega⟩
theorem build_lnb (L : List Ln) : ∀ l ∈ buildC L, LnB l := fun l hl => right_lnb l (((RightC_iff _).1 (build_right L 100)).1 l hl)
end CF
end Go.Proofs.YtecfkhgocjbocaaGreatDoor
namespace Go.Proofs.YtecfkhgocjbocaaGreatDoor
set_option linter.unusedVariables false
set_option linter.unusedSimpArgs false
open Go Go.RowKit

namespace CF
theorem eqF_one {P : Program} {d : Nat} {xs ys : Array Value} {f : Field} {fs : List Field} {w : World} {x y : Value} {b c : Bool} (hn : f.name ≠ "_") (ha : (isAgg f.type).run P w = .ok false w) (hx : xs[f.offset]? = some x) (hy : ys[f.offset]? = some y)
    (he : (Op.equalIn d f.type x y).run P w = .ok b w) (hr : (Op.eqFields d xs ys fs).run P w = .ok c w) : (Op.eqFields d xs ys (f :: fs)).run P w = .ok (b && c) w := by
  have p1 : (part f.type xs f.offset).run P w = .ok x w := by
    unfold part
    simp only [Sem.run_bind, ha, Result.andThen_ok, Bool.false_eq_true, if_false, hx, Sem.run_pure]
  have p2 : (part f.type ys f.offset).run P w = .ok y w := by
    unfold part
    simp only [Sem.run_bind, ha, Result.andThen_ok, Bool.false_eq_true, if_false, hy, Sem.run_pure]
  unfold Op.eqFields
  rw [if_pos hn]
  simp only [Sem.run_bind, p1, p2, he, Result.andThen_ok]
  cases b with
  | true => simpa using hr
  | false => simp
def lnB (l m : Ln) : Bool := l.head == m.head && ((S8 l.name).toList == (S8 m.name).toList && ((S8 l.leaf).toList == (S8 m.leaf).toList && ((S8 l.value).toList == (S8 m.value).toList && true)))
theorem s8_inj (a b : List UInt8) : ((S8 a).toList == (S8 b).toList) = true ↔ a = b := by
  have h1 : (S8 a).toList = a := Lib.toList_data _
  have h2 : (S8 b).toList = b := Lib.toList_data _
  rw [h1, h2, beq_iff_eq]
theorem lnB_iff (l m : Ln) : lnB l m = true ↔ l = m := by
  obtain ⟨a1, a2, a3, a4⟩ := l
  obtain ⟨b1, b2, b3, b4⟩ := m
  unfold lnB
  simp only [Bool.and_eq_true, beq_iff_eq, and_true, Ln.mk.injEq]
  rw [← s8_inj a2 b2, ← s8_inj a3 b3, ← s8_inj a4 b4]
  simp only [beq_iff_eq]
theorem eqLn (d : Nat) (l m : Ln) (w : World) : (Op.equalIn (d + 2) 29 (.agg (lnV l)) (.agg (lnV m))).run Tryz.prog w = .ok (lnB l m) w := by
  rw [run_equalIn_struct w (d + 1) 29 _ _ (by kernel_rfl) (by kernel_rfl)]
  have hf : (Tryz.prog.fieldsOf 29).toList = [⟨"Head", 3, 0, false, "", "", 0⟩, ⟨"Name", 9, 1, false, "", "", 8⟩, ⟨"Leaf", 9, 2, false, "", "", 24⟩, ⟨"Value", 9, 3, false, "", "", 40⟩] := by kernel_rfl
  rw [hf]
  refine eqF_one (by decide) (Tryz.isAgg3 _) rfl rfl (run_equalIn_int w _ _ _ _ _ _ Tryz.underlying3) ?_
  refine eqF_one (by decide) (Tryz.isAgg9 _) rfl rfl (run_equalIn_string w _ _ _ _ Tryz.underlying9) ?_
  refine eqF_one (by decide) (Tryz.isAgg9 _) rfl rfl (run_equalIn_string w _ _ _ _ Tryz.underlying9) ?_
  refine eqF_one (by decide) (Tryz.isAgg9 _) rfl rfl (run_equalIn_string w _ _ _ _ Tryz.underlying9) ?_
  rfl
set_option maxRecDepth 100000 in
theorem neqLn (c e : Ln) (w : World) : (binOp .neq 29 (.agg (lnV c)) (.agg (lnV e))).run Tryz.prog w = .ok (.bool (!lnB c e)) w := by
  rw [run_neq_struct, show (10000 : Nat) = 9998 + 2 by decide, eqLn 9998]
  rfl
theorem guardLn : (Tryz.prog).eqGuardType (Tryz.prog).depth 29 = false := by kernel_rfl
theorem eqLnR (d : Nat) (l m : Ln) (w : World) : (Op.equalIn (d + 2) 48 (.agg (lnV l)) (.agg (lnV m))).run Tryz.prog w = .ok (lnB l m) w := by
  rw [run_equalIn_struct w (d + 1) 48 _ _ (by kernel_rfl) (by kernel_rfl)]
  have hf : (Tryz.prog.fieldsOf 48).toList = [⟨"Head", 3, 0, false, "", "", 0⟩, ⟨"Name", 9, 1, false, "", "", 8⟩, ⟨"Leaf", 9, 2, false, "", "", 24⟩, ⟨"Value", 9, 3, false, "", "", 40⟩] := by kernel_rfl
  rw [hf]
  refine eqF_one (by decide) (Tryz.isAgg3 _) rfl rfl (run_equalIn_int w _ _ _ _ _ _ Tryz.underlying3) ?_
  refine eqF_one (by decide) (Tryz.isAgg9 _) rfl rfl (run_equalIn_string w _ _ _ _ Tryz.underlying9) ?_
  refine eqF_one (by decide) (Tryz.isAgg9 _) rfl rfl (run_equalIn_string w _ _ _ _ Tryz.underlying9) ?_
  refine eqF_one (by decide) (Tryz.isAgg9 _) rfl rfl (run_equalIn_string w _ _ _ _ Tryz.underlying9) ?_
  rfl
set_option maxRecDepth 100000 in
theorem neqLnR (c e : Ln) (w : World) : (binOp .neq 48 (.agg (lnV c)) (.agg (lnV e))).run Tryz.prog w = .ok (.bool (!lnB c e)) w := by
  rw [run_neq_struct, show (10000 : Nat) = 9998 + 2 by decide, eqLnR 9998]
  rfl
theorem guardLnR : (Tryz.prog).eqGuardType (Tryz.prog).depth 48 = false := by kernel_rfl
/-- a comparison of two structs, as an operation -/
theorem exec_cmp {P : Program} {o : Oper} {a : Act} {w : World} {op : BinOp} {t t2 : TypeId} {x y : Operand} {xs ys : Array Value} {v : Value} (ho : o.op = .binOp op t x y t2) (hx : a.eval x = .agg xs) (hy : a.eval y = .agg ys) (hm : P.eqGuardType P.depth t = false)
    (hr : (binOp op t (.agg xs) (.agg ys)).run P w = .ok v w) : (execOp a.eval o).run P w = .ok (.value v) w := by
  unfold execOp
  simp only [ho, hx, hy, Sem.run_bind, run_eqGuard_agg w op t x y xs ys hm, hr, Result.andThen_ok]
  rfl
theorem runs_cmp {P : Program} {o : Oper} {a : Act} {w : World} {R : Value → World → Prop} {op : BinOp} {t t2 : TypeId} {x y : Operand} {xs ys : Array Value} {v : Value} (ho : o.op = .binOp op t x y t2) (hx : a.eval x = .agg xs) (hy : a.eval y = .agg ys) (hm : P.eqGuardType P.depth t = false)
    (hr : (binOp op t (.agg xs) (.agg ys)).run P w = .ok v w) (h : R v w) : runs P o a w R := runs_value (exec_cmp ho hx hy hm hr) h
/-- the same outside of a region that draws, guarded or not -/
theorem wpList_cmp {P : Program} {ops : Array Oper} {rest : List Oper} {o : Oper} {a : Act} {w : World} {Q : Exit → Act → World → Prop} (hw : Region.wanted o (yielded ops a.tmps) = true) {op : BinOp} {t t2 : TypeId} {x y : Operand} {xs ys : Array Value} {v : Value} (ho : o.op = .binOp op t x y t2) (hx : a.eval x = .agg xs) (hy : a.eval y = .agg ys) (hm : P.eqGuardType P.depth t = false)
    (hr : (binOp op t (.agg xs) (.agg ys)).run P w = .ok v w) (h : wpList P ops Q rest (a.put o.dst v) w) : wpList P ops Q (o :: rest) a w :=
  wpList_step fun K hK => by
    simp only [hw, if_true]
    unfold Oper.wp
    rw [exec_cmp ho hx hy hm hr]
    exact hK _ _ h
end CF
end Go.Proofs.YtecfkhgocjbocaaGreatDoor
namespace Go.Proofs.YtecfkhgocjbocaaGreatDoor
set_option linter.unusedVariables false
set_option linter.unusedSimpArgs false
open Go Go.RowKit

namespace CF
def sameTo (C D : List Ln) (k : Nat) : Bool := (List.range k).all fun j => lnB (lnAt C j) (lnAt D j)
def sameC (C D : List Ln) : Bool := decide (C.length = D.length) && sameTo C D C.length
theorem sameTo_succ (C D : List Ln) (k : Nat) : sameTo C D (k + 1) = (sameTo C D k && lnB (lnAt C k) (lnAt D k)) := by
  unfold sameTo
  rw [List.range_succ, List.all_append]
  simp
theorem sameTo_no (C D : List Ln) (k m : Nat) (hk : k < m) (h : lnB (lnAt C k) (lnAt D k) = false) : sameTo C D m = false := by
  unfold sameTo
  rw [Bool.eq_false_iff]
  intro h2
  have := List.all_eq_true.1 h2 k (List.mem_range.2 hk)
  rw [h] at this
  cases this
theorem sameC_iff (C D : List Ln) : sameC C D = true ↔ C = D := by
  unfold sameC sameTo
  rw [Bool.and_eq_true, decide_eq_true_iff, List.all_eq_true]
  constructor
  · rintro ⟨h1, h2⟩
    refine List.ext_getElem h1 fun k hk1 hk2 => ?_
    have := (lnB_iff _ _).1 (h2 k (List.mem_range.2 hk1))
    rwa [lnAt_get C k hk1, lnAt_get D k hk2] at this
  · rintro rfl
    exact ⟨rfl, fun k _ => (lnB_iff _ _).2 rfl⟩
theorem sameC_refl (C : List Ln) : sameC C C = true := (sameC_iff C C).2 rfl
set_option maxRecDepth 100000 in
set_option maxHeartbeats 1600000 in
theorem refSame_any (C D : List Ln) (A A2 : Option Addr) (n c m c2 : Nat) (w : World) (h1 : Sl w 4 (.slice A n c) (LNS C)) (h2 : Sl w 4 (.slice A2 m c2) (LNS D)) :
    Calls Tryz.prog 22 #[.slice A n c, .slice A2 m c2] w fun e w' => e = .returned (.bool (sameC C D)) ∧ Below w.heap.size w w' := by
  have hl1 := (sl_lns h1).1
  have hl2 := (sl_lns h2).1
  obtain ⟨-, hc1, hc2⟩ := sl_lns h1
  obtain ⟨-, hd1, hd2⟩ := sl_lns h2
  have HS1 := hid h1
  have HS2 := hid h2
  by_cases hnm : n = m
  · subst hnm
    have HNO : Hid (∀ k < n, lnB (lnAt C k) (lnAt D k) = false → sameC C D = false) := fun k hk h => by unfold sameC; rw [sameTo_no C D k _ (by omega) h, Bool.and_false]
    have HOK : Hid (sameTo C D n = true → sameC C D = true) := fun h => by unfold sameC; rw [hl1, hl2, h]; simp
    have HST : Hid (∀ k, sameTo C D (k + 1) = (sameTo C D k && lnB (lnAt C k) (lnAt D k))) := sameTo_succ C D
    have te : ((n : Int) != (n : Int)) = false := by simp
    clear hl1 hl2 h1 h2
    generalize sameC C D = SC at *
    go_enter Tryz.func22, Tryz.ntmps22
    go_wp2_with fail
    go_loopw [5] (fun i wr => ∃ k : Nat, k ≤ n ∧ i = .int .i64 k ∧ Hid (sameTo C D k = true) ∧ Below w.heap.size w wr) (fun i _ => n - (intOf i).toNat)
    case atStart => exact ⟨0, Nat.zero_le _, rfl, hid rfl, Below.refl _ _⟩
    case round =>
      obtain ⟨k, hk, rfl, hok, hbr⟩ := hrel
      by_cases hlt : k < n
      · obtain ⟨b, off, rfl, hbl, hcl⟩ := sl_ln (HS1.out.below hbr) hlt
        obtain ⟨b2, off2, rfl, hbl2, hcl2⟩ := sl_ln (HS2.out.below hbr) hlt
        have HC1 : Hid (∀ wS, Below wr.heap.size wr wS → wS.rangeAt b (off + k * 4) (lnC (lnAt C k))) := fun wS hb => range_below hcl hbl hb
        have HC2 : Hid (∀ wS, Below wr.heap.size wr wS → wS.rangeAt b2 (off2 + k * 4) (lnC (lnAt D k))) := fun wS hb => range_below hcl2 hbl2 hb
        have HN := hid (HNO.out k hlt)
        have HS := hid (HST.out k)
        have HQ : Hid (∀ w, (binOp .neq 48 (.agg (lnV (lnAt C k))) (.agg (lnV (lnAt D k)))).run Tryz.prog w = .ok (.bool (!lnB (lnAt C k) (lnAt D k))) w) := fun w => neqLnR _ _ w
        clear hcl hcl2 HNO HST HOK
        generalize lnB (lnAt C k) (lnAt D k) = B at *
        generalize lnAt C k = x at *
        generalize lnAt D k = y at *
        go_upto_region 6 with fail
        refine wp_region_loud (fun _ => False) [(3, plainL [] (.agg (lnV x))), (7, plainL [] (.agg (lnV y))), (8, plainL [] (.bool (!B)))] (fun _ => Fact.none) (by kernel_rfl) (by kernel_rfl)
          (.cons (plainL_ok _ _) (.cons (plainL_ok _ _) (.cons (plainL_ok _ _) .nil))) good_nothing sat_none (WX.out ?_)
        repeat (first | (refine wx_quietU (by rfl) (by rfl) (by rfl) (fun K hK => ?_); go_big_quiet_op; refine hK _ ?_; clear hK K) | (refine wx_quietG (by rfl) (by rfl) (by rfl) (by rfl) (by rfl) (fun K hK => ?_); go_big_quiet_op; refine hK _ ?_; clear hK K) | (refine wx_skipG (by rfl) (by rfl) (by rfl) (fun K hK => ?_); go_simp; refine hK _ ?_; clear hK K) | (refine wx_skipN (by rfl) (by rfl) (by rfl) (fun K hK => ?_); go_simp; refine hK _ ?_; clear hK K))
        refine wx_loudU (us := []) (by rfl) (by rfl) (fun S wS hC hS hU => ?_) (fun v hv K hK => ?_)
        · exact runs_load_mid 48 (.tmp 19) rfl b (off + k * 4) rfl (lnC x) _ (HC1.out wS hC.below) Tryz.underlying48 rfl k4 ⟨rfl, Kept.refl _ _, trivial⟩
        obtain rfl := hv; (go_simp; refine hK _ ?_; clear hK K)
        repeat (first | (refine wx_quietU (by rfl) (by rfl) (by rfl) (fun K hK => ?_); go_big_quiet_op; refine hK _ ?_; clear hK K) | (refine wx_quietG (by rfl) (by rfl) (by rfl) (by rfl) (by rfl) (fun K hK => ?_); go_big_quiet_op; refine hK _ ?_; clear hK K) | (refine wx_skipG (by rfl) (by rfl) (by rfl) (fun K hK => ?_); go_simp; refine hK _ ?_; clear hK K) | (refine wx_skipN (by rfl) (by rfl) (by rfl) (fun K hK => ?_); go_simp; refine hK _ ?_; clear hK K))
        refine wx_loudU (us := []) (by rfl) (by rfl) (fun S wS hC hS hU => ?_) (fun v hv K hK => ?_)
        · exact runs_load_mid 48 (.tmp 23) rfl b2 (off2 + k * 4) rfl (lnC y) _ (HC2.out wS hC.below) Tryz.underlying48 rfl k4 ⟨rfl, Kept.refl _ _, trivial⟩
        obtain rfl := hv; (go_simp; refine hK _ ?_; clear hK K)
        repeat (first | (refine wx_quietU (by rfl) (by rfl) (by rfl) (fun K hK => ?_); go_big_quiet_op; refine hK _ ?_; clear hK K) | (refine wx_quietG (by rfl) (by rfl) (by rfl) (by rfl) (by rfl) (fun K hK => ?_); go_big_quiet_op; refine hK _ ?_; clear hK K) | (refine wx_skipG (by rfl) (by rfl) (by rfl) (fun K hK => ?_); go_simp; refine hK _ ?_; clear hK K) | (refine wx_skipN (by rfl) (by rfl) (by rfl) (fun K hK => ?_); go_simp; refine hK _ ?_; clear hK K))
        refine wx_loudU (us := []) (by rfl) (by rfl) (fun S wS hC hS hU => ?_) (fun v hv K hK => ?_)
        · exact runs_cmp (t := 48) (x := .tmp 20) (y := .tmp 24) (xs := lnV x) (ys := lnV y) rfl rfl rfl guardLnR (HQ.out _) ⟨rfl, Kept.refl _ _, trivial⟩
        obtain rfl := hv; (go_simp; refine hK _ ?_; clear hK K)
        repeat (first | (refine wx_quietU (by rfl) (by rfl) (by rfl) (fun K hK => ?_); go_big_quiet_op; refine hK _ ?_; clear hK K) | (refine wx_quietG (by rfl) (by rfl) (by rfl) (by rfl) (by rfl) (fun K hK => ?_); go_big_quiet_op; refine hK _ ?_; clear hK K) | (refine wx_skipG (by rfl) (by rfl) (by rfl) (fun K hK => ?_); go_simp; refine hK _ ?_; clear hK K) | (refine wx_skipN (by rfl) (by rfl) (by rfl) (fun K hK => ?_); go_simp; refine hK _ ?_; clear hK K))
        refine wx_nil fun w3 hsat => ?_
        have hb3 := sat_below hsat
        have hbw3 := hbr.trans (hb3.mono hbr.size)
        clear hsat hb3 HC1 HC2 HQ
        cases B with
        | false =>
          have HE := hid (HN.out rfl)
          clear HN HS
          go_wp2_with fail
          go_ret
          exact ⟨ret_bool HE.out.symm, hbw3⟩
        | true =>
          have HO : Hid (sameTo C D (k + 1) = true) := by show _ = _; rw [HS.out, hok.out]; rfl
          clear HN HS
          go_wp2_with fail
          go_light
          exact ⟨⟨k + 1, by omega, by go_num, HO, hbw3⟩, by simp [intOf]; omega⟩
      · obtain rfl : k = n := by omega
        have HE := hid (HOK.out hok.out)
        clear HNO HST HOK hok
        go_wp2_with fail
        go_ret
        exact ⟨ret_bool HE.out.symm, hbr⟩
  · have te : ((n : Int) != (m : Int)) = true := by rw [bne_iff_ne]; omega
    have HE : Hid (sameC C D = false) := by show _ = _; unfold sameC; rw [decide_eq_false (by omega)]; rfl
    clear hl1 hl2 h1 h2 hnm
    generalize sameC C D = SC at *
    go_enter Tryz.func22, Tryz.ntmps22
    go_wp2_with fail
    go_ret
    exact ⟨ret_bool HE.out.symm, Below.refl _ _⟩
set_option maxRecDepth 100000 in
set_option maxHeartbeats 1600000 in
theorem equal_any (C D : List Ln) (A A2 : Option Addr) (n c m c2 : Nat) (w : World) (h1 : Sl w 4 (.slice A n c) (LNS C)) (h2 : Sl w 4 (.slice A2 m c2) (LNS D)) :
    Calls Tryz.prog 66 #[.slice A n c, .slice A2 m c2] w fun e w' => e = .returned (.bool (sameC C D)) ∧ Below w.heap.size w w' := by
  have hl1 := (sl_lns h1).1
  have hl2 := (sl_lns h2).1
  obtain ⟨-, hc1, hc2⟩ := sl_lns h1
  obtain ⟨-, hd1, hd2⟩ := sl_lns h2
  have HS1 := hid h1
  have HS2 := hid h2
  by_cases hnm : n = m
  · subst hnm
    have HNO : Hid (∀ k < n, lnB (lnAt C k) (lnAt D k) = false → sameC C D = false) := fun k hk h => by unfold sameC; rw [sameTo_no C D k _ (by omega) h, Bool.and_false]
    have HOK : Hid (sameTo C D n = true → sameC C D = true) := fun h => by unfold sameC; rw [hl1, hl2, h]; simp
    have HST : Hid (∀ k, sameTo C D (k + 1) = (sameTo C D k && lnB (lnAt C k) (lnAt D k))) := sameTo_succ C D
    have te : ((n : Int) != (n : Int)) = false := by simp
    clear hl1 hl2 h1 h2
    generalize sameC C D = SC at *
    go_enter Tryz.func66, Tryz.ntmps66
    go_wp2_with fail
    go_loopw [13] (fun i wr => ∃ k : Nat, k ≤ n ∧ i = .int .i64 k ∧ Hid (sameTo C D k = true) ∧ Below w.heap.size w wr) (fun i _ => n - (intOf i).toNat)
    case atStart => exact ⟨0, Nat.zero_le _, rfl, hid rfl, Below.refl _ _⟩
    case round =>
      obtain ⟨k, hk, rfl, hok, hbr⟩ := hrel
      by_cases hlt : k < n
      · obtain ⟨b, off, rfl, hbl, hcl⟩ := sl_ln (HS1.out.below hbr) hlt
        obtain ⟨b2, off2, rfl, hbl2, hcl2⟩ := sl_ln (HS2.out.below hbr) hlt
        have HC1 : Hid (∀ wS, Below wr.heap.size wr wS → wS.rangeAt b (off + k * 4) (lnC (lnAt C k))) := fun wS hb => range_below hcl hbl hb
        have HC2 : Hid (∀ wS, Below wr.heap.size wr wS → wS.rangeAt b2 (off2 + k * 4) (lnC (lnAt D k))) := fun wS hb => range_below hcl2 hbl2 hb
        have HN := hid (HNO.out k hlt)
        have HS := hid (HST.out k)
        have HQ : Hid (∀ w, (binOp .neq 29 (.agg (lnV (lnAt C k))) (.agg (lnV (lnAt D k)))).run Tryz.prog w = .ok (.bool (!lnB (lnAt C k) (lnAt D k))) w) := fun w => neqLn _ _ w
        clear hcl hcl2 HNO HST HOK
        generalize lnB (lnAt C k) (lnAt D k) = B at *
        generalize lnAt C k = x at *
        generalize lnAt D k = y at *
        go_upto_region 6 with fail
        refine wp_region_loud (fun _ => False) [(3, plainL [] (.agg (lnV x))), (7, plainL [] (.agg (lnV y))), (8, plainL [] (.bool (!B)))] (fun _ => Fact.none) (by kernel_rfl) (by kernel_rfl)
          (.cons (plainL_ok _ _) (.cons (plainL_ok _ _) (.cons (plainL_ok _ _) .nil))) good_nothing sat_none (WX.out ?_)
        repeat (first | (refine wx_quietU (by rfl) (by rfl) (by rfl) (fun K hK => ?_); go_big_quiet_op; refine hK _ ?_; clear hK K) | (refine wx_quietG (by rfl) (by rfl) (by rfl) (by rfl) (by rfl) (fun K hK => ?_); go_big_quiet_op; refine hK _ ?_; clear hK K) | (refine wx_skipG (by rfl) (by rfl) (by rfl) (fun K hK => ?_); go_simp; refine hK _ ?_; clear hK K) | (refine wx_skipN (by rfl) (by rfl) (by rfl) (fun K hK => ?_); go_simp; refine hK _ ?_; clear hK K))
        refine wx_loudU (us := []) (by rfl) (by rfl) (fun S wS hC hS hU => ?_) (fun v hv K hK => ?_)
        · exact runs_load_mid 29 (.tmp 18) rfl b (off + k * 4) rfl (lnC x) _ (HC1.out wS hC.below) Tryz.underlying29 rfl i4 ⟨rfl, Kept.refl _ _, trivial⟩
        obtain rfl := hv; (go_simp; refine hK _ ?_; clear hK K)
        repeat (first | (refine wx_quietU (by rfl) (by rfl) (by rfl) (fun K hK => ?_); go_big_quiet_op; refine hK _ ?_; clear hK K) | (refine wx_quietG (by rfl) (by rfl) (by rfl) (by rfl) (by rfl) (fun K hK => ?_); go_big_quiet_op; refine hK _ ?_; clear hK K) | (refine wx_skipG (by rfl) (by rfl) (by rfl) (fun K hK => ?_); go_simp; refine hK _ ?_; clear hK K) | (refine wx_skipN (by rfl) (by rfl) (by rfl) (fun K hK => ?_); go_simp; refine hK _ ?_; clear hK K))
        refine wx_loudU (us := []) (by rfl) (by rfl) (fun S wS hC hS hU => ?_) (fun v hv K hK => ?_)
        · exact runs_load_mid 29 (.tmp 22) rfl b2 (off2 + k * 4) rfl (lnC y) _ (HC2.out wS hC.below) Tryz.underlying29 rfl i4 ⟨rfl, Kept.refl _ _, trivial⟩
        obtain rfl := hv; (go_simp; refine hK _ ?_; clear hK K)
        repeat (first | (refine wx_quietU (by rfl) (by rfl) (by rfl) (fun K hK => ?_); go_big_quiet_op; refine hK _ ?_; clear hK K) | (refine wx_quietG (by rfl) (by rfl) (by rfl) (by rfl) (by rfl) (fun K hK => ?_); go_big_quiet_op; refine hK _ ?_; clear hK K) | (refine wx_skipG (by rfl) (by rfl) (by rfl) (fun K hK => ?_); go_simp; refine hK _ ?_; clear hK K) | (refine wx_skipN (by rfl) (by rfl) (by rfl) (fun K hK => ?_); go_simp; refine hK _ ?_; clear hK K))
        refine wx_loudU (us := []) (by rfl) (by rfl) (fun S wS hC hS hU => ?_) (fun v hv K hK => ?_)
        · exact runs_cmp (t := 29) (x := .tmp 19) (y := .tmp 23) (xs := lnV x) (ys := lnV y) rfl rfl rfl guardLn (HQ.out _) ⟨rfl, Kept.refl _ _, trivial⟩
        obtain rfl := hv; (go_simp; refine hK _ ?_; clear hK K)
        repeat (first | (refine wx_quietU (by rfl) (by rfl) (by rfl) (fun K hK => ?_); go_big_quiet_op; refine hK _ ?_; clear hK K) | (refine wx_quietG (by rfl) (by rfl) (by rfl) (by rfl) (by rfl) (fun K hK => ?_); go_big_quiet_op; refine hK _ ?_; clear hK K) | (refine wx_skipG (by rfl) (by rfl) (by rfl) (fun K hK => ?_); go_simp; refine hK _ ?_; clear hK K) | (refine wx_skipN (by rfl) (by rfl) (by rfl) (fun K hK => ?_); go_simp; refine hK _ ?_; clear hK K))
        refine wx_nil fun w3 hsat => ?_
        have hb3 := sat_below hsat
        have hbw3 := hbr.trans (hb3.mono hbr.size)
        clear hsat hb3 HC1 HC2 HQ
        cases B with
        | false =>
          have HE := hid (HN.out rfl)
          clear HN HS
          go_wp2_with fail
          go_ret
          exact ⟨ret_bool HE.out.symm, hbw3⟩
        | true =>
          have HO : Hid (sameTo C D (k + 1) = true) := by show _ = _; rw [HS.out, hok.out]; rfl
          clear HN HS
          go_wp2_with fail
          go_light
          exact ⟨⟨k + 1, by omega, by go_num, HO, hbw3⟩, by simp [intOf]; omega⟩
      · obtain rfl : k = n := by omega
        have HE := hid (HOK.out hok.out)
        clear HNO HST HOK hok
        go_wp2_with fail
        go_ret
        exact ⟨ret_bool HE.out.symm, hbr⟩
  · have te : ((n : Int) != (m : Int)) = true := by rw [bne_iff_ne]; omega
    have HE : Hid (sameC C D = false) := by show _ = _; unfold sameC; rw [decide_eq_false (by omega)]; rfl
    clear hl1 hl2 h1 h2 hnm
    generalize sameC C D = SC at *
    go_enter Tryz.func66, Tryz.ntmps66
    go_wp2_with fail
    go_ret
    exact ⟨ret_bool HE.out.symm, Below.refl _ _⟩
set_option maxRecDepth 100000 in
set_option maxHeartbeats 400000 in
theorem confSame_any (C D : List Ln) (A A2 : Option Addr) (n c m c2 : Nat) (w : World) (h1 : Sl w 4 (.slice A n c) (LNS C)) (h2 : Sl w 4 (.slice A2 m c2) (LNS D)) :
    Calls Tryz.prog 35 #[.slice A n c, .slice A2 m c2] w fun e w' => e = .returned (.bool (sameC C D)) ∧ Below w.heap.size w w' := by
  have HQ := hid (equal_any C D A A2 n c m c2 w h1 h2)
  clear h1 h2
  generalize sameC C D = SC at *
  go_enter Tryz.func35, Tryz.ntmps35
  go_wp2_with fail
  refine HQ.out.mono ?_
  rintro e w1 ⟨rfl, hb1⟩
  go_wp2_with fail
  go_ret
  exact ⟨rfl, hb1⟩
end CF
end Go.Proofs.YtecfkhgocjbocaaGreatDoor
namespace Go.Proofs.YtecfkhgocjbocaaGreatDoor
set_option linter.unusedVariables false
set_option linter.unusedSimpArgs false
open Go Go.RowKit

namespace CF
theorem ofNat_256 (n : Int) (h : 0 ≤ n ∧ n < 256) : ((UInt8.ofNat n.toNat).toNat : Int) = n := by
  rw [UInt8.toNat_ofNat', Nat.mod_eq_of_lt (by omega)]; omega
theorem bits_u8_bd (op : BinOp) (x y : Int) : 0 ≤ bits op .u8 x y ∧ bits op .u8 x y < 256 := by
  unfold bits
  dsimp only
  rw [IntKind.wrap_u8]
  omega
/-- a row of bytes, whichever -/
def AnyOwn (base n : Nat) (v : Value) : Fact := fun S w => ∃ l, OwnF base 5 1 n (B8 l) v S w
theorem good_any (base n : Nat) (v : Value) : Good (AnyOwn base n v) := fun S S' w w' h1 h2 ⟨l, h⟩ => ⟨l, good_own _ _ _ _ _ _ S S' w w' h1 h2 h⟩
theorem getC_small (b : List UInt8) : (getC b).length ≤ 64 := by
  unfold getC
  split
  · exact Nat.zero_le _
  · split
    · rename_i h; exact right_len h
    · exact Nat.zero_le _
set_option maxRecDepth 100000 in
set_option maxHeartbeats 8000000 in
theorem confGets_walk (L : List Ln) (A : Option Addr) (n c : Nat) (b0 b1 : Int) (w : World) (h : Sl w 4 (.slice A n c) (LNS L)) (hL : ∀ l ∈ L, LnOk l) (hen : Env w) :
    Calls Tryz.prog 4 #[.slice A n c, .agg #[.int .i64 b0, .int .i64 b1]] w fun e w' => e = .returned (.bool true) ∧ Below w.heap.size w w' := by
  obtain ⟨hbA, hgA, hlA⟩ := box1 w (.cells #[.int .i64 b0, .int .i64 b1] 37)
  have HEN : Hid (∀ w', Below w.heap.size w w' → Env w') := fun w' hb => hen.below hb
  have HBD := hid (build_any L A n c _ (h.below hbA) hL (hen.below hbA))
  have HBL := hid (build_lnb L)
  have HB64 : Hid ((buildC L).length ≤ 64) := right_len (build_right L 100)
  clear h hL hen
  generalize buildC L = D at *
  go_enter Tryz.func4, Tryz.ntmps4
  go_upto_region 1 with fail
  generalize w.alloc (.cells #[.int .i64 b0, .int .i64 b1] 37) = wA at *
  go_wp2_with fail
  refine HBD.out.mono ?_
  rintro e w1 ⟨⟨A1, c1, rfl, hs1⟩, hb1⟩
  have hg1 := blk_below hgA hb1 (blk_lt hgA)
  have hbw1 := hbA.trans (hb1.mono hbA.size)
  have HPT := hid (refPut_any D A1 D.length c1 w1 hs1 HBL.out (by have := HB64.out; omega))
  have HPL : Hid ((putC D).length ≤ 51200) := by
    have q1 := putC_len D HBL.out
    have q2 : D.length * 800 ≤ 64 * 800 := Nat.mul_le_mul_right _ HB64.out
    show _ ≤ _
    omega
  clear HBD hs1 hbA hb1 HBL HB64 hgA hlA
  generalize putC D = lb at *
  have hnb : ∃ nb, nb = lb.length := ⟨_, rfl⟩
  obtain ⟨nb, hnb⟩ := hnb
  rw [← hnb] at HPT HPL
  have HNB := hid hnb
  clear hnb
  go_wp2_with fail
  refine HPT.out.mono ?_
  rintro e w2 ⟨A2, c2, rfl, hown2, hb2⟩
  have hg2 := blk_below hg1 hb2 (blk_lt hg1)
  have hbw2 := hbw1.trans (hb2.mono hbw1.size)
  have hlt1 := blk_lt hg1
  clear HPT hg1 hbw1 hb2 wA
  have hnbb := HPL.out
  clear HPL
  go_upto_if 16 with fail
  go_cut [5] (fun s wx => ∃ (A : Option Addr) (n c : Nat) (l : List UInt8), s = .slice A n c ∧ Sl wx 1 (.slice A n c) (B8 l) ∧ n ≤ 1000000 ∧ Below w.heap.size w wx)
  case first =>
    rcases Nat.eq_zero_or_pos nb with hz | hz
    · subst hz
      as_aux_lemma =>
        go_wp2_with fail
        go_meet
        all_goals go_light
        exact ⟨_, _, _, _, rfl, own_sl hown2, by omega, hbw2⟩
    · obtain ⟨gB, rfl, hgB, hgB2⟩ := own_some hown2 hz
      have q0 := blkCell hg2 0
      have q1 := blkCell hg2 1
      simp at q0 q1
      have hcap := (own_sl hown2).len.2
      have en2 : IntKind.u64.wrap (nb : Int) = nb := by rw [IntKind.wrap_u64]; omega
      obtain ⟨k, hk, ek⟩ : ∃ k : Nat, k < nb ∧ wrap64 ((IntKind.u64.wrap b0).tmod (nb : Int)) = (k : Int) := by
        have h1 := Int.emod_nonneg (IntKind.u64.wrap b0) (show (nb : Int) ≠ 0 by omega)
        have h2 := Int.emod_lt_of_pos (IntKind.u64.wrap b0) (show 0 < (nb : Int) by omega)
        refine ⟨((IntKind.u64.wrap b0) % nb).toNat, by omega, ?_⟩
        rw [Int.tmod_eq_emod_of_nonneg (by rw [IntKind.wrap_u64]; omega)]
        unfold wrap64
        omega
      as_aux_lemma =>
        go_upto_if 28 with fail
        rw [ek]
        clear ek en2
        go_wp2_with fail
        · go_meet
          all_goals go_light
          exact ⟨_, k, c2, lb.take k, rfl, (own_sl hown2).take k (by omega), by omega, hbw2⟩
        · have hblt := blk_lt hg2
          have zb := fun z : WK (fun b => Value.ownBlock (.slice (some ⟨gB, 0, none⟩) nb c2) = some b) w2 => (wat_cell (p := ⟨w.heap.size, 1, none⟩) hblt (by simp [Value.ownBlock]; omega) z).trans q1
          have hklb : k < lb.length := by rw [(own_sl hown2).len.1]; exact hk
          refine wp_region_loud (fun b => Value.ownBlock (.slice (some ⟨gB, 0, none⟩) nb c2) = some b)
            [(3, loadL [100] (.int .u8 (byt lb k : Int)) (OwnF w1.heap.size 5 1 nb (B8 lb) (.slice (some ⟨gB, 0, none⟩) nb c2))), (9, keepL [3] (AnyOwn w1.heap.size nb (.slice (some ⟨gB, 0, none⟩) nb c2)))]
            (labelled 100 (OwnF w1.heap.size 5 1 nb (B8 lb) (.slice (some ⟨gB, 0, none⟩) nb c2))) (by kernel_rfl) (by kernel_rfl)
            (.cons (loadL_ok _ _ (good_own _ _ _ _ _ _)) (.cons (keepL_ok _ (good_any _ _ _)) .nil)) (good_one 100 (good_own _ _ _ _ _ _)) (sat_one 100 _ (ownF_lt hown2) (ownF_in hown2)) (WX.out ?_)
          repeat (first | (refine wx_quietU (by rfl) (by rfl) (by rfl) (fun K hK => ?_); go_big_quiet_op; refine hK _ ?_; clear hK K) | (refine wx_quietG (by rfl) (by rfl) (by rfl) (by rfl) (by rfl) (fun K hK => ?_); go_big_quiet_op; refine hK _ ?_; clear hK K) | (refine wx_skipG (by rfl) (by rfl) (by rfl) (fun K hK => ?_); go_simp; refine hK _ ?_; clear hK K) | (refine wx_skipN (by rfl) (by rfl) (by rfl) (fun K hK => ?_); go_simp; refine hK _ ?_; clear hK K))
          refine wx_loudU (us := [100]) (by rfl) (by rfl) (fun S wS hC hS hU => ?_) (fun v hv K hK => ?_)
          · have k100 : OwnF w1.heap.size 5 1 nb (B8 lb) (.slice (some ⟨gB, 0, none⟩) nb c2) S wS := hU 100 (by simp)
            obtain ⟨p0, p1⟩ := own_byte k100.2 k hk
            exact load_x (by go_simp <;> rfl) (good_own _ _ _ _ _ _) k100
          obtain rfl := hv; (go_simp; refine hK _ ?_; clear hK K)
          repeat (first | (refine wx_quietU (by rfl) (by rfl) (by rfl) (fun K hK => ?_); go_big_quiet_op; refine hK _ ?_; clear hK K) | (refine wx_quietG (by rfl) (by rfl) (by rfl) (by rfl) (by rfl) (fun K hK => ?_); go_big_quiet_op; refine hK _ ?_; clear hK K) | (refine wx_skipG (by rfl) (by rfl) (by rfl) (fun K hK => ?_); go_simp; refine hK _ ?_; clear hK K) | (refine wx_skipN (by rfl) (by rfl) (by rfl) (fun K hK => ?_); go_simp; refine hK _ ?_; clear hK K))
          refine wx_loudU (us := [3]) (by rfl) (by rfl) (fun S wS hC hS hU => ?_) (fun v hv K hK => ?_)
          · have k3 : OwnF w1.heap.size 5 1 nb (B8 lb) (.slice (some ⟨gB, 0, none⟩) nb c2) S wS := hU 3 (by simp)
            obtain ⟨p0, p1⟩ := own_byte k3.2 k hk
            refine runs_skip (by go_simp <;> rfl) ⟨trivial, ?_, ?_⟩
            · exact (Kept.refl S wS).setCell (p := ⟨gB, k, none⟩) (.inl (k3.1 gB rfl)) _
            · have hst := (k3.2.stored k (.int .u8 (bits BinOp.xor IntKind.u8 (byt lb k : Int) (b1 % 256)))).1
              rw [← ofNat_256 _ (bits_u8_bd BinOp.xor (byt lb k : Int) (b1 % 256)), B8_set] at hst
              rw [ofNat_256 _ (bits_u8_bd BinOp.xor (byt lb k : Int) (b1 % 256))] at hst
              exact (⟨lb.set k (UInt8.ofNat (bits BinOp.xor IntKind.u8 (byt lb k : Int) (b1 % 256)).toNat), fun g hg => Or.inl (k3.1 g hg), hst⟩ : AnyOwn w1.heap.size nb (.slice (some ⟨gB, 0, none⟩) nb c2) (fun b => S b ∨ (wS.heap.size ≤ b ∧ b < (wS.setCell ⟨gB, k, none⟩ (.int .u8 (bits BinOp.xor IntKind.u8 (byt lb k : Int) (b1 % 256)))).heap.size)) _)
          (go_simp; refine hK _ ?_; clear hK K)
          refine wx_nil fun wd hsat => ?_
          obtain ⟨hkd, own, hdis, hin, hfact⟩ := hsat
          obtain ⟨lz, hz9⟩ := (hfact 9 : AnyOwn w1.heap.size nb (.slice (some ⟨gB, 0, none⟩) nb c2) (own 9) wd)
          have hbd := hbw2.trans (hkd.below_of hbw2.size (fun b hb => by simp [Value.ownBlock] at hb; omega))
          clear hkd hdis hin hfact
          go_wp2_with fail
          go_meet
          all_goals go_light
          exact ⟨_, nb, c2, lz, rfl, own_sl hz9.2, by omega, hbd⟩
  case rest =>
    obtain ⟨X, m, cx, l, rfl, hsl, hm, hbx⟩ := hcut
    clear hown2 hnbb HNB hg2 hbw2 hlt1
    have HG1 := hid (Get_any l X m cx wc hsl hm (HEN.out wc hbx))
    have HG2 : Hid (∀ w', Below wc.heap.size wc w' → Calls Tryz.prog 21 #[.slice X m cx] w' fun e w'' => ConfPost (getC l) (getE l) e w'' ∧ Below w'.heap.size w' w'') := fun w' hb => refGet_any l X m cx w' (hsl.below hb) hm (HEN.out w' (hbx.trans (hb.mono hbx.size)))
    have HC64 := hid (getC_small l)
    clear hsl hm
    generalize getC l = C at *
    generalize getE l = E at *
    go_wp2_with fail
    refine HG1.out.mono ?_
    rintro e w3 ⟨⟨A3, c3, rfl, hs3⟩, hb3⟩
    have HG3 := hid (HG2.out w3 hb3)
    have HS3 := hid hs3
    have hbw3 := hbx.trans (hb3.mono hbx.size)
    clear HG1 HG2 hs3 hb3 hbx
    go_wp2_with fail
    refine HG3.out.mono ?_
    rintro e w4 ⟨⟨A4, c4, rfl, hs4⟩, hb4⟩
    have HS4 := hid hs4
    have HS34 := hid (HS3.out.below hb4)
    have hbw4 := hbw3.trans (hb4.mono hbw3.size)
    have HWR := hid (writes_any w4 (HEN.out w4 hbw4))
    clear HG3 hs4 hb4 hbw3 HS3
    go_wp2_with fail
    refine HWR.out.mono ?_
    rintro e w5 ⟨rfl, hb5⟩
    have HS5 := hid (HS4.out.below hb5)
    have HF5 := hid (from_any C A3 C.length c3 w5 (HS34.out.below hb5) (by have := HC64.out; omega))
    have hbw5 := hbw4.trans (hb5.mono hbw4.size)
    have qt : ((E : Int) == E) = true := by simp
    clear HWR HS4 HS34 hb5 hbw4 HC64
    go_wp2_with fail
    refine HF5.out.mono ?_
    rintro e w6 ⟨A6, c6, rfl, ho6, hb6⟩
    have HSM := hid (refSame_any C C A6 A4 C.length c6 C.length c4 w6 (own_sl ho6) (HS5.out.below hb6))
    rw [sameC_refl] at HSM
    have hbw6 := hbw5.trans (hb6.mono hbw5.size)
    clear HF5 HS5 hb6 hbw5 ho6
    go_wp2_with fail
    refine HSM.out.mono ?_
    rintro e w7 ⟨rfl, hb7⟩
    have hbw7 := hbw6.trans (hb7.mono hbw6.size)
    clear HSM hb7 hbw6
    go_wp2_with fail
    go_ret
    exact ⟨rfl, hbw7⟩
end CF
end Go.Proofs.YtecfkhgocjbocaaGreatDoor
