/-
  Contracts of package conf: the order of two lines.
-/
import Derived.Test.YtecfkhgocjbocaaGreatDoorCfM
import Derived.Test.YtecfkhgocjbocaaGreatDoorPr2
import Derived.Lib.SliceRun
namespace Go.Proofs.YtecfkhgocjbocaaGreatDoor
set_option linter.unusedVariables false
set_option linter.unusedSimpArgs false
open Go Go.RowKit

namespace CF
theorem i4 : (Tryz.prog.info? 29).map (·.size) = some 4 := by kernel_rfl
theorem k4 : (Tryz.prog.info? 48).map (·.size) = some 4 := by kernel_rfl
theorem i8 : (Tryz.prog.info? 93).map (·.size) = some 8 := by kernel_rfl
theorem k8 : (Tryz.prog.info? 102).map (·.size) = some 8 := by kernel_rfl
theorem grown1 {w w0 wz : World} {g : Nat} (hb : Below w.heap.size w w0) (hg : w0.grownBy wz (some g)) (h : w.heap.size ≤ g) : Below w.heap.size w wz := hb.trans ((Below.refl w.heap.size w0).grown hg hb.size (by intro k hk; injection hk with hk; omega))
theorem findR_kind (head : Int) (name : List UInt8) : (findR head name).1.kind = 0 ∨ (findR head name).1.kind = 1 ∨ (findR head name).1.kind = 2 ∨ (findR head name).1.kind = 3 ∨ (findR head name).1.kind = 4 := by
  unfold findR
  cases hf : TAB.find? (isR head name) with
  | none => exact .inl rfl
  | some r =>
    obtain ⟨j, hj, he⟩ := List.getElem_of_mem (List.mem_of_find?_eq_some hf)
    have := tab_kind j
    unfold tabAt at this
    rw [List.getD_eq_getElem?_getD, List.getElem?_eq_getElem hj, he] at this
    exact this
set_option maxRecDepth 100000 in
set_option maxHeartbeats 400000 in
theorem nanInt_any (x : Int) (w : World) :
    Calls Tryz.prog 103 #[.int .i64 x] w fun e w' => e = .returned (.bool false) ∧ w' = w := by
  go_enter Tryz.func103, Tryz.ntmps103
  go_wp2_with fail
  go_ret
  exact ⟨ret_bool (by simp), rfl⟩
set_option maxRecDepth 100000 in
set_option maxHeartbeats 800000 in
theorem cmpInt_any (x y : Int) (w : World) :
    Calls Tryz.prog 73 #[.int .i64 x, .int .i64 y] w fun e w' => e = .returned (.int .i64 (cmpZ x y)) ∧ w' = w := by
  unfold cmpZ
  by_cases h1 : x < y
  · rw [if_pos h1]
    go_enter Tryz.func73, Tryz.ntmps73
    go_wp2_with (go_at_call 103; refine (nanInt_any _ _).mono ?_; rintro e w' ⟨rfl, rfl⟩)
    go_ret
    exact ⟨rfl, rfl⟩
  · rw [if_neg h1]
    by_cases h2 : y < x
    · rw [if_pos h2]
      go_enter Tryz.func73, Tryz.ntmps73
      go_wp2_with (go_at_call 103; refine (nanInt_any _ _).mono ?_; rintro e w' ⟨rfl, rfl⟩)
      go_ret
      exact ⟨rfl, rfl⟩
    · rw [if_neg h2]
      go_enter Tryz.func73, Tryz.ntmps73
      go_wp2_with (go_at_call 103; refine (nanInt_any _ _).mono ?_; rintro e w' ⟨rfl, rfl⟩)
      go_ret
      exact ⟨rfl, rfl⟩
set_option maxRecDepth 100000 in
set_option maxHeartbeats 1600000 in
theorem or3_any (A : Option Addr) (c : Nat) (x y z : Int) (w : World) (h : Sl w 1 (.slice A 3 c) [.int .i64 x, .int .i64 y, .int .i64 z]) :
    Calls Tryz.prog 72 #[.slice A 3 c] w fun e w' => e = .returned (.int .i64 (if x = 0 then (if y = 0 then z else y) else x)) ∧ Below w.heap.size w w' := by
  obtain ⟨A', n', c', he, hl, _, _, h⟩ := h
  injection he with e1 e2 e3
  subst e1; subst e2; subst e3
  obtain ⟨b, off, rfl, hb, h⟩ := h (by omega)
  have h0 : w.cell? ⟨b, off, none⟩ = some (.int .i64 x) := h 0 (by omega)
  have h1 : w.cell? ⟨b, off + 1, none⟩ = some (.int .i64 y) := h 1 (by omega)
  have h2 : w.cell? ⟨b, off + 2, none⟩ = some (.int .i64 z) := h 2 (by omega)
  clear h hl
  go_enter Tryz.func72, Tryz.ntmps72
  go_wp2_with fail
  go_loop [8] (fun i => i = .int .i64 0 ∨ (i = .int .i64 1 ∧ x = 0) ∨ (i = .int .i64 2 ∧ x = 0 ∧ y = 0) ∨ (i = .int .i64 3 ∧ x = 0 ∧ y = 0 ∧ z = 0)) (fun i => 3 - (intOf i).toNat)
  case atStart => exact .inl rfl
  case round =>
    rcases hrel with rfl | ⟨rfl, hx⟩ | ⟨rfl, hx, hy⟩ | ⟨rfl, hx, hy, hz⟩
    · by_cases hx : x = 0
      · subst hx
        go_wp2_with fail
        exact ⟨by first | exact .inr (.inl ⟨rfl, rfl⟩) | simp, by first | decide | simp [intOf]⟩
      ·
        go_wp2_with fail
        go_ret
        exact ⟨by simp [*], by (repeat (first | with_reducible exact Below.refl _ _ | with_reducible assumption | with_reducible refine Below.drew ?_ | with_reducible refine below_drewN ?_ _ | (with_reducible refine Below.alloc ?_ ?_ _; rotate_left; · (first | (simp; done) | omega | (simp at *; omega))) | (with_reducible refine Below.setCell ?_ ?_ _; rotate_left; · (first | (simp only []; omega) | (simp; done) | (simp; omega))) | with_reducible refine Below.trans ?_ (by with_reducible assumption)))⟩
    · subst hx
      by_cases hy : y = 0
      · subst hy
        go_wp2_with fail
        exact ⟨by first | exact .inr (.inr (.inl ⟨rfl, rfl, rfl⟩)) | simp, by first | decide | simp [intOf]⟩
      ·
        go_wp2_with fail
        go_ret
        exact ⟨by simp [*], by (repeat (first | with_reducible exact Below.refl _ _ | with_reducible assumption | with_reducible refine Below.drew ?_ | with_reducible refine below_drewN ?_ _ | (with_reducible refine Below.alloc ?_ ?_ _; rotate_left; · (first | (simp; done) | omega | (simp at *; omega))) | (with_reducible refine Below.setCell ?_ ?_ _; rotate_left; · (first | (simp only []; omega) | (simp; done) | (simp; omega))) | with_reducible refine Below.trans ?_ (by with_reducible assumption)))⟩
    · subst hx; subst hy
      by_cases hz : z = 0
      · subst hz
        go_wp2_with fail
        exact ⟨by first | exact .inr (.inr (.inr ⟨rfl, rfl, rfl, rfl⟩)) | simp, by first | decide | simp [intOf]⟩
      ·
        go_wp2_with fail
        go_ret
        exact ⟨by simp [*], by (repeat (first | with_reducible exact Below.refl _ _ | with_reducible assumption | with_reducible refine Below.drew ?_ | with_reducible refine below_drewN ?_ _ | (with_reducible refine Below.alloc ?_ ?_ _; rotate_left; · (first | (simp; done) | omega | (simp at *; omega))) | (with_reducible refine Below.setCell ?_ ?_ _; rotate_left; · (first | (simp only []; omega) | (simp; done) | (simp; omega))) | with_reducible refine Below.trans ?_ (by with_reducible assumption)))⟩
    · subst hx; subst hy; subst hz
      go_wp2_with fail
      go_ret
      exact ⟨by simp [*], by (repeat (first | with_reducible exact Below.refl _ _ | with_reducible assumption | with_reducible refine Below.drew ?_ | with_reducible refine below_drewN ?_ _ | (with_reducible refine Below.alloc ?_ ?_ _; rotate_left; · (first | (simp; done) | omega | (simp at *; omega))) | (with_reducible refine Below.setCell ?_ ?_ _; rotate_left; · (first | (simp only []; omega) | (simp; done) | (simp; omega))) | with_reducible refine Below.trans ?_ (by with_reducible assumption)))⟩
theorem strCmp_any (a b : List UInt8) (w : World) : Calls Tryz.prog 74 #[.string (S8 a), .string (S8 b)] w fun e w' => e = .returned (.int .i64 (cmpT a b)) ∧ w' = w :=
  Any.strings_Compare Tryz.lays106 (S8 a) (S8 b) w
set_option maxRecDepth 100000 in
set_option maxHeartbeats 1600000 in
theorem order_any (a b : Ln) (w : World) :
    Calls Tryz.prog 52 #[.agg (lnV a), .agg (lnV b)] w fun e w' => e = .returned (.int .i64 (ordL a b)) ∧ Below w.heap.size w w' := by
  obtain ⟨h1, n1, l1, v1⟩ := a
  obtain ⟨h2, n2, l2, v2⟩ := b
  show Calls _ _ #[.agg #[.int .i64 h1, .string (S8 n1), .string (S8 l1), .string (S8 v1)], .agg #[.int .i64 h2, .string (S8 n2), .string (S8 l2), .string (S8 v2)]] _ _
  have hX := fun w => cmpInt_any h1 h2 w
  have hY := fun w => strCmp_any n1 n2 w
  have hZ := fun w => strCmp_any l1 l2 w
  have hO : ordL ⟨h1, n1, l1, v1⟩ ⟨h2, n2, l2, v2⟩ = if cmpZ h1 h2 = 0 then (if cmpT n1 n2 = 0 then cmpT l1 l2 else cmpT n1 n2) else cmpZ h1 h2 := rfl
  rw [hO]
  clear hO
  generalize cmpZ h1 h2 = x at *
  generalize cmpT n1 n2 = y at *
  generalize cmpT l1 l2 = z at *
  have hOr : ∀ A c w, Sl w 1 (.slice A 3 c) [.int .i64 x, .int .i64 y, .int .i64 z] → Calls Tryz.prog 72 #[.slice A 3 c] w fun e w' => e = .returned (.int .i64 (if x = 0 then (if y = 0 then z else y) else x)) ∧ Below w.heap.size w w' := fun A c w h => or3_any A c x y z w h
  generalize (if x = 0 then (if y = 0 then z else y) else x) = o at *
  have HO := hid hOr
  clear hOr
  have HX := hid hX
  have HY := hid hY
  have HZ := hid hZ
  clear hX hY hZ
  generalize S8 n1 = t1 at *
  generalize S8 n2 = t2 at *
  generalize S8 l1 = f1 at *
  generalize S8 l2 = f2 at *
  generalize S8 v1 = u1 at *
  generalize S8 v2 = u2 at *
  obtain ⟨hb0, hx0, hl0⟩ := box1 w (.cells #[.int .i64 h1, .string t1, .string f1, .string u1] 29)
  obtain ⟨hb1, hx1, hl1⟩ := box1 (w.alloc (.cells #[.int .i64 h1, .string t1, .string f1, .string u1] 29)) (.cells #[.int .i64 h2, .string t2, .string f2, .string u2] 29)
  have hp1 := blk_below hx0 hb1 hl0
  have hbw := hb0.trans (hb1.mono hb0.size)
  have hsz : (w.alloc (.cells #[.int .i64 h1, .string t1, .string f1, .string u1] 29)).heap.size = w.heap.size + 1 := by simp
  rw [hsz] at hx1
  have HW := hid (And.intro hx1 (And.intro hp1 hbw))
  clear hx1 hp1 hbw hb0 hx0 hl0 hb1 hl1 hsz
  go_enter Tryz.func52, Tryz.ntmps52
  go_upto_region 1 with fail
  generalize (w.alloc (.cells #[.int .i64 h1, .string t1, .string f1, .string u1] 29)).alloc (.cells #[.int .i64 h2, .string t2, .string f2, .string u2] 29) = w1 at *
  obtain ⟨hba, hbb, hbw⟩ := HW.out
  clear HW
  have la := blk_lt hba
  have lb := blk_lt hbb
  have za := fun (z : WK (fun _ => False) w1) i => (wat_cell (p := ⟨w.heap.size, i, none⟩) lb (by simp) z).trans (blkCell hbb i)
  have zb := fun (z : WK (fun _ => False) w1) i => (wat_cell (p := ⟨w.heap.size + 1, i, none⟩) la (by simp) z).trans (blkCell hba i)
  have za0 := fun z => za z 0
  have za1 := fun z => za z 1
  have za2 := fun z => za z 2
  have zb0 := fun z => zb z 0
  have zb1 := fun z => zb z 1
  have zb2 := fun z => zb z 2
  clear za zb
  simp only [List.getElem?_toArray, List.getElem?_cons_zero, List.getElem?_cons_succ] at za0 za1 za2 zb0 zb1 zb2
  refine wp_region_loud (fun _ => False)
      [(4, plainL [] (.int .i64 x)), (9, plainL [] (.int .i64 y)), (14, plainL [] (.int .i64 z)), (15, rowL [] w1.heap.size 3 1 3 [.int .i64 x, .int .i64 y, .int .i64 z]),
       (16, plainL [15] (.int .i64 o))]
      (fun _ => Fact.none) (by kernel_rfl) (by kernel_rfl)
      (.cons (plainL_ok _ _) (.cons (plainL_ok _ _) (.cons (plainL_ok _ _) (.cons (rowL_ok _ _ _ _ _ _) (.cons (plainL_ok _ _) .nil))))) good_nothing sat_none (WX.out ?_)
  repeat (first | (refine wx_quietU (by rfl) (by rfl) (by rfl) (fun K hK => ?_); go_big_quiet_op; refine hK _ ?_; clear hK K) | (refine wx_quietG (by rfl) (by rfl) (by rfl) (by rfl) (by rfl) (fun K hK => ?_); go_big_quiet_op; refine hK _ ?_; clear hK K) | (refine wx_skipG (by rfl) (by rfl) (by rfl) (fun K hK => ?_); go_simp; refine hK _ ?_; clear hK K) | (refine wx_skipN (by rfl) (by rfl) (by rfl) (fun K hK => ?_); go_simp; refine hK _ ?_; clear hK K))
  refine wx_loudU (us := []) (by rfl) (by rfl) (fun S wS hC hS hU => runs_enter (f := 73) (by go_simp <;> rfl) ?_) (fun v hv K hK => ?_)
  · refine (HX.out wS).mono ?_
    rintro e w' ⟨rfl, rfl⟩
    exact ⟨_, rfl, rfl, Kept.refl _ _, trivial⟩
  obtain rfl := hv; (go_simp; refine hK _ ?_; clear hK K)
  repeat (first | (refine wx_quietU (by rfl) (by rfl) (by rfl) (fun K hK => ?_); go_big_quiet_op; refine hK _ ?_; clear hK K) | (refine wx_quietG (by rfl) (by rfl) (by rfl) (by rfl) (by rfl) (fun K hK => ?_); go_big_quiet_op; refine hK _ ?_; clear hK K) | (refine wx_skipG (by rfl) (by rfl) (by rfl) (fun K hK => ?_); go_simp; refine hK _ ?_; clear hK K) | (refine wx_skipN (by rfl) (by rfl) (by rfl) (fun K hK => ?_); go_simp; refine hK _ ?_; clear hK K))
  refine wx_loudU (us := []) (by rfl) (by rfl) (fun S wS hC hS hU => runs_enter (f := 74) (by go_simp <;> rfl) ?_) (fun v hv K hK => ?_)
  · refine (HY.out wS).mono ?_
    rintro e w' ⟨rfl, rfl⟩
    exact ⟨_, rfl, rfl, Kept.refl _ _, trivial⟩
  obtain rfl := hv; (go_simp; refine hK _ ?_; clear hK K)
  repeat (first | (refine wx_quietU (by rfl) (by rfl) (by rfl) (fun K hK => ?_); go_big_quiet_op; refine hK _ ?_; clear hK K) | (refine wx_quietG (by rfl) (by rfl) (by rfl) (by rfl) (by rfl) (fun K hK => ?_); go_big_quiet_op; refine hK _ ?_; clear hK K) | (refine wx_skipG (by rfl) (by rfl) (by rfl) (fun K hK => ?_); go_simp; refine hK _ ?_; clear hK K) | (refine wx_skipN (by rfl) (by rfl) (by rfl) (fun K hK => ?_); go_simp; refine hK _ ?_; clear hK K))
  refine wx_loudU (us := []) (by rfl) (by rfl) (fun S wS hC hS hU => runs_enter (f := 74) (by go_simp <;> rfl) ?_) (fun v hv K hK => ?_)
  · refine (HZ.out wS).mono ?_
    rintro e w' ⟨rfl, rfl⟩
    exact ⟨_, rfl, rfl, Kept.refl _ _, trivial⟩
  obtain rfl := hv; (go_simp; refine hK _ ?_; clear hK K)
  repeat (first | (refine wx_quietU (by rfl) (by rfl) (by rfl) (fun K hK => ?_); go_big_quiet_op; refine hK _ ?_; clear hK K) | (refine wx_quietG (by rfl) (by rfl) (by rfl) (by rfl) (by rfl) (fun K hK => ?_); go_big_quiet_op; refine hK _ ?_; clear hK K) | (refine wx_skipG (by rfl) (by rfl) (by rfl) (fun K hK => ?_); go_simp; refine hK _ ?_; clear hK K) | (refine wx_skipN (by rfl) (by rfl) (by rfl) (fun K hK => ?_); go_simp; refine hK _ ?_; clear hK K))
  refine wx_loudU (us := []) (by rfl) (by rfl) (fun S wS hC hS hU => ?_) (fun v hv K hK => ?_)
  · refine runs_value (by go_simp <;> rfl) (made_x rfl hC.size ?_ (by simp) (by omega) (by omega))
    simp
  obtain ⟨A9, c9, rfl⟩ := hv; (go_simp; refine hK _ ?_; clear hK K)
  repeat (first | (refine wx_quietU (by rfl) (by rfl) (by rfl) (fun K hK => ?_); go_big_quiet_op; refine hK _ ?_; clear hK K) | (refine wx_quietG (by rfl) (by rfl) (by rfl) (by rfl) (by rfl) (fun K hK => ?_); go_big_quiet_op; refine hK _ ?_; clear hK K) | (refine wx_skipG (by rfl) (by rfl) (by rfl) (fun K hK => ?_); go_simp; refine hK _ ?_; clear hK K) | (refine wx_skipN (by rfl) (by rfl) (by rfl) (fun K hK => ?_); go_simp; refine hK _ ?_; clear hK K))
  refine wx_loudU (us := [15]) (by rfl) (by rfl) (fun S wS hC hS hU => runs_enter (f := 72) (by go_simp <;> rfl) ?_) (fun v hv K hK => ?_)
  · have k15 : OwnF w1.heap.size 3 1 3 [.int .i64 x, .int .i64 y, .int .i64 z] (.slice A9 3 c9) S wS := hU 15 (by simp)
    refine (HO.out A9 c9 wS (own_sl k15.2)).mono ?_
    rintro e w' ⟨rfl, hb⟩
    exact ⟨_, rfl, rfl, Kept.of_below hb, trivial⟩
  obtain rfl := hv; (go_simp; refine hK _ ?_; clear hK K)
  repeat (first | (refine wx_quietU (by rfl) (by rfl) (by rfl) (fun K hK => ?_); go_big_quiet_op; refine hK _ ?_; clear hK K) | (refine wx_quietG (by rfl) (by rfl) (by rfl) (by rfl) (by rfl) (fun K hK => ?_); go_big_quiet_op; refine hK _ ?_; clear hK K) | (refine wx_skipG (by rfl) (by rfl) (by rfl) (fun K hK => ?_); go_simp; refine hK _ ?_; clear hK K) | (refine wx_skipN (by rfl) (by rfl) (by rfl) (fun K hK => ?_); go_simp; refine hK _ ?_; clear hK K))
  refine wx_nil fun w2 hsat => ?_
  have hb2 := sat_below hsat
  have hbw2 := hbw.trans (hb2.mono hbw.size)
  clear hsat za0 za1 za2 zb0 zb1 zb2
  go_wp2_with fail
  go_ret
  exact ⟨rfl, hbw2⟩
set_option maxRecDepth 100000 in
set_option maxHeartbeats 400000 in
theorem less_any (a b : Ln) (w : World) :
    Calls Tryz.prog 45 #[.agg (lnV a), .agg (lnV b)] w fun e w' => e = .returned (.bool (lessL a b)) ∧ Below w.heap.size w w' := by
  have HL : Hid (lessL a b = decide (ordL a b < 0)) := rfl
  have HO : Hid (∀ w, Calls Tryz.prog 52 #[.agg (lnV a), .agg (lnV b)] w fun e w' => e = .returned (.int .i64 (ordL a b)) ∧ Below w.heap.size w w') := fun w => order_any a b w
  generalize ordL a b = o at *
  generalize lessL a b = lb at *
  obtain ⟨h1, n1, l1, v1⟩ := a
  obtain ⟨h2, n2, l2, v2⟩ := b
  obtain ⟨hb0, hx0, hl0⟩ := box1 w (.cells (lnV ⟨h1, n1, l1, v1⟩) 29)
  obtain ⟨hb1, hx1, hl1⟩ := box1 (w.alloc (.cells (lnV ⟨h1, n1, l1, v1⟩) 29)) (.cells (lnV ⟨h2, n2, l2, v2⟩) 29)
  have hp1 := blk_below hx0 hb1 hl0
  have hbw := hb0.trans (hb1.mono hb0.size)
  have hsz : (w.alloc (.cells (lnV ⟨h1, n1, l1, v1⟩) 29)).heap.size = w.heap.size + 1 := by simp
  rw [hsz] at hx1
  have HW := hid (And.intro hx1 (And.intro hp1 hbw))
  clear hx1 hp1 hbw hb0 hx0 hl0 hb1 hl1 hsz
  go_enter Tryz.func45, Tryz.ntmps45
  go_upto_region 1 with fail
  generalize (w.alloc (.cells (lnV ⟨h1, n1, l1, v1⟩) 29)).alloc (.cells (lnV ⟨h2, n2, l2, v2⟩) 29) = w1 at *
  obtain ⟨hba, hbb, hbw⟩ := HW.out
  clear HW
  go_wp2_with (first | refine wpList_load_row rfl 29 (.tmp 2) rfl w.heap.size rfl 29 (lnV ⟨h1, n1, l1, v1⟩) (0, 0) _ hbb Tryz.underlying29 rfl i4 ?_ | refine wpList_load_row rfl 29 (.tmp 3) rfl (w.heap.size + 1) rfl 29 (lnV ⟨h2, n2, l2, v2⟩) (0, 0) _ hba Tryz.underlying29 rfl i4 ?_)
  refine (HO.out w1).mono ?_
  rintro e w' ⟨rfl, hb⟩
  have hbw2 := hbw.trans (hb.mono hbw.size)
  clear hbw hba hbb
  go_wp2_with fail
  go_ret
  exact ⟨ret_bool HL.out.symm, hbw2⟩
end CF
end Go.Proofs.YtecfkhgocjbocaaGreatDoor
