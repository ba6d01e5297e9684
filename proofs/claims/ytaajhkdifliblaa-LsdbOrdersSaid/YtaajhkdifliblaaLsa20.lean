/-
  The walk of the law LsaAlike.
-/
import Derived.Test.YtaajhkdifliblaaLsa18
import Derived.Test.YtaajhkdifliblaaLsa19
namespace Go.Proofs.Ytaajhkdifliblaa
set_option linter.unusedVariables false
set_option linter.unusedSimpArgs false
open Go Go.RowKit SM LM

/-- two facts out of one region -/
theorem lsaF_out {L : Lsa} {B1 : Option Addr} {m1 d1 : Nat} {B2 : Option Addr} {m2 d2 : Nat} {S : Nat → Prop} {w : World} (h : LsaF L (.agg (lsaC L B1 m1 d1 B2 m2 d2)) S w) : IsLsa w L B1 m1 d1 B2 m2 d2 := by
  obtain ⟨B1', m1', d1', B2', m2', d2', he, hI, _⟩ := h
  injection he with he
  simp at he
  obtain ⟨⟨rfl, rfl, rfl⟩, rfl, rfl, rfl⟩ := he
  exact hI
set_option maxRecDepth 100000 in
set_option maxHeartbeats 3200000 in
theorem lsaAlike_no (a b : Lsa) (A1 : Option Addr) (n1 c1 : Nat) (A2 : Option Addr) (n2 c2 : Nat) (B1 : Option Addr) (m1 d1 : Nat) (B2 : Option Addr) (m2 d2 : Nat) (w : World) (ha : IsLsa w a A1 n1 c1 A2 n2 c2) (hb : IsLsa w b B1 m1 d1 B2 m2 d2)
    (hn1 : n1 * 24 ≤ 140737488355328) (hn2 : n2 * 4 ≤ 140737488355328) (hm1 : m1 * 24 ≤ 140737488355328) (hm2 : m2 * 4 ≤ 140737488355328) :
    Calls Try.prog 10 #[.agg (lsaC a A1 n1 c1 A2 n2 c2), .agg (lsaC b B1 m1 d1 B2 m2 d2), .bool false] w fun e w' => e = .returned (.bool true) ∧ Below w.heap.size w w' := by
  go_enter Try.func10, Try.ntmps10
  go_wp2_with fail
  have hbw := ((Below.refl w.heap.size w).alloc (Nat.le_refl _) (.cells (lsaC a A1 n1 c1 A2 n2 c2) 75)).alloc (by simp) (.cells (lsaC b B1 m1 d1 B2 m2 d2) 75)
  have hba := blk_alloc (heap_alloc_new w (.cells (lsaC a A1 n1 c1 A2 n2 c2) 75)) (.cells (lsaC b B1 m1 d1 B2 m2 d2) 75)
  have hbb' := heap_alloc_new (w.alloc (.cells (lsaC a A1 n1 c1 A2 n2 c2) 75)) (.cells (lsaC b B1 m1 d1 B2 m2 d2) 75)
  rw [show (w.alloc (.cells (lsaC a A1 n1 c1 A2 n2 c2) 75)).heap.size = w.heap.size + 1 by simp] at hbb'
  have hs1 : ((w.alloc (.cells (lsaC a A1 n1 c1 A2 n2 c2) 75)).alloc (.cells (lsaC b B1 m1 d1 B2 m2 d2) 75)).heap.size = w.heap.size + 2 := by simp
  have hs1' := Nat.le_of_eq hs1.symm
  replace ha := ha.below hbw
  replace hb := hb.below hbw
  clear hs1
  generalize (w.alloc (.cells (lsaC a A1 n1 c1 A2 n2 c2) 75)).alloc (.cells (lsaC b B1 m1 d1 B2 m2 d2) 75) = w1 at *
  have za := fun (z : WK (fun _ => False) w1) i => (wat_cell (p := ⟨w.heap.size, i, none⟩) (by simp; omega) (by simp) z).trans ((blk_cells hba).1 i)
  have zb := fun (z : WK (fun _ => False) w1) i => (wat_cell (p := ⟨w.heap.size + 1, i, none⟩) (by simp; omega) (by simp) z).trans ((blk_cells hbb').1 i)
  generalize hD : decide (tells a b) = D at *
  have HD := hid hD
  clear hD
  have hta : Hid (decide (tells a a) = true) := by show _ = _; rw [decide_eq_true_iff]; exact ⟨rfl, rfl, rfl, rfl, rfl, rfl, rfl⟩
  refine wp_region_loud (fun _ => False)
    [(0, plainL [] (.bool true)), (3, lsaL [] a), (5, lsaL [] b), (6, plainL [3, 5] (.bool D)), (9, plainL [] (.bool D)), (11, plainL [] (.bool true)), (14, lsaL [] a), (16, lsaL [] a), (17, plainL [14, 16] (.bool true)), (18, plainL [] (.bool true))]
    (fun _ => Fact.none) (by kernel_rfl) (by kernel_rfl)
    (.cons (plainL_ok _ _) (.cons (lsaL_ok _ _) (.cons (lsaL_ok _ _) (.cons (plainL_ok _ _) (.cons (plainL_ok _ _) (.cons (plainL_ok _ _) (.cons (lsaL_ok _ _) (.cons (lsaL_ok _ _) (.cons (plainL_ok _ _) (.cons (plainL_ok _ _) .nil)))))))))) good_nothing sat_none ?_
  repeat (refine wpX_quiet (by rfl) (by rfl) (by rfl) (fun K hK => ?_); go_big_quiet_op; refine hK _ ?_; clear hK K)
  refine wpX_loud (us := []) (by rfl) (by rfl) (fun S wS hC hS hU => runs_enter (f := 43) (by go_simp <;> rfl) ?_) (fun v hv K hK => ?_)
  · refine (puts_any wS).mono ?_
    rintro e w' ⟨rfl, hb⟩
    exact ⟨_, rfl, rfl, Kept.of_below hb, trivial⟩
  obtain rfl := hv; (go_simp; refine hK _ ?_; clear hK K)
  repeat (refine wpX_quiet (by rfl) (by rfl) (by rfl) (fun K hK => ?_); go_big_quiet_op; refine hK _ ?_; clear hK K)
  refine wpX_loud (us := []) (by rfl) (by rfl) (fun S wS hC hS hU => runs_enter (f := 41) (by go_simp <;> rfl) ?_) (fun v hv K hK => ?_)
  · refine (to1 a A1 n1 c1 A2 n2 c2 wS (ha.below hC.below) hn1 hn2).mono ?_
    rintro e w' ⟨_, _, _, _, _, _, rfl, hI, hb, hfA, hfB⟩
    exact ⟨_, rfl, ⟨_, _, _, _, _, _, rfl⟩, Kept.of_below hb, lsaF_of hI hfA hfB⟩
  obtain ⟨P1, p1, q1, P2, p2, q2, rfl⟩ := hv; (go_simp; refine hK _ ?_; clear hK K)
  repeat (refine wpX_quiet (by rfl) (by rfl) (by rfl) (fun K hK => ?_); go_big_quiet_op; refine hK _ ?_; clear hK K)
  refine wpX_loud (us := []) (by rfl) (by rfl) (fun S wS hC hS hU => runs_enter (f := 41) (by go_simp <;> rfl) ?_) (fun v hv K hK => ?_)
  · refine (to1 b B1 m1 d1 B2 m2 d2 wS (hb.below hC.below) hm1 hm2).mono ?_
    rintro e w' ⟨_, _, _, _, _, _, rfl, hI, hb, hfA, hfB⟩
    exact ⟨_, rfl, ⟨_, _, _, _, _, _, rfl⟩, Kept.of_below hb, lsaF_of hI hfA hfB⟩
  obtain ⟨R1, r1, s1, R2, r2, s2, rfl⟩ := hv; (go_simp; refine hK _ ?_; clear hK K)
  repeat (refine wpX_quiet (by rfl) (by rfl) (by rfl) (fun K hK => ?_); go_big_quiet_op; refine hK _ ?_; clear hK K)
  refine wpX_loud (us := [3, 5]) (by rfl) (by rfl) (fun S wS hC hS hU => runs_enter (f := 52) (by go_simp <;> rfl) ?_) (fun v hv K hK => ?_)
  · refine (alike_any a b P1 p1 q1 P2 p2 q2 R1 r1 s1 R2 r2 s2 wS (lsaF_out (hU 3 (by simp))) (lsaF_out (hU 5 (by simp)))).mono ?_
    rintro e w' ⟨rfl, hb⟩
    rw [HD.out]
    exact ⟨_, rfl, rfl, Kept.of_below hb, trivial⟩
  obtain rfl := hv; (go_simp; refine hK _ ?_; clear hK K)
  repeat (refine wpX_quiet (by rfl) (by rfl) (by rfl) (fun K hK => ?_); go_big_quiet_op; refine hK _ ?_; clear hK K)
  refine wpX_loud (us := []) (by rfl) (by rfl) (fun S wS hC hS hU => runs_enter (f := 53) (by go_simp <;> rfl) ?_) (fun v hv K hK => ?_)
  · refine (refAlike_any a b A1 n1 c1 A2 n2 c2 B1 m1 d1 B2 m2 d2 wS (ha.below hC.below) (hb.below hC.below)).mono ?_
    rintro e w' ⟨rfl, hb⟩
    rw [HD.out]
    exact ⟨_, rfl, rfl, Kept.of_below hb, trivial⟩
  obtain rfl := hv; (go_simp; refine hK _ ?_; clear hK K)
  repeat (refine wpX_quiet (by rfl) (by rfl) (by rfl) (fun K hK => ?_); go_big_quiet_op; refine hK _ ?_; clear hK K)
  refine wpX_loud (us := []) (by rfl) (by rfl) (fun S wS hC hS hU => ?_) (fun v hv K hK => ?_)
  · exact runs_value (by go_simp <;> rfl) ⟨rfl, Kept.refl _ _, trivial⟩
  obtain rfl := hv; (go_simp; refine hK _ ?_; clear hK K)
  repeat (refine wpX_quiet (by rfl) (by rfl) (by rfl) (fun K hK => ?_); go_big_quiet_op; refine hK _ ?_; clear hK K)
  refine wpX_loud (us := []) (by rfl) (by rfl) (fun S wS hC hS hU => runs_enter (f := 41) (by go_simp <;> rfl) ?_) (fun v hv K hK => ?_)
  · refine (to1 a A1 n1 c1 A2 n2 c2 wS (ha.below hC.below) hn1 hn2).mono ?_
    rintro e w' ⟨_, _, _, _, _, _, rfl, hI, hb, hfA, hfB⟩
    exact ⟨_, rfl, ⟨_, _, _, _, _, _, rfl⟩, Kept.of_below hb, lsaF_of hI hfA hfB⟩
  obtain ⟨T1, t1, y1, T2, t2, y2, rfl⟩ := hv; (go_simp; refine hK _ ?_; clear hK K)
  repeat (refine wpX_quiet (by rfl) (by rfl) (by rfl) (fun K hK => ?_); go_big_quiet_op; refine hK _ ?_; clear hK K)
  refine wpX_loud (us := []) (by rfl) (by rfl) (fun S wS hC hS hU => runs_enter (f := 41) (by go_simp <;> rfl) ?_) (fun v hv K hK => ?_)
  · refine (to1 a A1 n1 c1 A2 n2 c2 wS (ha.below hC.below) hn1 hn2).mono ?_
    rintro e w' ⟨_, _, _, _, _, _, rfl, hI, hb, hfA, hfB⟩
    exact ⟨_, rfl, ⟨_, _, _, _, _, _, rfl⟩, Kept.of_below hb, lsaF_of hI hfA hfB⟩
  obtain ⟨V1, v1, z1, V2, v2, z2, rfl⟩ := hv; (go_simp; refine hK _ ?_; clear hK K)
  repeat (refine wpX_quiet (by rfl) (by rfl) (by rfl) (fun K hK => ?_); go_big_quiet_op; refine hK _ ?_; clear hK K)
  refine wpX_loud (us := [14, 16]) (by rfl) (by rfl) (fun S wS hC hS hU => runs_enter (f := 52) (by go_simp <;> rfl) ?_) (fun v hv K hK => ?_)
  · refine (alike_any a a T1 t1 y1 T2 t2 y2 V1 v1 z1 V2 v2 z2 wS (lsaF_out (hU 14 (by simp))) (lsaF_out (hU 16 (by simp)))).mono ?_
    rintro e w' ⟨rfl, hb⟩
    rw [hta.out]
    exact ⟨_, rfl, rfl, Kept.of_below hb, trivial⟩
  obtain rfl := hv; (go_simp; refine hK _ ?_; clear hK K)
  repeat (refine wpX_quiet (by rfl) (by rfl) (by rfl) (fun K hK => ?_); go_big_quiet_op; refine hK _ ?_; clear hK K)
  refine wpX_loud (us := []) (by rfl) (by rfl) (fun S wS hC hS hU => ?_) (fun v hv K hK => ?_)
  · exact runs_value (by go_simp <;> rfl) ⟨rfl, Kept.refl _ _, trivial⟩
  obtain rfl := hv; (go_simp; refine hK _ ?_; clear hK K)
  repeat (refine wpX_quiet (by rfl) (by rfl) (by rfl) (fun K hK => ?_); go_big_quiet_op; refine hK _ ?_; clear hK K)
  refine wpX_nil fun w9 hsat => ?_
  have hb9 := sat_below hsat
  have hbw9 := hbw.trans (hb9.mono hbw.size)
  clear hsat za zb
  go_wp2_with fail
  go_ret
  exact ⟨rfl, hbw9⟩

set_option maxRecDepth 100000 in
set_option maxHeartbeats 3200000 in
theorem lsaAlike_yes (a b0 : Lsa) (A1 : Option Addr) (n1 c1 : Nat) (A2 : Option Addr) (n2 c2 : Nat) (B1 : Option Addr) (m1 d1 : Nat) (B2 : Option Addr) (m2 d2 : Nat) (w : World) (ha : IsLsa w a A1 n1 c1 A2 n2 c2)
    (hn1 : n1 * 24 ≤ 140737488355328) (hn2 : n2 * 4 ≤ 140737488355328) :
    Calls Try.prog 10 #[.agg (lsaC a A1 n1 c1 A2 n2 c2), .agg (lsaC b0 B1 m1 d1 B2 m2 d2), .bool true] w fun e w' => e = .returned (.bool true) ∧ Below w.heap.size w w' := by
  go_enter Try.func10, Try.ntmps10
  go_wp2_with fail
  have hbw := ((Below.refl w.heap.size w).alloc (Nat.le_refl _) (.cells (lsaC a A1 n1 c1 A2 n2 c2) 75)).alloc (by simp) (.cells (lsaC b0 B1 m1 d1 B2 m2 d2) 75)
  have hba := blk_alloc (heap_alloc_new w (.cells (lsaC a A1 n1 c1 A2 n2 c2) 75)) (.cells (lsaC b0 B1 m1 d1 B2 m2 d2) 75)
  have hbb' := heap_alloc_new (w.alloc (.cells (lsaC a A1 n1 c1 A2 n2 c2) 75)) (.cells (lsaC b0 B1 m1 d1 B2 m2 d2) 75)
  rw [show (w.alloc (.cells (lsaC a A1 n1 c1 A2 n2 c2) 75)).heap.size = w.heap.size + 1 by simp] at hbb'
  have hs1 : ((w.alloc (.cells (lsaC a A1 n1 c1 A2 n2 c2) 75)).alloc (.cells (lsaC b0 B1 m1 d1 B2 m2 d2) 75)).heap.size = w.heap.size + 2 := by simp
  have hs1' := Nat.le_of_eq hs1.symm
  clear hs1
  go_quiet (fail)
  replace hbw := below_drewN hbw nq
  replace hba : (((w.alloc (.cells (lsaC a A1 n1 c1 A2 n2 c2) 75)).alloc (.cells (lsaC b0 B1 m1 d1 B2 m2 d2) 75)).drewN nq).heap[w.heap.size]? = _ := hba
  replace hbb' : (((w.alloc (.cells (lsaC a A1 n1 c1 A2 n2 c2) 75)).alloc (.cells (lsaC b0 B1 m1 d1 B2 m2 d2) 75)).drewN nq).heap[w.heap.size + 1]? = _ := hbb'
  replace hs1' : w.heap.size + 2 ≤ (((w.alloc (.cells (lsaC a A1 n1 c1 A2 n2 c2) 75)).alloc (.cells (lsaC b0 B1 m1 d1 B2 m2 d2) 75)).drewN nq).heap.size := hs1'
  change Exit.then _ _ _ _ (((w.alloc (.cells (lsaC a A1 n1 c1 A2 n2 c2) 75)).alloc (.cells (lsaC b0 B1 m1 d1 B2 m2 d2) 75)).drewN nq)
  generalize (((w.alloc (.cells (lsaC a A1 n1 c1 A2 n2 c2) 75)).alloc (.cells (lsaC b0 B1 m1 d1 B2 m2 d2) 75)).drewN nq) = w1 at *
  obtain ⟨ca, _⟩ := blk_cells hba
  obtain ⟨cb, fb⟩ := blk_cells hbb'
  have cb0 := cb 0; have cb1 := cb 1; have cb2 := cb 2; have cb3 := cb 3; have cb4 := cb 4; have cb5 := cb 5; have cb6 := cb 6; have cb7 := cb 7; have cb8 := cb 8
  simp at cb0 cb1 cb2 cb3 cb4 cb5 cb6 cb7 cb8
  clear cb
  go_wp2_with fail
  have hK : Kept (fun y => y = w.heap.size + 1) w1 (((((((((((w1.setCell ⟨w.heap.size + 1, 0, none⟩ (.int .i64 a.age)).setCell ⟨w.heap.size + 1, 1, none⟩ (.int .i64 a.kty)).setCell ⟨w.heap.size + 1, 2, none⟩ (.int .u32 (a.kid : Int))).setCell ⟨w.heap.size + 1, 3, none⟩ (.int .u32 (a.kadv : Int))).setCell ⟨w.heap.size + 1, 4, none⟩ (.int .i64 a.seq)).setCell ⟨w.heap.size + 1, 5, none⟩ (.slice A1 n1 c1)).setCell ⟨w.heap.size + 1, 6, none⟩ (.int .u32 (a.mask : Int))).setCell ⟨w.heap.size + 1, 7, none⟩ (.slice A2 n2 c2)).setCell ⟨w.heap.size + 1, 8, none⟩ (.int .i64 a.cost)).setCell ⟨w.heap.size + 1, 0, none⟩ (.int .i64 b0.age)).setCell ⟨w.heap.size + 1, 4, none⟩ (.int .i64 b0.seq)) := ((((((((((((((((((((((Kept.refl (fun y => y = w.heap.size + 1) w1).setCell (p := ⟨w.heap.size + 1, 0, none⟩) (.inl rfl) (.int .i64 a.age))).setCell (p := ⟨w.heap.size + 1, 1, none⟩) (.inl rfl) (.int .i64 a.kty))).setCell (p := ⟨w.heap.size + 1, 2, none⟩) (.inl rfl) (.int .u32 (a.kid : Int)))).setCell (p := ⟨w.heap.size + 1, 3, none⟩) (.inl rfl) (.int .u32 (a.kadv : Int)))).setCell (p := ⟨w.heap.size + 1, 4, none⟩) (.inl rfl) (.int .i64 a.seq))).setCell (p := ⟨w.heap.size + 1, 5, none⟩) (.inl rfl) (.slice A1 n1 c1))).setCell (p := ⟨w.heap.size + 1, 6, none⟩) (.inl rfl) (.int .u32 (a.mask : Int)))).setCell (p := ⟨w.heap.size + 1, 7, none⟩) (.inl rfl) (.slice A2 n2 c2))).setCell (p := ⟨w.heap.size + 1, 8, none⟩) (.inl rfl) (.int .i64 a.cost))).setCell (p := ⟨w.heap.size + 1, 0, none⟩) (.inl rfl) (.int .i64 b0.age))).setCell (p := ⟨w.heap.size + 1, 4, none⟩) (.inl rfl) (.int .i64 b0.seq))
  have hB : (((((((((((w1.setCell ⟨w.heap.size + 1, 0, none⟩ (.int .i64 a.age)).setCell ⟨w.heap.size + 1, 1, none⟩ (.int .i64 a.kty)).setCell ⟨w.heap.size + 1, 2, none⟩ (.int .u32 (a.kid : Int))).setCell ⟨w.heap.size + 1, 3, none⟩ (.int .u32 (a.kadv : Int))).setCell ⟨w.heap.size + 1, 4, none⟩ (.int .i64 a.seq)).setCell ⟨w.heap.size + 1, 5, none⟩ (.slice A1 n1 c1)).setCell ⟨w.heap.size + 1, 6, none⟩ (.int .u32 (a.mask : Int))).setCell ⟨w.heap.size + 1, 7, none⟩ (.slice A2 n2 c2)).setCell ⟨w.heap.size + 1, 8, none⟩ (.int .i64 a.cost)).setCell ⟨w.heap.size + 1, 0, none⟩ (.int .i64 b0.age)).setCell ⟨w.heap.size + 1, 4, none⟩ (.int .i64 b0.seq)).heap[w.heap.size + 1]? = some (.cells (lsaC { a with age := b0.age, seq := b0.seq } A1 n1 c1 A2 n2 c2) 75 (0, 0)) := by
    have := (blk_set (blk_set (blk_set (blk_set (blk_set (blk_set (blk_set (blk_set (blk_set (blk_set (blk_set hbb' 0 (.int .i64 a.age)) 1 (.int .i64 a.kty)) 2 (.int .u32 (a.kid : Int))) 3 (.int .u32 (a.kadv : Int))) 4 (.int .i64 a.seq)) 5 (.slice A1 n1 c1)) 6 (.int .u32 (a.mask : Int))) 7 (.slice A2 n2 c2)) 8 (.int .i64 a.cost)) 0 (.int .i64 b0.age)) 4 (.int .i64 b0.seq))
    simp at this
    exact this
  replace hba := blk_kept hba hK (by omega)
  replace hbw := hbw.trans (hK.below_of (B := w.heap.size) (by omega) (fun y hy => by omega))
  have hs2 := hK.size
  clear ca fb cb0 cb1 cb2 cb3 cb4 cb5 cb6 cb7 cb8 hK hbb'
  generalize (((((((((((w1.setCell ⟨w.heap.size + 1, 0, none⟩ (.int .i64 a.age)).setCell ⟨w.heap.size + 1, 1, none⟩ (.int .i64 a.kty)).setCell ⟨w.heap.size + 1, 2, none⟩ (.int .u32 (a.kid : Int))).setCell ⟨w.heap.size + 1, 3, none⟩ (.int .u32 (a.kadv : Int))).setCell ⟨w.heap.size + 1, 4, none⟩ (.int .i64 a.seq)).setCell ⟨w.heap.size + 1, 5, none⟩ (.slice A1 n1 c1)).setCell ⟨w.heap.size + 1, 6, none⟩ (.int .u32 (a.mask : Int))).setCell ⟨w.heap.size + 1, 7, none⟩ (.slice A2 n2 c2)).setCell ⟨w.heap.size + 1, 8, none⟩ (.int .i64 a.cost)).setCell ⟨w.heap.size + 1, 0, none⟩ (.int .i64 b0.age)).setCell ⟨w.heap.size + 1, 4, none⟩ (.int .i64 b0.seq)) = w2 at *
  replace hs1' : w.heap.size + 2 ≤ w2.heap.size := by omega
  clear hs2
  obtain ⟨b, hbe⟩ : ∃ b : Lsa, b = { a with age := b0.age, seq := b0.seq } := ⟨_, rfl⟩
  rw [← hbe] at hB
  have hb : IsLsa w2 b A1 n1 c1 A2 n2 c2 := by rw [hbe]; exact ⟨(ha.below hbw).links, (ha.below hbw).routers⟩
  replace ha := ha.below hbw
  clear hbe
  obtain ⟨w1, rfl⟩ : ∃ w1 : World, w1 = w2 := ⟨_, rfl⟩
  have hbb' := hB
  clear hB
  have za := fun (z : WK (fun _ => False) w1) i => (wat_cell (p := ⟨w.heap.size, i, none⟩) (by simp; omega) (by simp) z).trans ((blk_cells hba).1 i)
  have zb := fun (z : WK (fun _ => False) w1) i => (wat_cell (p := ⟨w.heap.size + 1, i, none⟩) (by simp; omega) (by simp) z).trans ((blk_cells hbb').1 i)
  generalize hD : decide (tells a b) = D at *
  have HD := hid hD
  clear hD
  have hta : Hid (decide (tells a a) = true) := by show _ = _; rw [decide_eq_true_iff]; exact ⟨rfl, rfl, rfl, rfl, rfl, rfl, rfl⟩
  refine wp_region_loud (fun _ => False)
    [(0, plainL [] (.bool true)), (3, lsaL [] a), (5, lsaL [] b), (6, plainL [3, 5] (.bool D)), (9, plainL [] (.bool D)), (11, plainL [] (.bool true)), (14, lsaL [] a), (16, lsaL [] a), (17, plainL [14, 16] (.bool true)), (18, plainL [] (.bool true))]
    (fun _ => Fact.none) (by kernel_rfl) (by kernel_rfl)
    (.cons (plainL_ok _ _) (.cons (lsaL_ok _ _) (.cons (lsaL_ok _ _) (.cons (plainL_ok _ _) (.cons (plainL_ok _ _) (.cons (plainL_ok _ _) (.cons (lsaL_ok _ _) (.cons (lsaL_ok _ _) (.cons (plainL_ok _ _) (.cons (plainL_ok _ _) .nil)))))))))) good_nothing sat_none ?_
  repeat (refine wpX_quiet (by rfl) (by rfl) (by rfl) (fun K hK => ?_); go_big_quiet_op; refine hK _ ?_; clear hK K)
  refine wpX_loud (us := []) (by rfl) (by rfl) (fun S wS hC hS hU => runs_enter (f := 43) (by go_simp <;> rfl) ?_) (fun v hv K hK => ?_)
  · refine (puts_any wS).mono ?_
    rintro e w' ⟨rfl, hb⟩
    exact ⟨_, rfl, rfl, Kept.of_below hb, trivial⟩
  obtain rfl := hv; (go_simp; refine hK _ ?_; clear hK K)
  repeat (refine wpX_quiet (by rfl) (by rfl) (by rfl) (fun K hK => ?_); go_big_quiet_op; refine hK _ ?_; clear hK K)
  refine wpX_loud (us := []) (by rfl) (by rfl) (fun S wS hC hS hU => runs_enter (f := 41) (by go_simp <;> rfl) ?_) (fun v hv K hK => ?_)
  · refine (to1 a A1 n1 c1 A2 n2 c2 wS (ha.below hC.below) hn1 hn2).mono ?_
    rintro e w' ⟨_, _, _, _, _, _, rfl, hI, hb, hfA, hfB⟩
    exact ⟨_, rfl, ⟨_, _, _, _, _, _, rfl⟩, Kept.of_below hb, lsaF_of hI hfA hfB⟩
  obtain ⟨P1, p1, q1, P2, p2, q2, rfl⟩ := hv; (go_simp; refine hK _ ?_; clear hK K)
  repeat (refine wpX_quiet (by rfl) (by rfl) (by rfl) (fun K hK => ?_); go_big_quiet_op; refine hK _ ?_; clear hK K)
  refine wpX_loud (us := []) (by rfl) (by rfl) (fun S wS hC hS hU => runs_enter (f := 41) (by go_simp <;> rfl) ?_) (fun v hv K hK => ?_)
  · refine (to1 b A1 n1 c1 A2 n2 c2 wS (hb.below hC.below) hn1 hn2).mono ?_
    rintro e w' ⟨_, _, _, _, _, _, rfl, hI, hb, hfA, hfB⟩
    exact ⟨_, rfl, ⟨_, _, _, _, _, _, rfl⟩, Kept.of_below hb, lsaF_of hI hfA hfB⟩
  obtain ⟨R1, r1, s1, R2, r2, s2, rfl⟩ := hv; (go_simp; refine hK _ ?_; clear hK K)
  repeat (refine wpX_quiet (by rfl) (by rfl) (by rfl) (fun K hK => ?_); go_big_quiet_op; refine hK _ ?_; clear hK K)
  refine wpX_loud (us := [3, 5]) (by rfl) (by rfl) (fun S wS hC hS hU => runs_enter (f := 52) (by go_simp <;> rfl) ?_) (fun v hv K hK => ?_)
  · refine (alike_any a b P1 p1 q1 P2 p2 q2 R1 r1 s1 R2 r2 s2 wS (lsaF_out (hU 3 (by simp))) (lsaF_out (hU 5 (by simp)))).mono ?_
    rintro e w' ⟨rfl, hb⟩
    rw [HD.out]
    exact ⟨_, rfl, rfl, Kept.of_below hb, trivial⟩
  obtain rfl := hv; (go_simp; refine hK _ ?_; clear hK K)
  repeat (refine wpX_quiet (by rfl) (by rfl) (by rfl) (fun K hK => ?_); go_big_quiet_op; refine hK _ ?_; clear hK K)
  refine wpX_loud (us := []) (by rfl) (by rfl) (fun S wS hC hS hU => runs_enter (f := 53) (by go_simp <;> rfl) ?_) (fun v hv K hK => ?_)
  · refine (refAlike_any a b A1 n1 c1 A2 n2 c2 A1 n1 c1 A2 n2 c2 wS (ha.below hC.below) (hb.below hC.below)).mono ?_
    rintro e w' ⟨rfl, hb⟩
    rw [HD.out]
    exact ⟨_, rfl, rfl, Kept.of_below hb, trivial⟩
  obtain rfl := hv; (go_simp; refine hK _ ?_; clear hK K)
  repeat (refine wpX_quiet (by rfl) (by rfl) (by rfl) (fun K hK => ?_); go_big_quiet_op; refine hK _ ?_; clear hK K)
  refine wpX_loud (us := []) (by rfl) (by rfl) (fun S wS hC hS hU => ?_) (fun v hv K hK => ?_)
  · exact runs_value (by go_simp <;> rfl) ⟨rfl, Kept.refl _ _, trivial⟩
  obtain rfl := hv; (go_simp; refine hK _ ?_; clear hK K)
  repeat (refine wpX_quiet (by rfl) (by rfl) (by rfl) (fun K hK => ?_); go_big_quiet_op; refine hK _ ?_; clear hK K)
  refine wpX_loud (us := []) (by rfl) (by rfl) (fun S wS hC hS hU => runs_enter (f := 41) (by go_simp <;> rfl) ?_) (fun v hv K hK => ?_)
  · refine (to1 a A1 n1 c1 A2 n2 c2 wS (ha.below hC.below) hn1 hn2).mono ?_
    rintro e w' ⟨_, _, _, _, _, _, rfl, hI, hb, hfA, hfB⟩
    exact ⟨_, rfl, ⟨_, _, _, _, _, _, rfl⟩, Kept.of_below hb, lsaF_of hI hfA hfB⟩
  obtain ⟨T1, t1, y1, T2, t2, y2, rfl⟩ := hv; (go_simp; refine hK _ ?_; clear hK K)
  repeat (refine wpX_quiet (by rfl) (by rfl) (by rfl) (fun K hK => ?_); go_big_quiet_op; refine hK _ ?_; clear hK K)
  refine wpX_loud (us := []) (by rfl) (by rfl) (fun S wS hC hS hU => runs_enter (f := 41) (by go_simp <;> rfl) ?_) (fun v hv K hK => ?_)
  · refine (to1 a A1 n1 c1 A2 n2 c2 wS (ha.below hC.below) hn1 hn2).mono ?_
    rintro e w' ⟨_, _, _, _, _, _, rfl, hI, hb, hfA, hfB⟩
    exact ⟨_, rfl, ⟨_, _, _, _, _, _, rfl⟩, Kept.of_below hb, lsaF_of hI hfA hfB⟩
  obtain ⟨V1, v1, z1, V2, v2, z2, rfl⟩ := hv; (go_simp; refine hK _ ?_; clear hK K)
  repeat (refine wpX_quiet (by rfl) (by rfl) (by rfl) (fun K hK => ?_); go_big_quiet_op; refine hK _ ?_; clear hK K)
  refine wpX_loud (us := [14, 16]) (by rfl) (by rfl) (fun S wS hC hS hU => runs_enter (f := 52) (by go_simp <;> rfl) ?_) (fun v hv K hK => ?_)
  · refine (alike_any a a T1 t1 y1 T2 t2 y2 V1 v1 z1 V2 v2 z2 wS (lsaF_out (hU 14 (by simp))) (lsaF_out (hU 16 (by simp)))).mono ?_
    rintro e w' ⟨rfl, hb⟩
    rw [hta.out]
    exact ⟨_, rfl, rfl, Kept.of_below hb, trivial⟩
  obtain rfl := hv; (go_simp; refine hK _ ?_; clear hK K)
  repeat (refine wpX_quiet (by rfl) (by rfl) (by rfl) (fun K hK => ?_); go_big_quiet_op; refine hK _ ?_; clear hK K)
  refine wpX_loud (us := []) (by rfl) (by rfl) (fun S wS hC hS hU => ?_) (fun v hv K hK => ?_)
  · exact runs_value (by go_simp <;> rfl) ⟨rfl, Kept.refl _ _, trivial⟩
  obtain rfl := hv; (go_simp; refine hK _ ?_; clear hK K)
  repeat (refine wpX_quiet (by rfl) (by rfl) (by rfl) (fun K hK => ?_); go_big_quiet_op; refine hK _ ?_; clear hK K)
  refine wpX_nil fun w9 hsat => ?_
  have hb9 := sat_below hsat
  have hbw9 := hbw.trans (hb9.mono hbw.size)
  clear hsat za zb
  go_wp2_with fail
  go_ret
  exact ⟨rfl, hbw9⟩

theorem lsaAlike_walk (a b : Lsa) (same : Bool) (A1 : Option Addr) (n1 c1 : Nat) (A2 : Option Addr) (n2 c2 : Nat) (B1 : Option Addr) (m1 d1 : Nat) (B2 : Option Addr) (m2 d2 : Nat) (w : World) (ha : IsLsa w a A1 n1 c1 A2 n2 c2) (hb : IsLsa w b B1 m1 d1 B2 m2 d2)
    (hn1 : n1 * 24 ≤ 140737488355328) (hn2 : n2 * 4 ≤ 140737488355328) (hm1 : m1 * 24 ≤ 140737488355328) (hm2 : m2 * 4 ≤ 140737488355328) :
    Calls Try.prog 10 #[.agg (lsaC a A1 n1 c1 A2 n2 c2), .agg (lsaC b B1 m1 d1 B2 m2 d2), .bool same] w fun e w' => e = .returned (.bool true) ∧ Below w.heap.size w w' := by
  cases same with
  | false => exact lsaAlike_no a b A1 n1 c1 A2 n2 c2 B1 m1 d1 B2 m2 d2 w ha hb hn1 hn2 hm1 hm2
  | true => exact lsaAlike_yes a b A1 n1 c1 A2 n2 c2 B1 m1 d1 B2 m2 d2 w ha hn1 hn2
end Go.Proofs.Ytaajhkdifliblaa
