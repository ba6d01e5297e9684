/-
  Contract: lsa.Compare.
-/
import Derived.Test.YtaajhkdifliblaaLsa21
namespace Go.Proofs.Ytaajhkdifliblaa
set_option linter.unusedVariables false
set_option linter.unusedSimpArgs false
open Go Go.RowKit SM LM

/-- what lsa.Compare says of two headers: their ages, numbers and sums -/
def cmpH (a0 s0 c0 a1 s1 c1 : Int) : Int :=
  if (if cmpZ s0 s1 = 0 then cmpZ c0 c1 else cmpZ s0 s1) ≠ 0 then (if cmpZ s0 s1 = 0 then cmpZ c0 c1 else cmpZ s0 s1)
  else if decide (a0 = 3600) ≠ decide (a1 = 3600) then (if decide (a0 = 3600) = true then 1 else -1)
  else if 900 < IntKind.u64.wrap (IntKind.u64.wrap (max a0 a1) - IntKind.u64.wrap (min a0 a1)) then (if decide (a0 < a1) = true then 1 else -1)
  else 0

set_option maxRecDepth 100000 in
set_option maxHeartbeats 3200000 in
theorem lsaCompare_any (a0 t0 i0 v0 s0 c0 l0 a1 t1 i1 v1 s1 c1 l1 : Int) (w : World) :
    Calls Try.prog 62 #[.agg #[.int .i64 a0, .int .i64 t0, .int .u32 i0, .int .u32 v0, .int .i64 s0, .int .u16 c0, .int .i64 l0], .agg #[.int .i64 a1, .int .i64 t1, .int .u32 i1, .int .u32 v1, .int .i64 s1, .int .u16 c1, .int .i64 l1]] w fun e w' => e = .returned (.int .i64 (cmpH a0 s0 c0 a1 s1 c1)) ∧ Below w.heap.size w w' := by
  go_enter Try.func62, Try.ntmps62
  go_wp2_with fail
  have hbw := ((Below.refl w.heap.size w).alloc (Nat.le_refl _) (.cells #[.int .i64 a0, .int .i64 t0, .int .u32 i0, .int .u32 v0, .int .i64 s0, .int .u16 c0, .int .i64 l0] 87)).alloc (by simp) (.cells #[.int .i64 a1, .int .i64 t1, .int .u32 i1, .int .u32 v1, .int .i64 s1, .int .u16 c1, .int .i64 l1] 87)
  have hba := blk_alloc (heap_alloc_new w (.cells #[.int .i64 a0, .int .i64 t0, .int .u32 i0, .int .u32 v0, .int .i64 s0, .int .u16 c0, .int .i64 l0] 87)) (.cells #[.int .i64 a1, .int .i64 t1, .int .u32 i1, .int .u32 v1, .int .i64 s1, .int .u16 c1, .int .i64 l1] 87)
  have hbb' := heap_alloc_new (w.alloc (.cells #[.int .i64 a0, .int .i64 t0, .int .u32 i0, .int .u32 v0, .int .i64 s0, .int .u16 c0, .int .i64 l0] 87)) (.cells #[.int .i64 a1, .int .i64 t1, .int .u32 i1, .int .u32 v1, .int .i64 s1, .int .u16 c1, .int .i64 l1] 87)
  rw [show (w.alloc (.cells #[.int .i64 a0, .int .i64 t0, .int .u32 i0, .int .u32 v0, .int .i64 s0, .int .u16 c0, .int .i64 l0] 87)).heap.size = w.heap.size + 1 by simp] at hbb'
  have hs1 : ((w.alloc (.cells #[.int .i64 a0, .int .i64 t0, .int .u32 i0, .int .u32 v0, .int .i64 s0, .int .u16 c0, .int .i64 l0] 87)).alloc (.cells #[.int .i64 a1, .int .i64 t1, .int .u32 i1, .int .u32 v1, .int .i64 s1, .int .u16 c1, .int .i64 l1] 87)).heap.size = w.heap.size + 2 := by simp
  have hs1' := Nat.le_of_eq hs1.symm
  clear hs1
  generalize ((w.alloc (.cells #[.int .i64 a0, .int .i64 t0, .int .u32 i0, .int .u32 v0, .int .i64 s0, .int .u16 c0, .int .i64 l0] 87)).alloc (.cells #[.int .i64 a1, .int .i64 t1, .int .u32 i1, .int .u32 v1, .int .i64 s1, .int .u16 c1, .int .i64 l1] 87)) = w1 at *
  obtain ⟨ca, fa⟩ := blk_cells hba
  obtain ⟨cb, fb⟩ := blk_cells hbb'
  have za : ∀ (x : WK (fun _ => False) w1) j, (wat x).cell? ⟨w.heap.size, j, none⟩ = _ := fun x j => (wat_cell (p := ⟨w.heap.size, j, none⟩) (by simp; omega) (fun h => h) x).trans (ca j)
  have zb : ∀ (x : WK (fun _ => False) w1) j, (wat x).cell? ⟨w.heap.size + 1, j, none⟩ = _ := fun x j => (wat_cell (p := ⟨w.heap.size + 1, j, none⟩) (by simp; omega) (fun h => h) x).trans (cb j)
  have za4 := fun x => za x 4
  have za5 := fun x => za x 5
  have zb4 := fun x => zb x 4
  have zb5 := fun x => zb x 5
  simp at za4 za5 zb4 zb5
  clear za zb ca fa cb fb
  refine wp_region_loud (fun _ => False)
      [(4, plainL [] (.int .i64 (cmpZ s0 s1))), (9, plainL [] (.int .i64 (cmpZ c0 c1))), (10, rowL [] w1.heap.size 3 1 2 [.int .i64 (cmpZ s0 s1), .int .i64 (cmpZ c0 c1)]),
       (11, plainL [10] (.int .i64 (if cmpZ s0 s1 = 0 then cmpZ c0 c1 else cmpZ s0 s1)))]
      (fun _ => Fact.none) (by kernel_rfl) (by kernel_rfl)
      (.cons (plainL_ok _ _) (.cons (plainL_ok _ _) (.cons (rowL_ok _ _ _ _ _ _) (.cons (plainL_ok _ _) .nil)))) good_nothing sat_none ?_
  repeat (refine wpX_quiet (by rfl) (by rfl) (by rfl) (fun K hK => ?_); go_big_quiet_op; refine hK _ ?_; clear hK K)
  refine wpX_loud (us := []) (by rfl) (by rfl) (fun S wS hC hS hU => runs_enter (f := 88) (by go_simp <;> rfl) ?_) (fun v hv K hK => ?_)
  · refine (cmpInt_any _ _ wS).mono ?_
    rintro e w' ⟨rfl, rfl⟩
    exact ⟨_, rfl, rfl, Kept.refl _ _, trivial⟩
  obtain rfl := hv; (go_simp; refine hK _ ?_; clear hK K)
  repeat (refine wpX_quiet (by rfl) (by rfl) (by rfl) (fun K hK => ?_); go_big_quiet_op; refine hK _ ?_; clear hK K)
  refine wpX_loud (us := []) (by rfl) (by rfl) (fun S wS hC hS hU => runs_enter (f := 89) (by go_simp <;> rfl) ?_) (fun v hv K hK => ?_)
  · refine (cmpU16_any _ _ wS).mono ?_
    rintro e w' ⟨rfl, rfl⟩
    exact ⟨_, rfl, rfl, Kept.refl _ _, trivial⟩
  obtain rfl := hv; (go_simp; refine hK _ ?_; clear hK K)
  repeat (refine wpX_quiet (by rfl) (by rfl) (by rfl) (fun K hK => ?_); go_big_quiet_op; refine hK _ ?_; clear hK K)
  refine wpX_loud (us := []) (by rfl) (by rfl) (fun S wS hC hS hU => ?_) (fun v hv K hK => ?_)
  · refine runs_value (by go_simp <;> rfl) (made_x rfl hC.size ?_ (by simp) (by omega) (by omega))
    simp
  obtain ⟨A9, c9, rfl⟩ := hv; (go_simp; refine hK _ ?_; clear hK K)
  repeat (refine wpX_quiet (by rfl) (by rfl) (by rfl) (fun K hK => ?_); go_big_quiet_op; refine hK _ ?_; clear hK K)
  refine wpX_loud (us := [10]) (by rfl) (by rfl) (fun S wS hC hS hU => runs_enter (f := 87) (by go_simp <;> rfl) ?_) (fun v hv K hK => ?_)
  · have k10 : OwnF w1.heap.size 3 1 2 [.int .i64 (cmpZ s0 s1), .int .i64 (cmpZ c0 c1)] (.slice A9 2 c9) S wS := hU 10 (by simp)
    refine (or2_any A9 c9 _ _ wS (own_sl k10.2)).mono ?_
    rintro e w' ⟨rfl, hb⟩
    exact ⟨_, rfl, rfl, Kept.of_below hb, trivial⟩
  obtain rfl := hv; (go_simp; refine hK _ ?_; clear hK K)
  repeat (refine wpX_quiet (by rfl) (by rfl) (by rfl) (fun K hK => ?_); go_big_quiet_op; refine hK _ ?_; clear hK K)
  refine wpX_nil fun w2 hsat => ?_
  have hb2 := sat_below hsat
  have hbw2 := hbw.trans (hb2.mono hbw.size)
  replace hba := blk_below hba hb2 (by omega)
  replace hbb' := blk_below hbb' hb2 (by omega)
  replace hs1' : w.heap.size + 2 ≤ w2.heap.size := Nat.le_trans hs1' hb2.size
  clear hsat za4 za5 zb4 zb5 hb2 hbw
  obtain ⟨ca, _⟩ := blk_cells hba
  obtain ⟨cb, _⟩ := blk_cells hbb'
  have ca0 := ca 0
  have cb0 := cb 0
  simp at ca0 cb0
  clear ca cb hba hbb'
  obtain ⟨n, hn⟩ : ∃ n, (if cmpZ s0 s1 = 0 then cmpZ c0 c1 else cmpZ s0 s1) = n := ⟨_, rfl⟩
  have hQ : Hid (cmpH a0 s0 c0 a1 s1 c1 = if n ≠ 0 then n else if decide (a0 = 3600) ≠ decide (a1 = 3600) then (if decide (a0 = 3600) = true then 1 else -1)
    else if 900 < IntKind.u64.wrap (IntKind.u64.wrap (max a0 a1) - IntKind.u64.wrap (min a0 a1)) then (if decide (a0 < a1) = true then 1 else -1) else 0) := by
    show _ = _
    unfold cmpH
    rw [hn]
  rw [hn]
  clear hn
  by_cases hn0 : n = 0
  case neg =>
    go_wp2_with fail
    go_ret
    exact ⟨by rw [hQ.out, if_pos hn0]; rfl, hbw2⟩
  subst hn0
  go_wp2_with fail
  go_quiet (fail)
  replace hbw2 := below_drewN hbw2 nq
  replace hs1' : w.heap.size + 2 ≤ (w2.drewN nq).heap.size := hs1'
  replace ca0 : (w2.drewN nq).cell? ⟨w.heap.size, 0, none⟩ = _ := ca0
  replace cb0 : (w2.drewN nq).cell? ⟨w.heap.size + 1, 0, none⟩ = _ := cb0
  change Exit.then _ _ _ _ (w2.drewN nq)
  generalize (w2.drewN nq) = w3 at *
  by_cases h0 : a0 = 3600
  · by_cases h1 : a1 = 3600
    · subst h0; subst h1
      go_wp2_with (go_at_call 90; refine (first_any _ _).mono ?_; rintro e w' ⟨rfl, rfl⟩)
      go_ret
      exact ⟨by rw [hQ.out]; simp; decide, hbw2⟩
    · subst h0
      go_wp2_with (go_at_call 90; refine (first_any _ _).mono ?_; rintro e w' ⟨rfl, rfl⟩)
      all_goals first | (exfalso; clear hQ ca0 cb0 hbw2 hs1'; simp_all; done) | (go_ret; exact ⟨by rw [hQ.out]; simp [h1], hbw2⟩)
  · by_cases h1 : a1 = 3600
    · subst h1
      go_wp2_with (go_at_call 90; refine (first_any _ _).mono ?_; rintro e w' ⟨rfl, rfl⟩)
      all_goals first | (exfalso; clear hQ ca0 cb0 hbw2 hs1'; simp_all; done) | (go_ret; exact ⟨by rw [hQ.out]; simp [h0], hbw2⟩)
    · have e0 : Hid ((a0 == 3600) = false) := by show _ = _; simp [h0]
      have e1 : Hid ((a1 == 3600) = false) := by show _ = _; simp [h1]
      by_cases hd : 900 < IntKind.u64.wrap (IntKind.u64.wrap (max a0 a1) - IntKind.u64.wrap (min a0 a1))
      · by_cases hl : a0 < a1
        · go_wp2_with (go_at_call 90; refine (first_any _ _).mono ?_; rintro e w' ⟨rfl, rfl⟩)
          all_goals first | (exfalso; rename_i hb; rw [e0.out, e1.out] at hb; simp at hb; done) | (exfalso; rename_i hb _; rw [e0.out, e1.out] at hb; simp at hb; done) | (exfalso; rename_i hb _ _; rw [e0.out, e1.out] at hb; simp at hb; done) | (go_ret; exact ⟨by rw [hQ.out]; simp [h0, h1, hd, hl], hbw2⟩)
        · go_wp2_with (go_at_call 90; refine (first_any _ _).mono ?_; rintro e w' ⟨rfl, rfl⟩)
          all_goals first | (exfalso; rename_i hb; rw [e0.out, e1.out] at hb; simp at hb; done) | (exfalso; rename_i hb _; rw [e0.out, e1.out] at hb; simp at hb; done) | (exfalso; rename_i hb _ _; rw [e0.out, e1.out] at hb; simp at hb; done) | (go_ret; exact ⟨by rw [hQ.out]; simp [h0, h1, hd, hl], hbw2⟩)
      · have hdq := hid hd
        go_wp2_with (go_at_call 90; refine (first_any _ _).mono ?_; rintro e w' ⟨rfl, rfl⟩)
        all_goals first | (exfalso; rename_i hb; rw [e0.out, e1.out] at hb; simp at hb; done) | (exfalso; rename_i hb _; rw [e0.out, e1.out] at hb; simp at hb; done) | (exfalso; rename_i hb _ _; rw [e0.out, e1.out] at hb; simp at hb; done) | (go_ret; exact ⟨by rw [hQ.out]; simp [h0, h1, Int.not_lt.2 hdq.out], hbw2⟩)
end Go.Proofs.Ytaajhkdifliblaa
