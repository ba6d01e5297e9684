/-
  Contract of packet's greeting: a greeting's bytes.
-/
import Derived.Test.YtgopkpogakjckaaPk4
namespace Go.Proofs.Ytgopkpogakjckaa
set_option linter.unusedVariables false
set_option linter.unusedSimpArgs false
open Go Go.RowKit SM LM PK

def greet0 (P : Pkt) : List UInt8 := be 4 P.mask ++ be 2 (w64 P.intv).toNat
def greet1 (P : Pkt) : List UInt8 := greet0 P ++ [2, PK.u8 P.prio] ++ be 4 (w64 P.dead).toNat
def greet2 (P : Pkt) : List UInt8 := greet1 P ++ be 4 P.dr ++ be 4 P.bdr
theorem greetB_eq (P : Pkt) : greetB P = greet2 P ++ P.nbs.flatMap (be 4) := rfl
set_option maxRecDepth 100000 in
set_option maxHeartbeats 3200000 in
theorem greeting_any (P : Pkt) (A1 : Option Addr) (n1 c1 : Nat) (w : World) (hwf : WfP P) (hs : Sl w 1 (.slice A1 n1 c1) (U32 P.nbs)) (hn : n1 ≤ 100000) :
    Calls Try.prog 74 #[.agg (gtC P A1 n1 c1)] w fun e w' => ∃ A c n, e = .returned (.slice A n c) ∧ w'.ownsRow w.heap.size 5 1 (.slice A n c) n (B8 (greetB P)) ∧ Below w.heap.size w w' := by
  obtain ⟨hl1, _, hl3⟩ := hs.lenN
  rw [U32_length] at hl1
  obtain ⟨ty, router, area, auth, mask, intv, dead, prio, dr, bdr, nbs, flags, seq, heads, keys, lsas⟩ := P
  obtain ⟨_, _, _, hm, _, _, _, hdr, hbdr, hnb, _, _, _, _, _⟩ := hwf
  simp only at hl1 hs hm hdr hbdr hnb
  have HN : Hid (nbs.length = n1) := by show _ = _; omega
  clear hl1
  have HG : Hid (greetB ⟨ty, router, area, auth, mask, intv, dead, prio, dr, bdr, nbs, flags, seq, heads, keys, lsas⟩ = be 4 mask ++ be 2 (w64 intv).toNat ++ [2, PK.u8 prio] ++ be 4 (w64 dead).toNat ++ be 4 dr ++ be 4 bdr ++ routersTo nbs n1) := by
    show _ = _
    rw [← HN.out]
    simp [greetB, routersTo]
  have b1 := w64_bd intv
  have b2 := w64_bd dead
  have e1 : IntKind.u64.wrap (mask : Int) = (mask : Int) := IntWalk.u64_in _ (by omega)
  have e2 : IntKind.u64.wrap intv = w64 intv := rfl
  have e3 : IntKind.u64.wrap dead = w64 dead := rfl
  have e4 : IntKind.u64.wrap (dr : Int) = (dr : Int) := IntWalk.u64_in _ (by omega)
  have e5 : IntKind.u64.wrap (bdr : Int) = (bdr : Int) := IntWalk.u64_in _ (by omega)
  have hal := (Below.refl w.heap.size w).alloc (Nat.le_refl _) (.cells (gtC ⟨ty, router, area, auth, mask, intv, dead, prio, dr, bdr, nbs, flags, seq, heads, keys, lsas⟩ A1 n1 c1) 35)
  have hc0 := (blk_cells (heap_alloc_new w (.cells (gtC ⟨ty, router, area, auth, mask, intv, dead, prio, dr, bdr, nbs, flags, seq, heads, keys, lsas⟩ A1 n1 c1) 35))).1
  have hz0 : (w.alloc (.cells (gtC ⟨ty, router, area, auth, mask, intv, dead, prio, dr, bdr, nbs, flags, seq, heads, keys, lsas⟩ A1 n1 c1) 35)).heap.size = w.heap.size + 1 := by simp
  go_enter Try.func74, Try.ntmps74
  go_upto_region 1 with fail
  generalize w.alloc (.cells (gtC ⟨ty, router, area, auth, mask, intv, dead, prio, dr, bdr, nbs, flags, seq, heads, keys, lsas⟩ A1 n1 c1) 35) = w0 at *
  have k0 : ∀ (x : WK (fun _ => False) w0) j, (wat x).cell? ⟨w.heap.size, j, none⟩ = _ := fun x j => (wat_cell (p := ⟨w.heap.size, j, none⟩) (by simp; omega) (by simp) x).trans (hc0 j)
  have k00 := fun x => k0 x 0
  have k01 := fun x => k0 x 1
  simp at k00 k01
  clear k0
  refine wp_region_loud (fun _ => False)
    [(3, rowL [] (w0.heap.size) 5 1 (4) (B8 (be 4 mask))),
     (7, rowL [3] (w0.heap.size) 5 1 (6) (B8 (be 4 mask ++ be 2 (w64 intv).toNat)))]
    (fun _ => Fact.none) (by kernel_rfl) (by kernel_rfl) (.cons (rowL_ok _ _ _ _ _ _) (.cons (rowL_ok _ _ _ _ _ _) .nil)) good_nothing sat_none (WX.out ?_)
  repeat (first | (refine wx_quietU (by rfl) (by rfl) (by rfl) (fun K hK => ?_); go_big_quiet_op; refine hK _ ?_; clear hK K) | (refine wx_quietG (by rfl) (by rfl) (by rfl) (by rfl) (by rfl) (fun K hK => ?_); go_big_quiet_op; refine hK _ ?_; clear hK K) | (refine wx_skipG (by rfl) (by rfl) (by rfl) (fun K hK => ?_); go_simp; refine hK _ ?_; clear hK K) | (refine wx_skipN (by rfl) (by rfl) (by rfl) (fun K hK => ?_); go_simp; refine hK _ ?_; clear hK K))
  refine wx_loudU (us := []) (by rfl) (by rfl) (fun S wS hC hS hU => runs_enter (f := 38) (by go_simp <;> rfl) ?_) (fun v hv K hK => ?_)
  · exact pput_0 4 _ _ hC.size (by omega) (by omega) (by omega)
  obtain ⟨RA3, Rc3, rfl⟩ := hv; (go_simp; refine hK _ ?_; clear hK K)
  repeat (first | (refine wx_quietU (by rfl) (by rfl) (by rfl) (fun K hK => ?_); go_big_quiet_op; refine hK _ ?_; clear hK K) | (refine wx_quietG (by rfl) (by rfl) (by rfl) (by rfl) (by rfl) (fun K hK => ?_); go_big_quiet_op; refine hK _ ?_; clear hK K) | (refine wx_skipG (by rfl) (by rfl) (by rfl) (fun K hK => ?_); go_simp; refine hK _ ?_; clear hK K) | (refine wx_skipN (by rfl) (by rfl) (by rfl) (fun K hK => ?_); go_simp; refine hK _ ?_; clear hK K))
  refine wx_loudU (us := [3]) (by rfl) (by rfl) (fun S wS hC hS hU => runs_enter (f := 38) (by go_simp <;> rfl) ?_) (fun v hv K hK => ?_)
  · exact pput_x 2 _ _ (hU 3 (by simp)) hC.size (by omega) (by omega) (by omega) (by omega)
  obtain ⟨RA7, Rc7, rfl⟩ := hv; (go_simp; refine hK _ ?_; clear hK K)
  repeat (first | (refine wx_quietU (by rfl) (by rfl) (by rfl) (fun K hK => ?_); go_big_quiet_op; refine hK _ ?_; clear hK K) | (refine wx_quietG (by rfl) (by rfl) (by rfl) (by rfl) (by rfl) (fun K hK => ?_); go_big_quiet_op; refine hK _ ?_; clear hK K) | (refine wx_skipG (by rfl) (by rfl) (by rfl) (fun K hK => ?_); go_simp; refine hK _ ?_; clear hK K) | (refine wx_skipN (by rfl) (by rfl) (by rfl) (fun K hK => ?_); go_simp; refine hK _ ?_; clear hK K))
  refine wx_nil fun wreg hsat => ?_
  have hown1 := sat_row hsat 7 (by rfl)
  have hb1 := sat_below hsat
  clear hsat k00 k01
  have k1 : ∀ i, wreg.cell? ⟨w.heap.size, i, none⟩ = _ := fun i => (hb1.cell (p := ⟨w.heap.size, i, none⟩) (by simp; omega)).trans (hc0 i)
  have hB1 := hb1.size
  go_upto_region 2 with fail
  have hS1 : ¬ Value.ownBlock (.slice RA7 6 Rc7) = some w.heap.size := fun hh => by have := ownF_ge hown1 _ hh; omega
  have k2 : ∀ (x : WK (fun b => Value.ownBlock (.slice RA7 6 Rc7) = some b) wreg) j, (wat x).cell? ⟨w.heap.size, j, none⟩ = _ := fun x j => (wat_cell (p := ⟨w.heap.size, j, none⟩) (by simp; omega) hS1 x).trans (k1 j)
  have k23 := fun x => k2 x 3
  have k22 := fun x => k2 x 2
  simp at k22 k23
  clear k2
  obtain ⟨w1, rfl⟩ : ∃ w1 : World, w1 = wreg := ⟨_, rfl⟩
  refine wp_region_loud (fun b => Value.ownBlock (.slice RA7 (6) Rc7) = some b)
    [(4, rowL [] (w0.heap.size) 5 1 (2) (B8 ([2, PK.u8 prio]))),
     (5, rowL [100, 4] (w0.heap.size) 5 1 (8) (B8 (be 4 mask ++ be 2 (w64 intv).toNat ++ [2, PK.u8 prio]))),
     (9, rowL [5] (w0.heap.size) 5 1 (12) (B8 (be 4 mask ++ be 2 (w64 intv).toNat ++ [2, PK.u8 prio] ++ be 4 (w64 dead).toNat)))]
    (labelled 100 (OwnF (w0.heap.size) 5 1 (6) (B8 (be 4 mask ++ be 2 (w64 intv).toNat)) (.slice RA7 (6) Rc7))) (by kernel_rfl) (by kernel_rfl) (.cons (rowL_ok _ _ _ _ _ _) (.cons (rowL_ok _ _ _ _ _ _) (.cons (rowL_ok _ _ _ _ _ _) .nil))) (good_one 100 (good_own _ _ _ _ _ _)) (sat_one 100 _ (ownF_lt hown1) (ownF_in hown1)) (WX.out ?_)
  repeat (first | (refine wx_quietU (by rfl) (by rfl) (by rfl) (fun K hK => ?_); go_big_quiet_op; refine hK _ ?_; clear hK K) | (refine wx_quietG (by rfl) (by rfl) (by rfl) (by rfl) (by rfl) (fun K hK => ?_); go_big_quiet_op; refine hK _ ?_; clear hK K) | (refine wx_skipG (by rfl) (by rfl) (by rfl) (fun K hK => ?_); go_simp; refine hK _ ?_; clear hK K) | (refine wx_skipN (by rfl) (by rfl) (by rfl) (fun K hK => ?_); go_simp; refine hK _ ?_; clear hK K))
  refine wx_loudU (us := []) (by rfl) (by rfl) (fun S wS hC hS hU => ?_) (fun v hv K hK => ?_)
  · refine runs_value (by go_simp <;> rfl) (made_x rfl (Nat.le_trans hB1 hC.size) ?_ (by simp [B8]) (by omega) (by omega))
    simp [B8, PK.u8, IntKind.wrap_u8]; try omega
  obtain ⟨RA4, Rc4, rfl⟩ := hv; (go_simp; refine hK _ ?_; clear hK K)
  repeat (first | (refine wx_quietU (by rfl) (by rfl) (by rfl) (fun K hK => ?_); go_big_quiet_op; refine hK _ ?_; clear hK K) | (refine wx_quietG (by rfl) (by rfl) (by rfl) (by rfl) (by rfl) (fun K hK => ?_); go_big_quiet_op; refine hK _ ?_; clear hK K) | (refine wx_skipG (by rfl) (by rfl) (by rfl) (fun K hK => ?_); go_simp; refine hK _ ?_; clear hK K) | (refine wx_skipN (by rfl) (by rfl) (by rfl) (fun K hK => ?_); go_simp; refine hK _ ?_; clear hK K))
  refine wx_loudU (us := [100, 4]) (by rfl) (by rfl) (fun S wS hC hS hU => ?_) (fun v hv K hK => ?_)
  · exact app_x (.tmp 14) (.tmp 18) (by rfl) (by rfl) (by rfl) (hU 100 (by simp)) (own_sl (hU 4 (by simp)).2) (by omega) (Nat.le_trans hB1 hC.size)
  obtain ⟨RA5, Rc5, rfl⟩ := hv; (go_simp; refine hK _ ?_; clear hK K)
  repeat (first | (refine wx_quietU (by rfl) (by rfl) (by rfl) (fun K hK => ?_); go_big_quiet_op; refine hK _ ?_; clear hK K) | (refine wx_quietG (by rfl) (by rfl) (by rfl) (by rfl) (by rfl) (fun K hK => ?_); go_big_quiet_op; refine hK _ ?_; clear hK K) | (refine wx_skipG (by rfl) (by rfl) (by rfl) (fun K hK => ?_); go_simp; refine hK _ ?_; clear hK K) | (refine wx_skipN (by rfl) (by rfl) (by rfl) (fun K hK => ?_); go_simp; refine hK _ ?_; clear hK K))
  refine wx_loudU (us := [5]) (by rfl) (by rfl) (fun S wS hC hS hU => runs_enter (f := 38) (by go_simp <;> rfl) ?_) (fun v hv K hK => ?_)
  · exact pput_x 4 _ _ (hU 5 (by simp)) (Nat.le_trans hB1 hC.size) (by omega) (by omega) (by omega) (by omega)
  obtain ⟨RA9, Rc9, rfl⟩ := hv; (go_simp; refine hK _ ?_; clear hK K)
  repeat (first | (refine wx_quietU (by rfl) (by rfl) (by rfl) (fun K hK => ?_); go_big_quiet_op; refine hK _ ?_; clear hK K) | (refine wx_quietG (by rfl) (by rfl) (by rfl) (by rfl) (by rfl) (fun K hK => ?_); go_big_quiet_op; refine hK _ ?_; clear hK K) | (refine wx_skipG (by rfl) (by rfl) (by rfl) (fun K hK => ?_); go_simp; refine hK _ ?_; clear hK K) | (refine wx_skipN (by rfl) (by rfl) (by rfl) (fun K hK => ?_); go_simp; refine hK _ ?_; clear hK K))
  refine wx_nil fun wreg hsat => ?_
  have hown2 := sat_row hsat 9 (by rfl)
  have hb2 := hb1.trans (hsat.1.below_of hB1 (ownF_ge hown1))
  clear hsat k22 k23 k1 hown1 hb1 hS1
  have k1 : ∀ i, wreg.cell? ⟨w.heap.size, i, none⟩ = _ := fun i => (hb2.cell (p := ⟨w.heap.size, i, none⟩) (by simp; omega)).trans (hc0 i)
  have hB2 := hb2.size
  go_upto_region 3 with fail
  have hS1 : ¬ Value.ownBlock (.slice RA9 12 Rc9) = some w.heap.size := fun hh => by have := ownF_ge hown2 _ hh; omega
  have k2 : ∀ (x : WK (fun b => Value.ownBlock (.slice RA9 12 Rc9) = some b) wreg) j, (wat x).cell? ⟨w.heap.size, j, none⟩ = _ := fun x j => (wat_cell (p := ⟨w.heap.size, j, none⟩) (by simp; omega) hS1 x).trans (k1 j)
  have k24 := fun x => k2 x 4
  have k25 := fun x => k2 x 5
  simp at k24 k25
  clear k2
  obtain ⟨w2, rfl⟩ : ∃ w2 : World, w2 = wreg := ⟨_, rfl⟩
  refine wp_region_loud (fun b => Value.ownBlock (.slice RA9 (12) Rc9) = some b)
    [(4, rowL [100] (w0.heap.size) 5 1 (16) (B8 (be 4 mask ++ be 2 (w64 intv).toNat ++ [2, PK.u8 prio] ++ be 4 (w64 dead).toNat ++ be 4 dr))),
     (8, rowL [4] (w0.heap.size) 5 1 (20) (B8 (be 4 mask ++ be 2 (w64 intv).toNat ++ [2, PK.u8 prio] ++ be 4 (w64 dead).toNat ++ be 4 dr ++ be 4 bdr)))]
    (labelled 100 (OwnF (w0.heap.size) 5 1 (12) (B8 (be 4 mask ++ be 2 (w64 intv).toNat ++ [2, PK.u8 prio] ++ be 4 (w64 dead).toNat)) (.slice RA9 (12) Rc9))) (by kernel_rfl) (by kernel_rfl) (.cons (rowL_ok _ _ _ _ _ _) (.cons (rowL_ok _ _ _ _ _ _) .nil)) (good_one 100 (good_own _ _ _ _ _ _)) (sat_one 100 _ (ownF_lt hown2) (ownF_in hown2)) (WX.out ?_)
  repeat (first | (refine wx_quietU (by rfl) (by rfl) (by rfl) (fun K hK => ?_); go_big_quiet_op; refine hK _ ?_; clear hK K) | (refine wx_quietG (by rfl) (by rfl) (by rfl) (by rfl) (by rfl) (fun K hK => ?_); go_big_quiet_op; refine hK _ ?_; clear hK K) | (refine wx_skipG (by rfl) (by rfl) (by rfl) (fun K hK => ?_); go_simp; refine hK _ ?_; clear hK K) | (refine wx_skipN (by rfl) (by rfl) (by rfl) (fun K hK => ?_); go_simp; refine hK _ ?_; clear hK K))
  refine wx_loudU (us := [100]) (by rfl) (by rfl) (fun S wS hC hS hU => runs_enter (f := 38) (by go_simp <;> rfl) ?_) (fun v hv K hK => ?_)
  · exact pput_x 4 _ _ (hU 100 (by simp)) (Nat.le_trans hB2 hC.size) (by omega) (by omega) (by omega) (by omega)
  obtain ⟨RA4, Rc4, rfl⟩ := hv; (go_simp; refine hK _ ?_; clear hK K)
  repeat (first | (refine wx_quietU (by rfl) (by rfl) (by rfl) (fun K hK => ?_); go_big_quiet_op; refine hK _ ?_; clear hK K) | (refine wx_quietG (by rfl) (by rfl) (by rfl) (by rfl) (by rfl) (fun K hK => ?_); go_big_quiet_op; refine hK _ ?_; clear hK K) | (refine wx_skipG (by rfl) (by rfl) (by rfl) (fun K hK => ?_); go_simp; refine hK _ ?_; clear hK K) | (refine wx_skipN (by rfl) (by rfl) (by rfl) (fun K hK => ?_); go_simp; refine hK _ ?_; clear hK K))
  refine wx_loudU (us := [4]) (by rfl) (by rfl) (fun S wS hC hS hU => runs_enter (f := 38) (by go_simp <;> rfl) ?_) (fun v hv K hK => ?_)
  · exact pput_x 4 _ _ (hU 4 (by simp)) (Nat.le_trans hB2 hC.size) (by omega) (by omega) (by omega) (by omega)
  obtain ⟨RA8, Rc8, rfl⟩ := hv; (go_simp; refine hK _ ?_; clear hK K)
  repeat (first | (refine wx_quietU (by rfl) (by rfl) (by rfl) (fun K hK => ?_); go_big_quiet_op; refine hK _ ?_; clear hK K) | (refine wx_quietG (by rfl) (by rfl) (by rfl) (by rfl) (by rfl) (fun K hK => ?_); go_big_quiet_op; refine hK _ ?_; clear hK K) | (refine wx_skipG (by rfl) (by rfl) (by rfl) (fun K hK => ?_); go_simp; refine hK _ ?_; clear hK K) | (refine wx_skipN (by rfl) (by rfl) (by rfl) (fun K hK => ?_); go_simp; refine hK _ ?_; clear hK K))
  refine wx_nil fun wreg hsat => ?_
  have hown3 := sat_row hsat 8 (by rfl)
  have hb3 := hb2.trans (hsat.1.below_of hB2 (ownF_ge hown2))
  clear hsat k24 k25 k1 hown2 hb2 hS1
  have k1 : ∀ i, wreg.cell? ⟨w.heap.size, i, none⟩ = _ := fun i => (hb3.cell (p := ⟨w.heap.size, i, none⟩) (by simp; omega)).trans (hc0 i)
  go_wp2_with fail
  clear k1 hc0
  generalize hF : be 4 mask ++ be 2 (w64 intv).toNat ++ [2, PK.u8 prio] ++ be 4 (w64 dead).toNat ++ be 4 dr ++ be 4 bdr = F at *
  clear hF
  have HS0 := hid hs
  clear hs
  have hbw : ∀ wr, Below w0.heap.size w0 wr → Below w.heap.size w wr := fun wr h => hal.trans (h.mono (by omega))
  have HBW := hid hbw
  clear hbw
  go_loopw [3, 36] (fun v i wr => ∃ (k : Nat) (A : Option Addr) (c : Nat), k ≤ n1 ∧ i = .int .i64 k ∧ v = .slice A (20 + 4 * k) c ∧ wr.ownsRow w0.heap.size 5 1 (.slice A (20 + 4 * k) c) (20 + 4 * k) (B8 (F ++ routersTo nbs k)) ∧ Below w0.heap.size w0 wr) (fun _ i _ => n1 - (intOf i).toNat)
  case atStart => exact ⟨0, RA8, Rc8, Nat.zero_le _, rfl, rfl, by simpa [routersTo] using hown3, hb3⟩
  case round =>
    obtain ⟨k, A, c, hk, rfl, rfl, hownr, hbr⟩ := hrel
    clear hown3 hb3
    have hsz := hbr.size
    by_cases hlt : k < n1
    · have hr := HS0.out.below (HBW.out wr hbr)
      obtain ⟨b, off, rfl, hbl, q0⟩ := hr.u32 hlt
      have hlt' : k < nbs.length := by rw [HN.out]; exact hlt
      have hx : natAt nbs k < 4294967296 := by
        unfold natAt
        rw [List.getD_eq_getElem?_getD, List.getElem?_eq_getElem hlt']
        exact hnb _ (List.getElem_mem hlt')
      have HS := hid (routersTo_succ nbs k hlt')
      clear hlt'
      have e2 : IntKind.u64.wrap (natAt nbs k : Int) = (natAt nbs k : Int) := IntWalk.u64_in _ (by omega)
      go_wp2_with fail
      refine (pput_any w0.heap.size _ c 4 A _ (natAt nbs k) wr hownr hsz (by omega) (by omega) (by omega) (by omega)).mono ?_
      rintro e w3 ⟨A3, c3, rfl, hown3, hb3, _, _⟩
      have hbr3 := hbr.trans hb3
      clear hb3
      go_wp2_with fail
      go_light
      have hk12 : 20 + 4 * k + 4 = 20 + 4 * (k + 1) := by omega
      rw [hk12] at hown3 ⊢
      refine ⟨⟨k + 1, A3, c3, by omega, by go_num, rfl, ?_, hbr3⟩, by simp [intOf]; omega⟩
      rw [HS.out]
      simpa [List.append_assoc] using hown3
    · obtain rfl : k = n1 := by omega
      go_wp2_with fail
      go_ret
      refine ⟨_, c, _, rfl, own_base (base := w0.heap.size) ?_ (by omega), HBW.out wr hbr⟩
      rw [HG.out]
      exact hownr
end Go.Proofs.Ytgopkpogakjckaa
