/-
  Contract of packet's Put.
-/
import Derived.Test.YtgopkpogakjckaaPk6
import Derived.Test.YtgopkpogakjckaaPk8
namespace Go.Proofs.Ytgopkpogakjckaa
set_option linter.unusedVariables false
set_option linter.unusedSimpArgs false
open Go Go.RowKit SM LM PK

theorem rightP_lens (P : Pkt) (h : rightP P = true) : (1 ≤ P.ty ∧ P.ty ≤ 5) ∧ P.nbs.length ≤ 20 ∧ P.heads.length ≤ 20 ∧ P.keys.length ≤ 20 ∧ P.lsas.length ≤ 20 ∧ P.auth.size ≤ 8 ∧ (P.ty ≠ 4 → P.lsas = []) := by
  unfold rightP plainP noHello greetsP at h
  simp only [Bool.and_eq_true, Bool.or_eq_true, decide_eq_true_eq, beq_iff_eq, bne_iff_ne, ne_eq, List.length_eq_zero_iff] at h
  obtain ⟨⟨⟨⟨⟨⟨⟨⟨⟨⟨h1, h2⟩, h3⟩, ⟨⟨⟨q1, q2⟩, q3⟩, q4⟩, q5⟩, h5⟩, h6⟩, h7⟩, h8⟩, h9⟩, h10⟩, h11⟩ := h
  refine ⟨h1, ?_, h6, h7, h8, h2, fun hh => by rcases q5 with q | q; exact absurd q hh; exact q⟩
  rcases q1 with q | q
  · rcases h5 with g | g
    · exact absurd q g
    · exact g.2
  · rw [q.2]; simp
set_option maxRecDepth 100000 in
set_option maxHeartbeats 800000 in
theorem pPut_no
    (P : Pkt) (A1 : Option Addr) (n1 c1 : Nat) (A2 : Option Addr) (n2 c2 : Nat) (A3 : Option Addr) (n3 c3 : Nat) (A4 : Option Addr) (n4 c4 : Nat) (R : List LsR) (w : World) (h : IsPk w P A1 n1 c1 A2 n2 c2 A3 n3 c3 A4 n4 c4 R)
    (hwf : WfP P) (hr : rightR P = false) : Calls Try.prog 8 #[.agg (pkC P A1 n1 c1 A2 n2 c2 A3 n3 c3 A4 n4 c4)] w fun e w' => e = .returned (.tuple #[.slice none 0 0, .int .i64 1]) ∧ Below w.heap.size w w' := by
  have HRR := hid hr
  have hrl := rightP_lens P
  have hbody := fun w h => pbody_any P A1 n1 c1 A2 n2 c2 A3 n3 c3 A4 n4 c4 R w h hwf
  clear hr
  have hal := (Below.refl w.heap.size w).alloc (Nat.le_refl _) (.cells (pkC P A1 n1 c1 A2 n2 c2 A3 n3 c3 A4 n4 c4) 40)
  have hc0 := (blk_cells (heap_alloc_new w (.cells (pkC P A1 n1 c1 A2 n2 c2 A3 n3 c3 A4 n4 c4) 40))).1
  have hz0 : (w.alloc (.cells (pkC P A1 n1 c1 A2 n2 c2 A3 n3 c3 A4 n4 c4) 40)).heap.size = w.heap.size + 1 := by simp
  have h0 := h.below hal
  have hn := h.lens
  clear h
  have HRT := fun w h => hid (pright_any P A1 n1 c1 A2 n2 c2 A3 n3 c3 A4 n4 c4 R w h)
  obtain ⟨ty, router, area, auth, mask, intv, dead, prio, dr, bdr, nbs, flags, seq, heads, keys, lsas⟩ := P
  go_enter Try.func8, Try.ntmps8
  go_upto_region 1 with fail
  generalize w.alloc (.cells (pkC ⟨ty, router, area, auth, mask, intv, dead, prio, dr, bdr, nbs, flags, seq, heads, keys, lsas⟩ A1 n1 c1 A2 n2 c2 A3 n3 c3 A4 n4 c4) 40) = w0 at *
  go_wp2_with fail
  refine (HRT _ h0).out.mono ?_
  rintro e w1 ⟨rfl, hb1⟩
  have hk1 : ∀ i, w1.cell? ⟨w.heap.size, i, none⟩ = _ := fun i => (hb1.cell (p := ⟨w.heap.size, i, none⟩) (by simp; omega)).trans (hc0 i)
  have hbb1 := hal.trans (hb1.mono (by omega))
  have h1 := h0.below hb1
  have hz1 : w.heap.size + 1 ≤ w1.heap.size := by have := hb1.size; omega
  clear h0 hc0 hb1
  generalize hR : rightP ⟨ty, router, area, auth, mask, intv, dead, prio, dr, bdr, nbs, flags, seq, heads, keys, lsas⟩ = b
  cases b
  · go_wp2_with fail
    go_ret2
    exact ⟨rfl, hbb1⟩
  · obtain ⟨q1, q2, q3, q4, q5, q6⟩ := hrl hR
    obtain ⟨hn1, hn2, hn3, hn4⟩ := hn
    try simp only at hn1 hn2 hn3 hn4 q1 q2 q3 q4 q5
    obtain ⟨q6, q7⟩ := q6
    have hb := hbody w1 h1 (by omega) (by omega) (by omega) (by omega) q1
    have HB := hid hb
    have hno : lsas.all Lsa.right = false := by
      have := HRR.out
      unfold rightR at this
      rw [hR, Bool.true_and] at this
      exact this
    have hbp : ¬ (ty = 4 → lsas.all Lsa.right = true) := by
      intro hh
      by_cases t4 : ty = 4
      · rw [hno] at hh; exact absurd (hh t4) (by simp)
      · rw [q7 t4] at hno; simp at hno
    have HBP := hid hbp
    clear hbody hrl hb q1 q2 q3 q4 q5 q6 q7 hno hR hn1 hn2 hn3 hn4 hbp h1 HRT
    go_wp2_with fail
    refine HB.out.mono ?_
    rintro e w2 (⟨_, rfl, hb2⟩ | ⟨hk, A, n, c, rfl, hown, hb2⟩)
    · have hbb2 := hbb1.trans (hb2.mono (by omega))
      go_wp2_with fail
      go_ret2
      exact ⟨rfl, hbb2⟩
    · exact absurd hk HBP.out
set_option maxRecDepth 100000 in
set_option maxHeartbeats 3200000 in
theorem pPut_yes
    (P : Pkt) (A1 : Option Addr) (n1 c1 : Nat) (A2 : Option Addr) (n2 c2 : Nat) (A3 : Option Addr) (n3 c3 : Nat) (A4 : Option Addr) (n4 c4 : Nat) (R : List LsR) (w : World) (h : IsPk w P A1 n1 c1 A2 n2 c2 A3 n3 c3 A4 n4 c4 R)
    (hwf : WfP P) (hr : rightR P = true) : Calls Try.prog 8 #[.agg (pkC P A1 n1 c1 A2 n2 c2 A3 n3 c3 A4 n4 c4)] w fun e w' => ∃ A c n, e = .returned (.tuple #[.slice A n c, .int .i64 0]) ∧ w'.ownsRow w.heap.size 5 1 (.slice A n c) n (B8 (putP P)) ∧ Below w.heap.size w w' := by
  have HRR := hid hr
  have hrl := rightP_lens P
  have hblen := bodyB_length P (rightR_spec P hr)
  have hbody := fun w h => pbody_any P A1 n1 c1 A2 n2 c2 A3 n3 c3 A4 n4 c4 R w h hwf
  have hw1 := hwf.router
  have hw2 := hwf.area
  clear hr hwf
  have HRAW : Hid (rawP P = [2, PK.u8 P.ty] ++ be 2 (24 + (bodyB P).length) ++ be 4 P.router ++ be 4 P.area ++ be 2 0 ++ be 2 (kindP P.auth) ++ key8 P.auth ++ bodyB P) := rfl
  have HPUT : Hid (putP P = ((rawP P).set 12 (UInt8.ofNat (sumP (rawP P) / 256))).set 13 (UInt8.ofNat (sumP (rawP P) % 256))) := rfl
  have hsl := inet_le (sumL (rawP P))
  rw [show inet (sumL (rawP P)) = sumP (rawP P) from rfl] at hsl
  have hrlen := rawP_length P
  have hal := (Below.refl w.heap.size w).alloc (Nat.le_refl _) (.cells (pkC P A1 n1 c1 A2 n2 c2 A3 n3 c3 A4 n4 c4) 40)
  have hc0 := (blk_cells (heap_alloc_new w (.cells (pkC P A1 n1 c1 A2 n2 c2 A3 n3 c3 A4 n4 c4) 40))).1
  have hz0 : (w.alloc (.cells (pkC P A1 n1 c1 A2 n2 c2 A3 n3 c3 A4 n4 c4) 40)).heap.size = w.heap.size + 1 := by simp
  have h0 := h.below hal
  have hn := h.lens
  clear h
  have HRT := fun w h => hid (pright_any P A1 n1 c1 A2 n2 c2 A3 n3 c3 A4 n4 c4 R w h)
  obtain ⟨ty, router, area, auth, mask, intv, dead, prio, dr, bdr, nbs, flags, seq, heads, keys, lsas⟩ := P
  go_enter Try.func8, Try.ntmps8
  go_upto_region 1 with fail
  generalize w.alloc (.cells (pkC ⟨ty, router, area, auth, mask, intv, dead, prio, dr, bdr, nbs, flags, seq, heads, keys, lsas⟩ A1 n1 c1 A2 n2 c2 A3 n3 c3 A4 n4 c4) 40) = w0 at *
  go_wp2_with fail
  refine (HRT _ h0).out.mono ?_
  rintro e w1 ⟨rfl, hb1⟩
  have hk1 : ∀ i, w1.cell? ⟨w.heap.size, i, none⟩ = _ := fun i => (hb1.cell (p := ⟨w.heap.size, i, none⟩) (by simp; omega)).trans (hc0 i)
  have hbb1 := hal.trans (hb1.mono (by omega))
  have h1 := h0.below hb1
  have hz1 : w.heap.size + 1 ≤ w1.heap.size := by have := hb1.size; omega
  clear h0 hc0 hb1
  have hR : rightP ⟨ty, router, area, auth, mask, intv, dead, prio, dr, bdr, nbs, flags, seq, heads, keys, lsas⟩ = true := by
    have := HRR.out
    unfold rightR at this
    simp only [Bool.and_eq_true] at this
    exact this.1
  obtain ⟨q1, q2, q3, q4, q5, q6, q7⟩ := hrl hR
  obtain ⟨hn1, hn2, hn3, hn4⟩ := hn
  try simp only at hn1 hn2 hn3 hn4 q1 q2 q3 q4 q5 q6 hw1 hw2
  have HB := hid (hbody w1 h1 (by omega) (by omega) (by omega) (by omega) q1)
  have hyes : lsas.all Lsa.right = true := by
    have := HRR.out
    unfold rightR at this
    simp only [Bool.and_eq_true] at this
    exact this.2
  have HYES := hid hyes
  rw [hR]
  clear hbody hrl q1 q2 q3 q4 q5 q6 q7 hyes hR hn1 hn2 hn3 hn4 h1 HRT HRR
  generalize hPE : putP ⟨ty, router, area, auth, mask, intv, dead, prio, dr, bdr, nbs, flags, seq, heads, keys, lsas⟩ = PUT at HPUT
  have HPE := hid hPE
  clear hPE
  generalize hRAW : rawP ⟨ty, router, area, auth, mask, intv, dead, prio, dr, bdr, nbs, flags, seq, heads, keys, lsas⟩ = RAW at *
  clear hRAW
  go_wp2_with fail
  refine HB.out.mono ?_
  rintro e w2 (⟨⟨_, hno⟩, _⟩ | ⟨_, A, c, n, rfl, hown, hb2⟩)
  · exact absurd hno (by rw [HYES.out]; simp)
  clear HB HYES
  have hk2 : ∀ i, w2.cell? ⟨w.heap.size, i, none⟩ = _ := fun i => (hb2.cell (p := ⟨w.heap.size, i, none⟩) hz1).trans (hk1 i)
  have hbb2 := hbb1.trans (hb2.mono (by omega))
  have hz2 : w.heap.size + 1 ≤ w2.heap.size := by have := hb2.size; omega
  have hnl := (own_sl hown).len.1
  have HBL : Hid ((bodyB ⟨ty, router, area, auth, mask, intv, dead, prio, dr, bdr, nbs, flags, seq, heads, keys, lsas⟩).length = n) := hid hnl
  rw [hnl] at hblen hrlen
  try simp only at HRAW
  rw [hnl] at HRAW
  replace hown := own_base (base' := w.heap.size + 1) hown hz1
  have HRL := hid hrlen
  generalize bodyB ⟨ty, router, area, auth, mask, intv, dead, prio, dr, bdr, nbs, flags, seq, heads, keys, lsas⟩ = BODY at *
  clear hk1 hb2 hbb1 hnl hrlen hz1
  go_wp2_with fail
  refine (key_any auth w2).mono ?_
  rintro e w3 ⟨gk, rfl, hownK, hb3⟩
  have hk3 : ∀ i, w3.cell? ⟨w.heap.size, i, none⟩ = _ := fun i => (hb3.cell (p := ⟨w.heap.size, i, none⟩) hz2).trans (hk2 i)
  have hbb3 := hbb2.trans (hb3.mono (by omega))
  have hz3 : w.heap.size + 1 ≤ w3.heap.size := by have := hb3.size; omega
  replace hown := own_below hown hb3
  have hkb : kindP auth ≤ 1 := by unfold kindP; split <;> omega
  have hslK := own_sl hownK
  clear hownK hb3 hk2 hbb2
  generalize kindP auth = kd at *
  generalize key8 auth = k8 at *
  have hty : Hid ((#[.int .u8 2, .int .u8 (IntKind.u8.wrap ty)] : Array Value) = (B8 [2, PK.u8 ty]).toArray) := by
    show _ = _
    simp [B8, PK.u8, IntKind.wrap_u8]; omega
  have hmade := own_made w3 w3.heap.size 5 1 2 #[.int .u8 2, .int .u8 (IntKind.u8.wrap ty)] (B8 [2, PK.u8 ty]) (Nat.le_refl _) hty.out (by rfl) (by omega) (by omega)
  have hal3 := (Below.refl w3.heap.size w3).alloc (Nat.le_refl _) (.cells #[.int .u8 2, .int .u8 (IntKind.u8.wrap ty)] 5)
  have en : IntKind.u64.wrap (24 + (n : Int)) = 24 + (n : Int) := IntWalk.u64_in _ (by omega)
  have hslB := own_sl hown
  clear hown
  go_wp2_with fail
  refine (pput_any w3.heap.size 2 2 2 _ [2, PK.u8 ty] (24 + n) _ hmade (by simp) (by omega) (by omega) (by omega) (by omega)).mono ?_
  rintro e w4 ⟨A4', c4', rfl, hown4, hb4, _, _⟩
  replace hb4 := hal3.trans hb4
  have hz4 := hb4.size
  have e24 : (24 + (n : Int)).toNat = 24 + n := by omega
  rw [e24] at hown4
  have hk4 : ∀ i, w4.cell? ⟨w.heap.size, i, none⟩ = _ := fun i => (hb4.cell (p := ⟨w.heap.size, i, none⟩) (by simp; omega)).trans (hk3 i)
  clear hk3 hmade hal3 e24 hty
  have e1 : IntKind.u64.wrap (router : Int) = (router : Int) := IntWalk.u64_in _ (by omega)
  have e2 : IntKind.u64.wrap (area : Int) = (area : Int) := IntWalk.u64_in _ (by omega)
  go_upto_region 8 with fail
  have hS1 : ¬ Value.ownBlock (.slice A4' 4 c4') = some w.heap.size := fun hh => by have := ownF_ge hown4 _ hh; omega
  have k2 : ∀ (x : WK (fun b => Value.ownBlock (.slice A4' 4 c4') = some b) w4) j, (wat x).cell? ⟨w.heap.size, j, none⟩ = _ := fun x j => (wat_cell (p := ⟨w.heap.size, j, none⟩) (by simp; omega) hS1 x).trans (hk4 j)
  have k21 := fun x => k2 x 1
  have k22 := fun x => k2 x 2
  simp at k21 k22
  clear k2
  replace hown4 : w4.ownsRow w3.heap.size 5 1 (.slice A4' 4 c4') 4 (B8 ([2, PK.u8 ty] ++ be 2 (24 + n))) := hown4
  refine wp_region_loud (fun b => Value.ownBlock (.slice A4' (4) c4') = some b)
    [(4, rowL [100] (w3.heap.size) 5 1 (8) (B8 ([2, PK.u8 ty] ++ be 2 (24 + n) ++ be 4 router))),
     (8, rowL [4] (w3.heap.size) 5 1 (12) (B8 ([2, PK.u8 ty] ++ be 2 (24 + n) ++ be 4 router ++ be 4 area)))]
    (labelled 100 (OwnF (w3.heap.size) 5 1 (4) (B8 ([2, PK.u8 ty] ++ be 2 (24 + n))) (.slice A4' (4) c4'))) (by kernel_rfl) (by kernel_rfl) (.cons (rowL_ok _ _ _ _ _ _) (.cons (rowL_ok _ _ _ _ _ _) .nil)) (good_one 100 (good_own _ _ _ _ _ _)) (sat_one 100 _ (ownF_lt hown4) (ownF_in hown4)) (WX.out ?_)
  repeat (first | (refine wx_quietU (by rfl) (by rfl) (by rfl) (fun K hK => ?_); go_big_quiet_op; refine hK _ ?_; clear hK K) | (refine wx_quietG (by rfl) (by rfl) (by rfl) (by rfl) (by rfl) (fun K hK => ?_); go_big_quiet_op; refine hK _ ?_; clear hK K) | (refine wx_skipG (by rfl) (by rfl) (by rfl) (fun K hK => ?_); go_simp; refine hK _ ?_; clear hK K) | (refine wx_skipN (by rfl) (by rfl) (by rfl) (fun K hK => ?_); go_simp; refine hK _ ?_; clear hK K))
  refine wx_loudU (us := [100]) (by rfl) (by rfl) (fun S wS hC hS hU => runs_enter (f := 38) (by go_simp <;> rfl) ?_) (fun v hv K hK => ?_)
  · exact pput_x 4 _ _ (hU 100 (by simp)) (Nat.le_trans hz4 hC.size) (by omega) (by omega) (by omega) (by omega)
  obtain ⟨RA4, Rc4, rfl⟩ := hv; (go_simp; refine hK _ ?_; clear hK K)
  repeat (first | (refine wx_quietU (by rfl) (by rfl) (by rfl) (fun K hK => ?_); go_big_quiet_op; refine hK _ ?_; clear hK K) | (refine wx_quietG (by rfl) (by rfl) (by rfl) (by rfl) (by rfl) (fun K hK => ?_); go_big_quiet_op; refine hK _ ?_; clear hK K) | (refine wx_skipG (by rfl) (by rfl) (by rfl) (fun K hK => ?_); go_simp; refine hK _ ?_; clear hK K) | (refine wx_skipN (by rfl) (by rfl) (by rfl) (fun K hK => ?_); go_simp; refine hK _ ?_; clear hK K))
  refine wx_loudU (us := [4]) (by rfl) (by rfl) (fun S wS hC hS hU => runs_enter (f := 38) (by go_simp <;> rfl) ?_) (fun v hv K hK => ?_)
  · exact pput_x 4 _ _ (hU 4 (by simp)) (Nat.le_trans hz4 hC.size) (by omega) (by omega) (by omega) (by omega)
  obtain ⟨RA8, Rc8, rfl⟩ := hv; (go_simp; refine hK _ ?_; clear hK K)
  repeat (first | (refine wx_quietU (by rfl) (by rfl) (by rfl) (fun K hK => ?_); go_big_quiet_op; refine hK _ ?_; clear hK K) | (refine wx_quietG (by rfl) (by rfl) (by rfl) (by rfl) (by rfl) (fun K hK => ?_); go_big_quiet_op; refine hK _ ?_; clear hK K) | (refine wx_skipG (by rfl) (by rfl) (by rfl) (fun K hK => ?_); go_simp; refine hK _ ?_; clear hK K) | (refine wx_skipN (by rfl) (by rfl) (by rfl) (fun K hK => ?_); go_simp; refine hK _ ?_; clear hK K))
  refine wx_nil fun wreg hsat => ?_
  have hown5 := sat_row hsat 8 (by rfl)
  have hb5 := hb4.trans (hsat.1.below_of hz4 (ownF_ge hown4))
  have hz5 := hb5.size
  clear hsat k21 k22 hown4 hb4 hS1 hk4 hz4
  go_wp2_with fail
  refine (pput_any w3.heap.size 12 Rc8 2 RA8 _ 0 wreg hown5 hz5 (by omega) (by omega) (by omega) (by omega)).mono ?_
  rintro e w6 ⟨A6, c6, rfl, hown6, hb6, _, _⟩
  replace hb6 := hb5.trans hb6
  have hz6 := hb6.size
  clear hown5 hb5 hz5
  go_wp2_with fail
  refine (pput_any w3.heap.size _ c6 2 A6 _ kd w6 hown6 hz6 (by omega) (by omega) (by omega) (by omega)).mono ?_
  rintro e w7 ⟨A7, c7, rfl, hown7, hb7, _, _⟩
  replace hb7 := hb6.trans hb7
  have hz7 := hb7.size
  clear hown6 hb6 hz6
  have hk7 := hslK.below hb7
  replace hown7 : w7.ownsRow w3.heap.size 5 1 (.slice A7 16 c7) 16 (B8 ([2, PK.u8 ty] ++ be 2 (24 + n) ++ be 4 router ++ be 4 area ++ be 2 0 ++ be 2 kd)) := hown7
  generalize [2, PK.u8 ty] ++ be 2 (24 + n) ++ be 4 router ++ be 4 area ++ be 2 0 ++ be 2 kd = F at hown7 HRAW
  go_wp2_with (at_builtin; refine wpList_app rfl (.tmp 49) (.tmp 50) st_bytes rfl w3.heap.size rfl hown7 rfl hk7 (B8_one _) (by simp [maxLen]) (by omega) hz7 ?_)
  intro A8 c8 w8 hown8 hg8 _
  rw [← B8_append] at hown8
  have hb8 := hb7.trans (grown_below hown7 hg8 hz7)
  have hz8 := hb8.size
  have hk8 := hslB.below hb8
  clear hown7 hg8 hb7 hz7 hk7
  go_wp2_with (at_builtin; refine wpList_app rfl (.tmp 51) (.tmp 52) st_bytes rfl w3.heap.size rfl hown8 rfl hk8 (B8_one _) (by simp [maxLen]; omega) (by omega) hz8 ?_)
  intro A9 c9 w9 hown9 hg9 _
  rw [← B8_append, ← HRAW.out] at hown9
  have hb9 := hb8.trans (grown_below hown8 hg9 hz8)
  have hz9 := hb9.size
  clear hown8 hg9 hb8 hz8 hk8 hslK hslB
  obtain ⟨g, rfl, hgl, hgs⟩ := own_some hown9 (by omega)
  go_wp2_with fail
  refine (sum_any _ _ c9 RAW w9 (own_sl hown9) (by omega) (by omega)).mono ?_
  rintro e w10 ⟨rfl, hb10⟩
  replace hown9 := own_below hown9 hb10
  have hbA := hb9.trans (hb10.mono hz9)
  clear hb9 hb10
  obtain ⟨p0, p1⟩ := own_byte hown9 12 (by omega)
  obtain ⟨p2, p3⟩ := own_byte hown9 13 (by omega)
  generalize sumP RAW = sm at *
  have hown11 := ((hown9.stored 12 (.int .u8 ((sm : Int) / 256))).1.stored 13 (.int .u8 ((sm : Int) % 256))).1
  have hset : Hid (((B8 RAW).set 12 (.int .u8 ((sm : Int) / 256))).set 13 (.int .u8 ((sm : Int) % 256)) = B8 PUT) := by
    show _ = _
    rw [HPUT.out, ← B8_set, ← B8_set]
    have a1 : (UInt8.ofNat (sm / 256)).toNat = sm / 256 := by simp; omega
    have a2 : (UInt8.ofNat (sm % 256)).toNat = sm % 256 := by simp
    rw [a1, a2]
    simp
  rw [hset.out] at hown11
  have hbB := (hbA.setCell (p := ⟨g, 12, none⟩) hgl (.int .u8 ((sm : Int) / 256))).setCell (p := ⟨g, 13, none⟩) hgl (.int .u8 ((sm : Int) % 256))
  have hfin := hbb3.trans (hbB.mono (by omega))
  clear hset hown9 hbA hbB
  go_wp2_with fail
  go_ret2
  refine ⟨_, c9, _, rfl, ?_, hfin⟩
  rw [HPE.out]
  exact own_base (base := w3.heap.size) hown11 (by omega)
end Go.Proofs.Ytgopkpogakjckaa
