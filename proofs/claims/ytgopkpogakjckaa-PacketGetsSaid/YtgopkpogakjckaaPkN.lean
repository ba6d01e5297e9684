/-
  Contract of the reference's Put of packets.
-/
import Derived.Test.YtgopkpogakjckaaPkI
import Derived.Test.YtgopkpogakjckaaPk6
import Derived.Test.YtgopkpogakjckaaPk8
import Derived.Test.YtgopkpogakjckaaLsa3
import Derived.Test.YtgopkpogakjckaaLsa9
namespace Go.Proofs.Ytgopkpogakjckaa
set_option linter.unusedVariables false
set_option linter.unusedSimpArgs false
open Go Go.RowKit SM LM PK

set_option maxRecDepth 100000 in
set_option maxHeartbeats 800000 in
theorem rPut_no
    (P : Pkt) (A1 : Option Addr) (n1 c1 : Nat) (A2 : Option Addr) (n2 c2 : Nat) (A3 : Option Addr) (n3 c3 : Nat) (A4 : Option Addr) (n4 c4 : Nat) (R : List LsR) (w : World) (h : IsPk w P A1 n1 c1 A2 n2 c2 A3 n3 c3 A4 n4 c4 R)
    (hr : rightR P = false) (hsa : P.auth.size ≤ 9223372036854775807) : Calls Try.prog 10 #[.agg (pkC P A1 n1 c1 A2 n2 c2 A3 n3 c3 A4 n4 c4)] w fun e w' => e = .returned (.tuple #[.slice none 0 0, .bool false]) ∧ Below w.heap.size w w' := by
  have HR := hid hr
  clear hr
  have hal := (Below.refl w.heap.size w).alloc (Nat.le_refl _) (.cells (pkC P A1 n1 c1 A2 n2 c2 A3 n3 c3 A4 n4 c4) 30)
  have hc0 := (blk_cells (heap_alloc_new w (.cells (pkC P A1 n1 c1 A2 n2 c2 A3 n3 c3 A4 n4 c4) 30))).1
  have hz0 : (w.alloc (.cells (pkC P A1 n1 c1 A2 n2 c2 A3 n3 c3 A4 n4 c4) 30)).heap.size = w.heap.size + 1 := by simp
  have h0 := h.below hal
  have hn := h.lens
  clear h
  have HRT := fun w h => hid (rright_any P A1 n1 c1 A2 n2 c2 A3 n3 c3 A4 n4 c4 R w h hsa)
  obtain ⟨ty, router, area, auth, mask, intv, dead, prio, dr, bdr, nbs, flags, seq, heads, keys, lsas⟩ := P
  go_enter Try.func10, Try.ntmps10
  go_upto_region 1 with fail
  generalize w.alloc (.cells (pkC ⟨ty, router, area, auth, mask, intv, dead, prio, dr, bdr, nbs, flags, seq, heads, keys, lsas⟩ A1 n1 c1 A2 n2 c2 A3 n3 c3 A4 n4 c4) 30) = w0 at *
  go_wp2_with fail
  refine (HRT _ h0).out.mono ?_
  rintro e w1 ⟨rfl, hb1⟩
  have hk1 : ∀ i, w1.cell? ⟨w.heap.size, i, none⟩ = _ := fun i => (hb1.cell (p := ⟨w.heap.size, i, none⟩) (by simp; omega)).trans (hc0 i)
  have hbb1 := hal.trans (hb1.mono (by omega))
  have h1 := h0.below hb1
  have hz1 : w.heap.size + 1 ≤ w1.heap.size := by have := hb1.size; omega
  clear h0 hc0 hb1 hal hz0
  clear w0
  rw [HR.out]
  go_wp2_with fail
  go_ret2
  exact ⟨rfl, hbb1⟩
theorem hdsTo_len (l : List Hdr) (k : Nat) : (hdsTo l k).length = 20 * min k l.length := by
  unfold hdsTo
  rw [flatMap_length_const _ Hdr.bytes 20 (fun x => hdrB_length _ _ _ _ _ _ _), List.length_take]
  omega
/-- the sum of a packet without its key -/
theorem sum_front (P : Pkt) : sumL (rawP P) = frontB P (bodyB P).length ++ bodyB P := by
  have hf := frontB_length P (bodyB P).length
  have hk := key8_length P.auth
  have e1 : (rawP P).take 16 = frontB P (bodyB P).length := by
    unfold rawP
    rw [List.append_assoc]
    exact List.take_left' hf
  have e2 : (rawP P).drop 24 = bodyB P := by
    unfold rawP
    rw [show 24 = (frontB P (bodyB P).length ++ key8 P.auth).length by rw [List.length_append, hf, hk]]
    exact List.drop_left
  unfold sumL
  rw [e1, e2]
  unfold frontB
  have h12 : ([2, PK.u8 P.ty] ++ be 2 (24 + (bodyB P).length) ++ be 4 P.router ++ be 4 P.area).length = 12 := by simp [be_length]
  have hb0 : be 2 0 = [0, 0] := by decide
  rw [hb0]
  generalize [2, PK.u8 P.ty] ++ be 2 (24 + (bodyB P).length) ++ be 4 P.router ++ be 4 P.area = F at h12
  generalize be 2 (kindP P.auth) ++ bodyB P = T at *
  simp only [List.append_assoc]
  rw [List.set_append_right _ _ (by omega), h12, List.set_append_right _ _ (by omega), h12]
  rfl
theorem put_parts (P : Pkt) (s : Nat) (hs : s = sumP (rawP P)) : putP P = (((frontB P (bodyB P).length).set 12 (UInt8.ofNat (s / 256))).set 13 (UInt8.ofNat (s % 256)) ++ key8 P.auth) ++ bodyB P := by
  subst hs
  have hf := frontB_length P (bodyB P).length
  unfold putP fixP
  generalize sumP (rawP P) = s
  unfold rawP
  rw [List.append_assoc, List.set_append_left _ _ (by omega), List.set_append_left _ _ (by rw [List.length_set]; omega), List.append_assoc]
set_option maxRecDepth 100000 in
set_option maxHeartbeats 20000000 in
theorem rPut_yes
    (P : Pkt) (A1 : Option Addr) (n1 c1 : Nat) (A2 : Option Addr) (n2 c2 : Nat) (A3 : Option Addr) (n3 c3 : Nat) (A4 : Option Addr) (n4 c4 : Nat) (R : List LsR) (w : World) (h : IsPk w P A1 n1 c1 A2 n2 c2 A3 n3 c3 A4 n4 c4 R)
    (hwf : WfP P) (hr : rightR P = true) : Calls Try.prog 10 #[.agg (pkC P A1 n1 c1 A2 n2 c2 A3 n3 c3 A4 n4 c4)] w fun e w' => ∃ A c n, e = .returned (.tuple #[.slice A n c, .bool true]) ∧ w'.ownsRow w.heap.size 5 1 (.slice A n c) n (B8 (putP P)) ∧ Below w.heap.size w w' := by
  have HR := hid hr
  have hnp := hwf
  obtain ⟨hwt, hw1, hw2, hw3, hw4, hw5, hw6, hw7, hw8, hw9, hw10, hw11, hw12, hw13, hw14⟩ := hwf
  have hRS := rightR_spec P hr
  have hlen := bodyB_length P hRS
  have HPUT := hid (put_parts P (sumP (rawP P)) rfl)
  have HSUM := hid (sum_front P)
  have HFRO : Hid (frontB P (bodyB P).length = [2, PK.u8 P.ty] ++ be 2 (24 + (bodyB P).length) ++ be 4 P.router ++ be 4 P.area ++ be 2 0 ++ be 2 (kindP P.auth)) := rfl
  have hbody : Hid (bodyB P = mainB P ++ P.heads.flatMap Hdr.bytes) := rfl
  have hsl := inet_le (sumL (rawP P))
  rw [show inet (sumL (rawP P)) = sumP (rawP P) from rfl] at hsl
  have HSP : Hid (inet (sumL (rawP P)) = sumP (rawP P)) := rfl
  have hln : P.nbs.length ≤ 20 ∧ P.heads.length ≤ 20 ∧ P.keys.length ≤ 20 ∧ P.lsas.length ≤ 20 := by
    refine ⟨?_, ?_, ?_, ?_⟩ <;> (refine Nat.le_of_not_lt fun hh => ?_; have := rr_lens P (by omega); rw [hr] at this; exact absurd this (by simp))
  have hlr : P.lsas.all Lsa.right = true := by
    unfold rightR at hr
    simp only [Bool.and_eq_true] at hr
    exact hr.2
  have HLR := hid hlr
  have hty : 1 ≤ P.ty ∧ P.ty ≤ 5 := by
    unfold rightR rightP at hr
    simp only [Bool.and_eq_true, decide_eq_true_eq] at hr
    exact hr.1.1.1.1.1.1.1.1.1.1.1
  have hsa : P.auth.size ≤ 9223372036854775807 := by
    refine Nat.le_of_not_lt fun hh => ?_
    have := rr_lens P (by omega)
    rw [hr] at this
    exact absurd this (by simp)
  clear hr hnp hlr hRS
  have hal := (Below.refl w.heap.size w).alloc (Nat.le_refl _) (.cells (pkC P A1 n1 c1 A2 n2 c2 A3 n3 c3 A4 n4 c4) 30)
  have hc0 := (blk_cells (heap_alloc_new w (.cells (pkC P A1 n1 c1 A2 n2 c2 A3 n3 c3 A4 n4 c4) 30))).1
  have hz0 : (w.alloc (.cells (pkC P A1 n1 c1 A2 n2 c2 A3 n3 c3 A4 n4 c4) 30)).heap.size = w.heap.size + 1 := by simp
  have h0 := h.below hal
  have hn := h.lens
  clear h
  have HRT := fun w h => hid (rright_any P A1 n1 c1 A2 n2 c2 A3 n3 c3 A4 n4 c4 R w h hsa)
  obtain ⟨ty, router, area, auth, mask, intv, dead, prio, dr, bdr, nbs, flags, seq, heads, keys, lsas⟩ := P
  go_enter Try.func10, Try.ntmps10
  go_upto_region 1 with fail
  generalize w.alloc (.cells (pkC ⟨ty, router, area, auth, mask, intv, dead, prio, dr, bdr, nbs, flags, seq, heads, keys, lsas⟩ A1 n1 c1 A2 n2 c2 A3 n3 c3 A4 n4 c4) 30) = w0 at *
  go_wp2_with fail
  refine (HRT _ h0).out.mono ?_
  rintro e w1 ⟨rfl, hb1⟩
  have hk1 : ∀ i, w1.cell? ⟨w.heap.size, i, none⟩ = _ := fun i => (hb1.cell (p := ⟨w.heap.size, i, none⟩) (by simp; omega)).trans (hc0 i)
  have hbb1 := hal.trans (hb1.mono (by omega))
  have h1 := h0.below hb1
  have hz1 : w.heap.size + 1 ≤ w1.heap.size := by have := hb1.size; omega
  clear h0 hc0 hb1 hal hz0
  clear w0
  rw [HR.out]
  obtain ⟨hn1, hn2, hn3, hn4⟩ := hn
  try simp only at hn1
  try simp only at hn2
  try simp only at hn3
  try simp only at hn4
  try simp only at hwt
  try simp only at hw1
  try simp only at hw2
  try simp only at hw3
  try simp only at hw4
  try simp only at hw5
  try simp only at hw6
  try simp only at hw7
  try simp only at hw8
  try simp only at hw9
  try simp only at hw10
  try simp only at hw11
  try simp only at hw12
  try simp only at hw13
  try simp only at hw14
  try simp only at hln
  try simp only at hty
  try simp only at hsa
  obtain ⟨s1, s2, s3, s4⟩ := hln
  rw [hn1] at s1
  rw [hn2] at s2
  rw [hn3] at s3
  rw [hn4] at s4
  have HN1 := hid hn1
  have HN2 := hid hn2
  have HN3 := hid hn3
  have HN4 := hid hn4
  try simp only at HPUT
  try simp only at HFRO
  try simp only at hbody
  try simp only at HLR
  try simp only at HSP
  generalize hpp : putP ⟨ty, router, area, auth, mask, intv, dead, prio, dr, bdr, nbs, flags, seq, heads, keys, lsas⟩ = PUT at *
  generalize hbo : bodyB ⟨ty, router, area, auth, mask, intv, dead, prio, dr, bdr, nbs, flags, seq, heads, keys, lsas⟩ = BODY at *
  generalize hsp : sumP (rawP ⟨ty, router, area, auth, mask, intv, dead, prio, dr, bdr, nbs, flags, seq, heads, keys, lsas⟩) = sm at *
  generalize sumL (rawP ⟨ty, router, area, auth, mask, intv, dead, prio, dr, bdr, nbs, flags, seq, heads, keys, lsas⟩) = SL at *
  generalize frontB ⟨ty, router, area, auth, mask, intv, dead, prio, dr, bdr, nbs, flags, seq, heads, keys, lsas⟩ BODY.length = FR at *
  have HMAIN : Hid (mainB ⟨ty, router, area, auth, mask, intv, dead, prio, dr, bdr, nbs, flags, seq, heads, keys, lsas⟩ = if ty = 1 then greetB ⟨ty, router, area, auth, mask, intv, dead, prio, dr, bdr, nbs, flags, seq, heads, keys, lsas⟩
    else if ty = 2 then [5, 220, 2, PK.u8 flags] ++ be 4 seq
    else if ty = 3 then keys.flatMap Ky.bytes
    else if ty = 4 then be 4 lsas.length ++ lsas.flatMap putB
    else []) := rfl
  have hMl : mainB ⟨ty, router, area, auth, mask, intv, dead, prio, dr, bdr, nbs, flags, seq, heads, keys, lsas⟩ = mainB ⟨ty, router, area, auth, mask, intv, dead, prio, dr, bdr, nbs, flags, seq, heads, keys, lsas⟩ := rfl
  generalize mainB ⟨ty, router, area, auth, mask, intv, dead, prio, dr, bdr, nbs, flags, seq, heads, keys, lsas⟩ = MAIN at HMAIN hbody
  have hMlen : MAIN.length ≤ 20000 := by
    have := congrArg List.length hbody.out
    rw [List.length_append] at this
    omega
  have HPE := hid hpp
  clear hn1 hn2 hn3 hn4 hpp hbo hsp hMl
  go_upto_region 4 with fail
  iterate 10 (first | go_guarded | go_step | go_upon)
  have K1 := hid hk1
  have H1 := hid h1
  clear h1
  go_cut [4] (fun v wx => ∃ (A : Option Addr) (n c : Nat), v = .slice A n c ∧ n = MAIN.length ∧ wx.ownsRow w1.heap.size 5 1 (.slice A n c) n (B8 MAIN) ∧ Below w1.heap.size w1 wx)
  case first =>
    have hk1 := K1.out
    by_cases t1 : ty = 1
    · subst t1
      as_aux_lemma =>
        have hcg := (blk_cells (heap_alloc_new w1 (.cells (gtC ⟨1, router, area, auth, mask, intv, dead, prio, dr, bdr, nbs, flags, seq, heads, keys, lsas⟩ A1 n1 c1) 25))).1
        have hbg := (Below.refl w1.heap.size w1).alloc (by omega) (.cells (gtC ⟨1, router, area, auth, mask, intv, dead, prio, dr, bdr, nbs, flags, seq, heads, keys, lsas⟩ A1 n1 c1) 25)
        have hzg : (w1.alloc (.cells (gtC ⟨1, router, area, auth, mask, intv, dead, prio, dr, bdr, nbs, flags, seq, heads, keys, lsas⟩ A1 n1 c1) 25)).heap.size = w1.heap.size + 1 := by simp
        have HM : Hid (MAIN = be 4 mask ++ be 2 (w64 intv).toNat ++ [2, PK.u8 prio] ++ be 4 (w64 dead).toNat ++ be 4 dr ++ be 4 bdr ++ routersTo nbs n1) := by
          show _ = _
          rw [HMAIN.out, if_pos rfl, ← HN1.out]
          simp [greetB, routersTo]
        have b1 := w64_bd intv
        have b2 := w64_bd dead
        have e1 : IntKind.u64.wrap (mask : Int) = (mask : Int) := IntWalk.u64_in _ (by omega)
        have e2 : IntKind.u64.wrap intv = w64 intv := rfl
        have e3 : IntKind.u64.wrap dead = w64 dead := rfl
        have e4 : IntKind.u64.wrap (dr : Int) = (dr : Int) := IntWalk.u64_in _ (by omega)
        have e5 : IntKind.u64.wrap (bdr : Int) = (bdr : Int) := IntWalk.u64_in _ (by omega)
        clear HPUT HSUM HFRO hbody HSP HLR HMAIN
        go_upto_region 7 with fail
        clear hk1
        have hnb := (H1.out.nbs.below hbg)
        generalize w1.alloc (.cells (gtC ⟨1, router, area, auth, mask, intv, dead, prio, dr, bdr, nbs, flags, seq, heads, keys, lsas⟩ A1 n1 c1) 25) = w2 at *
        have k0 : ∀ (x : WK (fun _ => False) w2) j, (wat x).cell? ⟨w1.heap.size, j, none⟩ = _ := fun x j => (wat_cell (p := ⟨w1.heap.size, j, none⟩) (by simp; omega) (by simp) x).trans (hcg j)
        have k00 := fun x => k0 x 0
        have k01 := fun x => k0 x 1
        have k02 := fun x => k0 x 2
        have k03 := fun x => k0 x 3
        simp at k00 k01 k02 k03
        clear k0
        refine wp_region_loud (fun _ => False)
          [(3, rowL [] (w2.heap.size) 5 1 (4) (B8 (be 4 mask))),
           (7, rowL [] (w2.heap.size) 5 1 (2) (B8 (be 2 (w64 intv).toNat))),
           (8, rowL [3, 7] (w2.heap.size) 5 1 (6) (B8 (be 4 mask ++ be 2 (w64 intv).toNat))),
           (12, rowL [] (w2.heap.size) 5 1 (2) (B8 ([2, PK.u8 prio]))),
           (13, rowL [8, 12] (w2.heap.size) 5 1 (8) (B8 (be 4 mask ++ be 2 (w64 intv).toNat ++ [2, PK.u8 prio]))),
           (17, rowL [] (w2.heap.size) 5 1 (4) (B8 (be 4 (w64 dead).toNat))),
           (18, rowL [13, 17] (w2.heap.size) 5 1 (12) (B8 (be 4 mask ++ be 2 (w64 intv).toNat ++ [2, PK.u8 prio] ++ be 4 (w64 dead).toNat)))]
          (fun _ => Fact.none) (by kernel_rfl) (by kernel_rfl) (.cons (rowL_ok _ _ _ _ _ _) (.cons (rowL_ok _ _ _ _ _ _) (.cons (rowL_ok _ _ _ _ _ _) (.cons (rowL_ok _ _ _ _ _ _) (.cons (rowL_ok _ _ _ _ _ _) (.cons (rowL_ok _ _ _ _ _ _) (.cons (rowL_ok _ _ _ _ _ _) .nil))))))) good_nothing sat_none (WX.out ?_)
        repeat (first | (refine wx_quietU (by rfl) (by rfl) (by rfl) (fun K hK => ?_); go_big_quiet_op; refine hK _ ?_; clear hK K) | (refine wx_quietG (by rfl) (by rfl) (by rfl) (by rfl) (by rfl) (fun K hK => ?_); go_big_quiet_op; refine hK _ ?_; clear hK K) | (refine wx_skipG (by rfl) (by rfl) (by rfl) (fun K hK => ?_); go_simp; refine hK _ ?_; clear hK K) | (refine wx_skipN (by rfl) (by rfl) (by rfl) (fun K hK => ?_); go_simp; refine hK _ ?_; clear hK K))
        refine wx_loudU (us := []) (by rfl) (by rfl) (fun S wS hC hS hU => runs_enter (f := 42) (by go_simp <;> rfl) ?_) (fun v hv K hK => ?_)
        · exact rnum_x 4 _ _ hC.size (by omega) (by omega) (by omega)
        obtain ⟨RA3, Rc3, rfl⟩ := hv; (go_simp; refine hK _ ?_; clear hK K)
        repeat (first | (refine wx_quietU (by rfl) (by rfl) (by rfl) (fun K hK => ?_); go_big_quiet_op; refine hK _ ?_; clear hK K) | (refine wx_quietG (by rfl) (by rfl) (by rfl) (by rfl) (by rfl) (fun K hK => ?_); go_big_quiet_op; refine hK _ ?_; clear hK K) | (refine wx_skipG (by rfl) (by rfl) (by rfl) (fun K hK => ?_); go_simp; refine hK _ ?_; clear hK K) | (refine wx_skipN (by rfl) (by rfl) (by rfl) (fun K hK => ?_); go_simp; refine hK _ ?_; clear hK K))
        refine wx_loudU (us := []) (by rfl) (by rfl) (fun S wS hC hS hU => runs_enter (f := 42) (by go_simp <;> rfl) ?_) (fun v hv K hK => ?_)
        · exact rnum_x 2 _ _ hC.size (by omega) (by omega) (by omega)
        obtain ⟨RA7, Rc7, rfl⟩ := hv; (go_simp; refine hK _ ?_; clear hK K)
        repeat (first | (refine wx_quietU (by rfl) (by rfl) (by rfl) (fun K hK => ?_); go_big_quiet_op; refine hK _ ?_; clear hK K) | (refine wx_quietG (by rfl) (by rfl) (by rfl) (by rfl) (by rfl) (fun K hK => ?_); go_big_quiet_op; refine hK _ ?_; clear hK K) | (refine wx_skipG (by rfl) (by rfl) (by rfl) (fun K hK => ?_); go_simp; refine hK _ ?_; clear hK K) | (refine wx_skipN (by rfl) (by rfl) (by rfl) (fun K hK => ?_); go_simp; refine hK _ ?_; clear hK K))
        refine wx_loudU (us := [3, 7]) (by rfl) (by rfl) (fun S wS hC hS hU => ?_) (fun v hv K hK => ?_)
        · exact app_x (.tmp 28) (.tmp 32) (by rfl) (by rfl) (by rfl) (hU 3 (by simp)) (own_sl (hU 7 (by simp)).2) (by omega) hC.size
        obtain ⟨RA8, Rc8, rfl⟩ := hv; (go_simp; refine hK _ ?_; clear hK K)
        repeat (first | (refine wx_quietU (by rfl) (by rfl) (by rfl) (fun K hK => ?_); go_big_quiet_op; refine hK _ ?_; clear hK K) | (refine wx_quietG (by rfl) (by rfl) (by rfl) (by rfl) (by rfl) (fun K hK => ?_); go_big_quiet_op; refine hK _ ?_; clear hK K) | (refine wx_skipG (by rfl) (by rfl) (by rfl) (fun K hK => ?_); go_simp; refine hK _ ?_; clear hK K) | (refine wx_skipN (by rfl) (by rfl) (by rfl) (fun K hK => ?_); go_simp; refine hK _ ?_; clear hK K))
        refine wx_loudU (us := []) (by rfl) (by rfl) (fun S wS hC hS hU => ?_) (fun v hv K hK => ?_)
        · refine runs_value (by go_simp <;> rfl) (made_x rfl hC.size ?_ (by simp [B8]) (by omega) (by omega))
          simp [B8, PK.u8, IntKind.wrap_u8]; try omega
        obtain ⟨RA12, Rc12, rfl⟩ := hv; (go_simp; refine hK _ ?_; clear hK K)
        repeat (first | (refine wx_quietU (by rfl) (by rfl) (by rfl) (fun K hK => ?_); go_big_quiet_op; refine hK _ ?_; clear hK K) | (refine wx_quietG (by rfl) (by rfl) (by rfl) (by rfl) (by rfl) (fun K hK => ?_); go_big_quiet_op; refine hK _ ?_; clear hK K) | (refine wx_skipG (by rfl) (by rfl) (by rfl) (fun K hK => ?_); go_simp; refine hK _ ?_; clear hK K) | (refine wx_skipN (by rfl) (by rfl) (by rfl) (fun K hK => ?_); go_simp; refine hK _ ?_; clear hK K))
        refine wx_loudU (us := [8, 12]) (by rfl) (by rfl) (fun S wS hC hS hU => ?_) (fun v hv K hK => ?_)
        · exact app_x (.tmp 33) (.tmp 37) (by rfl) (by rfl) (by rfl) (hU 8 (by simp)) (own_sl (hU 12 (by simp)).2) (by omega) hC.size
        obtain ⟨RA13, Rc13, rfl⟩ := hv; (go_simp; refine hK _ ?_; clear hK K)
        repeat (first | (refine wx_quietU (by rfl) (by rfl) (by rfl) (fun K hK => ?_); go_big_quiet_op; refine hK _ ?_; clear hK K) | (refine wx_quietG (by rfl) (by rfl) (by rfl) (by rfl) (by rfl) (fun K hK => ?_); go_big_quiet_op; refine hK _ ?_; clear hK K) | (refine wx_skipG (by rfl) (by rfl) (by rfl) (fun K hK => ?_); go_simp; refine hK _ ?_; clear hK K) | (refine wx_skipN (by rfl) (by rfl) (by rfl) (fun K hK => ?_); go_simp; refine hK _ ?_; clear hK K))
        refine wx_loudU (us := []) (by rfl) (by rfl) (fun S wS hC hS hU => runs_enter (f := 42) (by go_simp <;> rfl) ?_) (fun v hv K hK => ?_)
        · exact rnum_x 4 _ _ hC.size (by omega) (by omega) (by omega)
        obtain ⟨RA17, Rc17, rfl⟩ := hv; (go_simp; refine hK _ ?_; clear hK K)
        repeat (first | (refine wx_quietU (by rfl) (by rfl) (by rfl) (fun K hK => ?_); go_big_quiet_op; refine hK _ ?_; clear hK K) | (refine wx_quietG (by rfl) (by rfl) (by rfl) (by rfl) (by rfl) (fun K hK => ?_); go_big_quiet_op; refine hK _ ?_; clear hK K) | (refine wx_skipG (by rfl) (by rfl) (by rfl) (fun K hK => ?_); go_simp; refine hK _ ?_; clear hK K) | (refine wx_skipN (by rfl) (by rfl) (by rfl) (fun K hK => ?_); go_simp; refine hK _ ?_; clear hK K))
        refine wx_loudU (us := [13, 17]) (by rfl) (by rfl) (fun S wS hC hS hU => ?_) (fun v hv K hK => ?_)
        · exact app_x (.tmp 38) (.tmp 42) (by rfl) (by rfl) (by rfl) (hU 13 (by simp)) (own_sl (hU 17 (by simp)).2) (by omega) hC.size
        obtain ⟨RA18, Rc18, rfl⟩ := hv; (go_simp; refine hK _ ?_; clear hK K)
        repeat (first | (refine wx_quietU (by rfl) (by rfl) (by rfl) (fun K hK => ?_); go_big_quiet_op; refine hK _ ?_; clear hK K) | (refine wx_quietG (by rfl) (by rfl) (by rfl) (by rfl) (by rfl) (fun K hK => ?_); go_big_quiet_op; refine hK _ ?_; clear hK K) | (refine wx_skipG (by rfl) (by rfl) (by rfl) (fun K hK => ?_); go_simp; refine hK _ ?_; clear hK K) | (refine wx_skipN (by rfl) (by rfl) (by rfl) (fun K hK => ?_); go_simp; refine hK _ ?_; clear hK K))
        refine wx_nil fun wreg hsat => ?_
        have hown1 := sat_row hsat 18 (by rfl)
        have hb1 := sat_below hsat
        clear hsat k00 k01 k02 k03
        have k1 : ∀ i, wreg.cell? ⟨w1.heap.size, i, none⟩ = _ := fun i => (hb1.cell (p := ⟨w1.heap.size, i, none⟩) (by simp; omega)).trans (hcg i)
        have hB1 := hb1.size
        go_upto_region 8 with fail
        have hS1 : ¬ Value.ownBlock (.slice RA18 12 Rc18) = some w1.heap.size := fun hh => by have := ownF_ge hown1 _ hh; omega
        have k2 : ∀ (x : WK (fun b => Value.ownBlock (.slice RA18 12 Rc18) = some b) wreg) j, (wat x).cell? ⟨w1.heap.size, j, none⟩ = _ := fun x j => (wat_cell (p := ⟨w1.heap.size, j, none⟩) (by simp; omega) hS1 x).trans (k1 j)
        have k24 := fun x => k2 x 4
        have k25 := fun x => k2 x 5
        simp at k24 k25
        clear k2 k1
        obtain ⟨w3, rfl⟩ : ∃ w3 : World, w3 = wreg := ⟨_, rfl⟩
        refine wp_region_loud (fun b => Value.ownBlock (.slice RA18 (12) Rc18) = some b)
          [(4, rowL [] (w2.heap.size) 5 1 (4) (B8 (be 4 dr))),
           (5, rowL [100, 4] (w2.heap.size) 5 1 (16) (B8 (be 4 mask ++ be 2 (w64 intv).toNat ++ [2, PK.u8 prio] ++ be 4 (w64 dead).toNat ++ be 4 dr))),
           (9, rowL [] (w2.heap.size) 5 1 (4) (B8 (be 4 bdr))),
           (10, rowL [5, 9] (w2.heap.size) 5 1 (20) (B8 (be 4 mask ++ be 2 (w64 intv).toNat ++ [2, PK.u8 prio] ++ be 4 (w64 dead).toNat ++ be 4 dr ++ be 4 bdr)))]
          (labelled 100 (OwnF (w2.heap.size) 5 1 (12) (B8 (be 4 mask ++ be 2 (w64 intv).toNat ++ [2, PK.u8 prio] ++ be 4 (w64 dead).toNat)) (.slice RA18 (12) Rc18))) (by kernel_rfl) (by kernel_rfl) (.cons (rowL_ok _ _ _ _ _ _) (.cons (rowL_ok _ _ _ _ _ _) (.cons (rowL_ok _ _ _ _ _ _) (.cons (rowL_ok _ _ _ _ _ _) .nil)))) (good_one 100 (good_own _ _ _ _ _ _)) (sat_one 100 _ (ownF_lt hown1) (ownF_in hown1)) (WX.out ?_)
        repeat (first | (refine wx_quietU (by rfl) (by rfl) (by rfl) (fun K hK => ?_); go_big_quiet_op; refine hK _ ?_; clear hK K) | (refine wx_quietG (by rfl) (by rfl) (by rfl) (by rfl) (by rfl) (fun K hK => ?_); go_big_quiet_op; refine hK _ ?_; clear hK K) | (refine wx_skipG (by rfl) (by rfl) (by rfl) (fun K hK => ?_); go_simp; refine hK _ ?_; clear hK K) | (refine wx_skipN (by rfl) (by rfl) (by rfl) (fun K hK => ?_); go_simp; refine hK _ ?_; clear hK K))
        refine wx_loudU (us := []) (by rfl) (by rfl) (fun S wS hC hS hU => runs_enter (f := 42) (by go_simp <;> rfl) ?_) (fun v hv K hK => ?_)
        · exact rnum_x 4 _ _ (Nat.le_trans hB1 hC.size) (by omega) (by omega) (by omega)
        obtain ⟨RA4, Rc4, rfl⟩ := hv; (go_simp; refine hK _ ?_; clear hK K)
        repeat (first | (refine wx_quietU (by rfl) (by rfl) (by rfl) (fun K hK => ?_); go_big_quiet_op; refine hK _ ?_; clear hK K) | (refine wx_quietG (by rfl) (by rfl) (by rfl) (by rfl) (by rfl) (fun K hK => ?_); go_big_quiet_op; refine hK _ ?_; clear hK K) | (refine wx_skipG (by rfl) (by rfl) (by rfl) (fun K hK => ?_); go_simp; refine hK _ ?_; clear hK K) | (refine wx_skipN (by rfl) (by rfl) (by rfl) (fun K hK => ?_); go_simp; refine hK _ ?_; clear hK K))
        refine wx_loudU (us := [100, 4]) (by rfl) (by rfl) (fun S wS hC hS hU => ?_) (fun v hv K hK => ?_)
        · exact app_x (.tmp 44) (.tmp 48) (by rfl) (by rfl) (by rfl) (hU 100 (by simp)) (own_sl (hU 4 (by simp)).2) (by omega) (Nat.le_trans hB1 hC.size)
        obtain ⟨RA5, Rc5, rfl⟩ := hv; (go_simp; refine hK _ ?_; clear hK K)
        repeat (first | (refine wx_quietU (by rfl) (by rfl) (by rfl) (fun K hK => ?_); go_big_quiet_op; refine hK _ ?_; clear hK K) | (refine wx_quietG (by rfl) (by rfl) (by rfl) (by rfl) (by rfl) (fun K hK => ?_); go_big_quiet_op; refine hK _ ?_; clear hK K) | (refine wx_skipG (by rfl) (by rfl) (by rfl) (fun K hK => ?_); go_simp; refine hK _ ?_; clear hK K) | (refine wx_skipN (by rfl) (by rfl) (by rfl) (fun K hK => ?_); go_simp; refine hK _ ?_; clear hK K))
        refine wx_loudU (us := []) (by rfl) (by rfl) (fun S wS hC hS hU => runs_enter (f := 42) (by go_simp <;> rfl) ?_) (fun v hv K hK => ?_)
        · exact rnum_x 4 _ _ (Nat.le_trans hB1 hC.size) (by omega) (by omega) (by omega)
        obtain ⟨RA9, Rc9, rfl⟩ := hv; (go_simp; refine hK _ ?_; clear hK K)
        repeat (first | (refine wx_quietU (by rfl) (by rfl) (by rfl) (fun K hK => ?_); go_big_quiet_op; refine hK _ ?_; clear hK K) | (refine wx_quietG (by rfl) (by rfl) (by rfl) (by rfl) (by rfl) (fun K hK => ?_); go_big_quiet_op; refine hK _ ?_; clear hK K) | (refine wx_skipG (by rfl) (by rfl) (by rfl) (fun K hK => ?_); go_simp; refine hK _ ?_; clear hK K) | (refine wx_skipN (by rfl) (by rfl) (by rfl) (fun K hK => ?_); go_simp; refine hK _ ?_; clear hK K))
        refine wx_loudU (us := [5, 9]) (by rfl) (by rfl) (fun S wS hC hS hU => ?_) (fun v hv K hK => ?_)
        · exact app_x (.tmp 49) (.tmp 53) (by rfl) (by rfl) (by rfl) (hU 5 (by simp)) (own_sl (hU 9 (by simp)).2) (by omega) (Nat.le_trans hB1 hC.size)
        obtain ⟨RA10, Rc10, rfl⟩ := hv; (go_simp; refine hK _ ?_; clear hK K)
        repeat (first | (refine wx_quietU (by rfl) (by rfl) (by rfl) (fun K hK => ?_); go_big_quiet_op; refine hK _ ?_; clear hK K) | (refine wx_quietG (by rfl) (by rfl) (by rfl) (by rfl) (by rfl) (fun K hK => ?_); go_big_quiet_op; refine hK _ ?_; clear hK K) | (refine wx_skipG (by rfl) (by rfl) (by rfl) (fun K hK => ?_); go_simp; refine hK _ ?_; clear hK K) | (refine wx_skipN (by rfl) (by rfl) (by rfl) (fun K hK => ?_); go_simp; refine hK _ ?_; clear hK K))
        refine wx_nil fun wreg hsat => ?_
        have hown3 := sat_row hsat 10 (by rfl)
        have hb3 := hb1.trans (hsat.1.below_of hB1 (ownF_ge hown1))
        clear hsat k24 k25 hown1 hb1 hS1 hB1
        clear w3
        generalize be 4 mask ++ be 2 (w64 intv).toNat ++ [2, PK.u8 prio] ++ be 4 (w64 dead).toNat ++ be 4 dr ++ be 4 bdr = F at *
        go_upto_region 10 with fail
        go_loopw [4, 6] (fun v i wr => ∃ (k : Nat) (A : Option Addr) (c : Nat), k ≤ n1 ∧ i = .int .i64 k ∧ v = .slice A (20 + 4 * k) c ∧ wr.ownsRow w2.heap.size 5 1 (.slice A (20 + 4 * k) c) (20 + 4 * k) (B8 (F ++ routersTo nbs k)) ∧ Below w2.heap.size w2 wr) (fun _ i _ => n1 - (intOf i).toNat)
        case atStart => exact ⟨0, RA10, Rc10, Nat.zero_le _, rfl, rfl, by simpa [routersTo] using hown3, hb3⟩
        case round =>
          obtain ⟨k, A, c, hk, rfl, rfl, hownr, hbr⟩ := hrel
          clear hown3 hb3
          have hsz := hbr.size
          have k1 : ∀ i, wr.cell? ⟨w1.heap.size, i, none⟩ = _ := fun i => (hbr.cell (p := ⟨w1.heap.size, i, none⟩) (by simp; omega)).trans (hcg i)
          by_cases hlt : k < n1
          · have hlt' : k < nbs.length := by rw [HN1.out]; exact hlt
            obtain ⟨b, off, rfl, hbl, q0⟩ := (hnb.below hbr).u32 hlt
            have HT := hid (routersTo_succ nbs k hlt')
            have hxb : natAt nbs k < 4294967296 := hw9 _ (by unfold natAt; exact getD_in 0 nbs k hlt')
            clear hlt'
            generalize natAt nbs k = X at *
            have e9 : IntKind.u64.wrap (X : Int) = (X : Int) := IntWalk.u64_in _ (by omega)
            as_aux_lemma =>
              go_wp2_with fail
              refine (rnum_any wr.heap.size 4 X wr (Nat.le_refl _) (by omega) (by omega) (by omega)).mono ?_
              rintro e w4 ⟨A4', c4', rfl, hown4, hb4⟩
              have hownr4 := own_below hownr hb4
              have hbr4 := hbr.trans (hb4.mono hsz)
              have hsz4 := hbr4.size
              have hsl4 := own_sl hown4
              clear hownr hown4 hb4 q0 k1
              go_wp2_with (at_builtin; refine wpList_app rfl (.tmp 62) (.tmp 69) st_bytes rfl w2.heap.size rfl hownr4 rfl hsl4 (B8_one _) (by simp [maxLen]; omega) (by omega) hsz4 ?_)
              intro A5 c5 w5 hown5 hg5 _
              rw [← B8_append, List.append_assoc] at hown5
              try rw [Int.toNat_natCast] at hown5
              rw [← HT.out] at hown5
              have hbr5 := hbr4.trans (grown_below hownr4 hg5 hsz4)
              clear hg5 hownr4 hbr4 hsl4
              go_wp2_with fail
              go_light
              have hk12 : 20 + 4 * k + 4 = 20 + 4 * (k + 1) := by omega
              rw [hk12] at hown5 ⊢
              exact ⟨⟨k + 1, A5, c5, by omega, by go_num, rfl, by first | exact hown5 | (rw [hzg]; exact hown5), hbr5⟩, by simp [intOf]; omega⟩
          · obtain rfl : k = n1 := by omega
            as_aux_lemma =>
              go_wp2_with fail
              all_goals go_meet
              all_goals go_light
              refine ⟨A, 20 + 4 * k, c, rfl, ?_, ?_, hbg.trans (hbr.mono (by omega))⟩
              · have := (own_sl hownr).len.1
                rw [← HM.out] at this
                exact this.symm
              · rw [HM.out]
                exact own_base hownr (by omega)
    by_cases t2 : ty = 2
    · subst t2
      as_aux_lemma =>
        have HM : Hid (MAIN = [5, 220, 2, PK.u8 flags] ++ be 4 seq) := by show _ = _; rw [HMAIN.out, if_neg (by omega), if_pos rfl]
        have e1 : IntKind.u64.wrap (seq : Int) = (seq : Int) := IntWalk.u64_in _ (by omega)
        clear HPUT HSUM HFRO hbody HSP HLR HMAIN t1
        go_upto_region 14 with fail
        have k0 : ∀ (x : WK (fun _ => False) w1) j, (wat x).cell? ⟨w.heap.size, j, none⟩ = _ := fun x j => (wat_cell (p := ⟨w.heap.size, j, none⟩) (by simp; omega) (by simp) x).trans (hk1 j)
        have k00 := fun x => k0 x 11
        have k01 := fun x => k0 x 12
        simp at k00 k01
        clear k0 hk1
        refine wp_region_loud (fun _ => False)
          [(3, rowL [] (w1.heap.size) 5 1 (4) (B8 ([5, 220, 2, PK.u8 flags]))),
           (7, rowL [] (w1.heap.size) 5 1 (4) (B8 (be 4 seq))),
           (8, rowL [3, 7] (w1.heap.size) 5 1 (8) (B8 ([5, 220, 2, PK.u8 flags] ++ be 4 seq)))]
          (fun _ => Fact.none) (by kernel_rfl) (by kernel_rfl) (.cons (rowL_ok _ _ _ _ _ _) (.cons (rowL_ok _ _ _ _ _ _) (.cons (rowL_ok _ _ _ _ _ _) .nil))) good_nothing sat_none (WX.out ?_)
        repeat (first | (refine wx_quietU (by rfl) (by rfl) (by rfl) (fun K hK => ?_); go_big_quiet_op; refine hK _ ?_; clear hK K) | (refine wx_quietG (by rfl) (by rfl) (by rfl) (by rfl) (by rfl) (fun K hK => ?_); go_big_quiet_op; refine hK _ ?_; clear hK K) | (refine wx_skipG (by rfl) (by rfl) (by rfl) (fun K hK => ?_); go_simp; refine hK _ ?_; clear hK K) | (refine wx_skipN (by rfl) (by rfl) (by rfl) (fun K hK => ?_); go_simp; refine hK _ ?_; clear hK K))
        refine wx_loudU (us := []) (by rfl) (by rfl) (fun S wS hC hS hU => ?_) (fun v hv K hK => ?_)
        · refine runs_value (by go_simp <;> rfl) (made_x rfl hC.size ?_ (by simp [B8]) (by omega) (by omega))
          simp [B8, PK.u8, IntKind.wrap_u8]; try omega
        obtain ⟨RA3, Rc3, rfl⟩ := hv; (go_simp; refine hK _ ?_; clear hK K)
        repeat (first | (refine wx_quietU (by rfl) (by rfl) (by rfl) (fun K hK => ?_); go_big_quiet_op; refine hK _ ?_; clear hK K) | (refine wx_quietG (by rfl) (by rfl) (by rfl) (by rfl) (by rfl) (fun K hK => ?_); go_big_quiet_op; refine hK _ ?_; clear hK K) | (refine wx_skipG (by rfl) (by rfl) (by rfl) (fun K hK => ?_); go_simp; refine hK _ ?_; clear hK K) | (refine wx_skipN (by rfl) (by rfl) (by rfl) (fun K hK => ?_); go_simp; refine hK _ ?_; clear hK K))
        refine wx_loudU (us := []) (by rfl) (by rfl) (fun S wS hC hS hU => runs_enter (f := 42) (by go_simp <;> rfl) ?_) (fun v hv K hK => ?_)
        · exact rnum_x 4 _ _ hC.size (by omega) (by omega) (by omega)
        obtain ⟨RA7, Rc7, rfl⟩ := hv; (go_simp; refine hK _ ?_; clear hK K)
        repeat (first | (refine wx_quietU (by rfl) (by rfl) (by rfl) (fun K hK => ?_); go_big_quiet_op; refine hK _ ?_; clear hK K) | (refine wx_quietG (by rfl) (by rfl) (by rfl) (by rfl) (by rfl) (fun K hK => ?_); go_big_quiet_op; refine hK _ ?_; clear hK K) | (refine wx_skipG (by rfl) (by rfl) (by rfl) (fun K hK => ?_); go_simp; refine hK _ ?_; clear hK K) | (refine wx_skipN (by rfl) (by rfl) (by rfl) (fun K hK => ?_); go_simp; refine hK _ ?_; clear hK K))
        refine wx_loudU (us := [3, 7]) (by rfl) (by rfl) (fun S wS hC hS hU => ?_) (fun v hv K hK => ?_)
        · exact app_x (.tmp 76) (.tmp 80) (by rfl) (by rfl) (by rfl) (hU 3 (by simp)) (own_sl (hU 7 (by simp)).2) (by omega) hC.size
        obtain ⟨RA8, Rc8, rfl⟩ := hv; (go_simp; refine hK _ ?_; clear hK K)
        repeat (first | (refine wx_quietU (by rfl) (by rfl) (by rfl) (fun K hK => ?_); go_big_quiet_op; refine hK _ ?_; clear hK K) | (refine wx_quietG (by rfl) (by rfl) (by rfl) (by rfl) (by rfl) (fun K hK => ?_); go_big_quiet_op; refine hK _ ?_; clear hK K) | (refine wx_skipG (by rfl) (by rfl) (by rfl) (fun K hK => ?_); go_simp; refine hK _ ?_; clear hK K) | (refine wx_skipN (by rfl) (by rfl) (by rfl) (fun K hK => ?_); go_simp; refine hK _ ?_; clear hK K))
        refine wx_nil fun wreg hsat => ?_
        have hown := sat_row hsat 8 (by rfl)
        have hb1 := sat_below hsat
        clear hsat k00 k01
        go_wp2_with fail
        all_goals go_meet
        all_goals go_light
        refine ⟨RA8, 8, Rc8, rfl, ?_, ?_, hb1⟩
        · rw [HM.out]; simp [be_length]
        · rw [HM.out]
          exact hown
    by_cases t3 : ty = 3
    · subst t3
      as_aux_lemma =>
        have HM : Hid (MAIN = kysTo keys n3) := by
          show _ = _
          unfold kysTo
          rw [HMAIN.out, if_neg (by omega), if_neg (by omega), if_pos rfl, List.take_of_length_le (by rw [HN3.out]; omega)]
        clear HPUT HSUM HFRO hbody HSP HLR HMAIN t1 t2
        go_upto_region 17 with fail
        clear hk1
        go_loopw [4, 7] (fun v i wr => ∃ (k : Nat) (A : Option Addr) (c : Nat), k ≤ n3 ∧ i = .int .i64 k ∧ v = .slice A (12 * k) c ∧ wr.ownsRow w1.heap.size 5 1 (.slice A (12 * k) c) (12 * k) (B8 (kysTo keys k)) ∧ Below w1.heap.size w1 wr) (fun _ i _ => n3 - (intOf i).toNat)
        case atStart => exact ⟨0, none, 0, Nat.zero_le _, rfl, rfl, by simpa [kysTo, B8] using own_nilE _ _ _ _, Below.refl _ _⟩
        case round =>
          obtain ⟨k, A, c, hk, rfl, rfl, hownr, hbr⟩ := hrel
          have hsz := hbr.size
          have k1 : ∀ i, wr.cell? ⟨w.heap.size, i, none⟩ = _ := fun i => (hbr.cell (p := ⟨w.heap.size, i, none⟩) hz1).trans (K1.out i)
          by_cases hlt : k < n3
          · have hlt' : k < keys.length := by rw [HN3.out]; exact hlt
            obtain ⟨b, off, rfl, hbl, q0, q1, q2⟩ := (H1.out.keys.below hbr).ky hlt
            have hbl1 : b < w1.heap.size := by
              obtain ⟨b', off', e', hb', _⟩ := H1.out.keys.ky hlt
              injection e' with e'
              injection e' with e' _
              omega
            have HS : Hid (kysTo keys (k + 1) = kysTo keys k ++ (kyAt keys k).bytes) := to_succ Ky.bytes ky0 keys k hlt'
            obtain ⟨x1, x2, x3⟩ := hw13 _ (getD_in ky0 keys k hlt')
            change isU (kyAt keys k).id at x2
            change isU (kyAt keys k).adv at x3
            clear x1 hlt'
            generalize kyAt keys k = X at *
            obtain ⟨xt, xi, xv⟩ := X
            simp only [isU] at x2 x3 q0 q1 q2
            have e1 : IntKind.u64.wrap xi = xi := IntWalk.u64_in _ (by omega)
            have e2 : IntKind.u64.wrap xv = xv := IntWalk.u64_in _ (by omega)
            have e3 : IntKind.u64.wrap xt = w64 xt := rfl
            have e4 := w64_bd xt
            as_aux_lemma =>
              go_upto_region 19 with fail
              have hne : ∀ y : Nat, y < w1.heap.size → ¬ Value.ownBlock (.slice A (12 * k) c) = some y := fun y hy hh => by have := ownF_ge hownr _ hh; omega
              have hz : ∀ (z : WK (fun b => Value.ownBlock (.slice A (12 * k) c) = some b) wr) y i, y < w1.heap.size → (wat z).cell? ⟨y, i, none⟩ = wr.cell? ⟨y, i, none⟩ := fun z y i hy => wat_cell (p := ⟨y, i, none⟩) (by simp; omega) (hne y hy) z
              have z14 : ∀ z : WK (fun b => Value.ownBlock (.slice A (12 * k) c) = some b) wr, (wat z).cell? ⟨w.heap.size, 14, none⟩ = some (.slice (some ⟨b, off, none⟩) n3 c3) := fun z => (hz z _ 14 (by omega)).trans (k1 14)
              have z0 := fun z => (hz z b (off + k * 3) hbl1).trans q0
              have z1 := fun z => (hz z b (off + k * 3 + 1) hbl1).trans q1
              have z2 := fun z => (hz z b (off + k * 3 + 2) hbl1).trans q2
              clear hz hne k1 q0 q1 q2
              refine wp_region_loud (fun b => Value.ownBlock (.slice A (12 * k) c) = some b)
                [(8, rowL [] (w1.heap.size) 5 1 (4) (B8 (be 4 (w64 xt).toNat))),
                 (9, rowL [100, 8] (w1.heap.size) 5 1 (12 * k + 4) (B8 (kysTo keys k ++ be 4 (w64 xt).toNat))),
                 (17, rowL [] (w1.heap.size) 5 1 (4) (B8 (be 4 xi.toNat))),
                 (18, rowL [9, 17] (w1.heap.size) 5 1 (12 * k + 4 + 4) (B8 (kysTo keys k ++ be 4 (w64 xt).toNat ++ be 4 xi.toNat))),
                 (26, rowL [] (w1.heap.size) 5 1 (4) (B8 (be 4 xv.toNat))),
                 (27, rowL [18, 26] (w1.heap.size) 5 1 (12 * k + 4 + 4 + 4) (B8 (kysTo keys k ++ be 4 (w64 xt).toNat ++ be 4 xi.toNat ++ be 4 xv.toNat)))]
                (labelled 100 (OwnF (w1.heap.size) 5 1 (12 * k) (B8 (kysTo keys k)) (.slice A (12 * k) c))) (by kernel_rfl) (by kernel_rfl) (.cons (rowL_ok _ _ _ _ _ _) (.cons (rowL_ok _ _ _ _ _ _) (.cons (rowL_ok _ _ _ _ _ _) (.cons (rowL_ok _ _ _ _ _ _) (.cons (rowL_ok _ _ _ _ _ _) (.cons (rowL_ok _ _ _ _ _ _) .nil)))))) (good_one 100 (good_own _ _ _ _ _ _)) (sat_one 100 _ (ownF_lt hownr) (ownF_in hownr)) (WX.out ?_)
              repeat (first | (refine wx_quietU (by rfl) (by rfl) (by rfl) (fun K hK => ?_); go_big_quiet_op; refine hK _ ?_; clear hK K) | (refine wx_quietG (by rfl) (by rfl) (by rfl) (by rfl) (by rfl) (fun K hK => ?_); go_big_quiet_op; refine hK _ ?_; clear hK K) | (refine wx_skipG (by rfl) (by rfl) (by rfl) (fun K hK => ?_); go_simp; refine hK _ ?_; clear hK K) | (refine wx_skipN (by rfl) (by rfl) (by rfl) (fun K hK => ?_); go_simp; refine hK _ ?_; clear hK K))
              refine wx_loudU (us := []) (by rfl) (by rfl) (fun S wS hC hS hU => runs_enter (f := 42) (by go_simp <;> rfl) ?_) (fun v hv K hK => ?_)
              · exact rnum_x 4 _ _ (Nat.le_trans hsz hC.size) (by omega) (by omega) (by omega)
              obtain ⟨RA8, Rc8, rfl⟩ := hv; (go_simp; refine hK _ ?_; clear hK K)
              repeat (first | (refine wx_quietU (by rfl) (by rfl) (by rfl) (fun K hK => ?_); go_big_quiet_op; refine hK _ ?_; clear hK K) | (refine wx_quietG (by rfl) (by rfl) (by rfl) (by rfl) (by rfl) (fun K hK => ?_); go_big_quiet_op; refine hK _ ?_; clear hK K) | (refine wx_skipG (by rfl) (by rfl) (by rfl) (fun K hK => ?_); go_simp; refine hK _ ?_; clear hK K) | (refine wx_skipN (by rfl) (by rfl) (by rfl) (fun K hK => ?_); go_simp; refine hK _ ?_; clear hK K))
              refine wx_loudU (us := [100, 8]) (by rfl) (by rfl) (fun S wS hC hS hU => ?_) (fun v hv K hK => ?_)
              · exact app_x (.tmp 91) (.tmp 99) (by rfl) (by rfl) (by rfl) (hU 100 (by simp)) (own_sl (hU 8 (by simp)).2) (by omega) (Nat.le_trans hsz hC.size)
              obtain ⟨RA9, Rc9, rfl⟩ := hv; (go_simp; refine hK _ ?_; clear hK K)
              repeat (first | (refine wx_quietU (by rfl) (by rfl) (by rfl) (fun K hK => ?_); go_big_quiet_op; refine hK _ ?_; clear hK K) | (refine wx_quietG (by rfl) (by rfl) (by rfl) (by rfl) (by rfl) (fun K hK => ?_); go_big_quiet_op; refine hK _ ?_; clear hK K) | (refine wx_skipG (by rfl) (by rfl) (by rfl) (fun K hK => ?_); go_simp; refine hK _ ?_; clear hK K) | (refine wx_skipN (by rfl) (by rfl) (by rfl) (fun K hK => ?_); go_simp; refine hK _ ?_; clear hK K))
              refine wx_loudU (us := []) (by rfl) (by rfl) (fun S wS hC hS hU => runs_enter (f := 42) (by go_simp <;> rfl) ?_) (fun v hv K hK => ?_)
              · exact rnum_x 4 _ _ (Nat.le_trans hsz hC.size) (by omega) (by omega) (by omega)
              obtain ⟨RA17, Rc17, rfl⟩ := hv; (go_simp; refine hK _ ?_; clear hK K)
              repeat (first | (refine wx_quietU (by rfl) (by rfl) (by rfl) (fun K hK => ?_); go_big_quiet_op; refine hK _ ?_; clear hK K) | (refine wx_quietG (by rfl) (by rfl) (by rfl) (by rfl) (by rfl) (fun K hK => ?_); go_big_quiet_op; refine hK _ ?_; clear hK K) | (refine wx_skipG (by rfl) (by rfl) (by rfl) (fun K hK => ?_); go_simp; refine hK _ ?_; clear hK K) | (refine wx_skipN (by rfl) (by rfl) (by rfl) (fun K hK => ?_); go_simp; refine hK _ ?_; clear hK K))
              refine wx_loudU (us := [9, 17]) (by rfl) (by rfl) (fun S wS hC hS hU => ?_) (fun v hv K hK => ?_)
              · exact app_x (.tmp 100) (.tmp 108) (by rfl) (by rfl) (by rfl) (hU 9 (by simp)) (own_sl (hU 17 (by simp)).2) (by omega) (Nat.le_trans hsz hC.size)
              obtain ⟨RA18, Rc18, rfl⟩ := hv; (go_simp; refine hK _ ?_; clear hK K)
              repeat (first | (refine wx_quietU (by rfl) (by rfl) (by rfl) (fun K hK => ?_); go_big_quiet_op; refine hK _ ?_; clear hK K) | (refine wx_quietG (by rfl) (by rfl) (by rfl) (by rfl) (by rfl) (fun K hK => ?_); go_big_quiet_op; refine hK _ ?_; clear hK K) | (refine wx_skipG (by rfl) (by rfl) (by rfl) (fun K hK => ?_); go_simp; refine hK _ ?_; clear hK K) | (refine wx_skipN (by rfl) (by rfl) (by rfl) (fun K hK => ?_); go_simp; refine hK _ ?_; clear hK K))
              refine wx_loudU (us := []) (by rfl) (by rfl) (fun S wS hC hS hU => runs_enter (f := 42) (by go_simp <;> rfl) ?_) (fun v hv K hK => ?_)
              · exact rnum_x 4 _ _ (Nat.le_trans hsz hC.size) (by omega) (by omega) (by omega)
              obtain ⟨RA26, Rc26, rfl⟩ := hv; (go_simp; refine hK _ ?_; clear hK K)
              repeat (first | (refine wx_quietU (by rfl) (by rfl) (by rfl) (fun K hK => ?_); go_big_quiet_op; refine hK _ ?_; clear hK K) | (refine wx_quietG (by rfl) (by rfl) (by rfl) (by rfl) (by rfl) (fun K hK => ?_); go_big_quiet_op; refine hK _ ?_; clear hK K) | (refine wx_skipG (by rfl) (by rfl) (by rfl) (fun K hK => ?_); go_simp; refine hK _ ?_; clear hK K) | (refine wx_skipN (by rfl) (by rfl) (by rfl) (fun K hK => ?_); go_simp; refine hK _ ?_; clear hK K))
              refine wx_loudU (us := [18, 26]) (by rfl) (by rfl) (fun S wS hC hS hU => ?_) (fun v hv K hK => ?_)
              · exact app_x (.tmp 109) (.tmp 117) (by rfl) (by rfl) (by rfl) (hU 18 (by simp)) (own_sl (hU 26 (by simp)).2) (by omega) (Nat.le_trans hsz hC.size)
              obtain ⟨RA27, Rc27, rfl⟩ := hv; (go_simp; refine hK _ ?_; clear hK K)
              repeat (first | (refine wx_quietU (by rfl) (by rfl) (by rfl) (fun K hK => ?_); go_big_quiet_op; refine hK _ ?_; clear hK K) | (refine wx_quietG (by rfl) (by rfl) (by rfl) (by rfl) (by rfl) (fun K hK => ?_); go_big_quiet_op; refine hK _ ?_; clear hK K) | (refine wx_skipG (by rfl) (by rfl) (by rfl) (fun K hK => ?_); go_simp; refine hK _ ?_; clear hK K) | (refine wx_skipN (by rfl) (by rfl) (by rfl) (fun K hK => ?_); go_simp; refine hK _ ?_; clear hK K))
              refine wx_nil fun wreg hsat => ?_
              have hown2 := sat_row hsat 27 (by rfl)
              have hbr2 := hbr.trans (hsat.1.below_of hsz (ownF_ge hownr))
              clear hsat z0 z1 z2 z14 hownr hbr
              go_wp2_with fail
              go_light
              have hk12 : 12 * k + 4 + 4 + 4 = 12 * (k + 1) := by omega
              rw [hk12] at hown2 ⊢
              refine ⟨⟨k + 1, RA27, Rc27, by omega, by go_num, rfl, ?_, hbr2⟩, by simp [intOf]; omega⟩
              rw [HS.out]
              simpa [Ky.bytes, List.append_assoc] using hown2
          · obtain rfl : k = n3 := by omega
            as_aux_lemma =>
              go_wp2_with fail
              all_goals go_meet
              all_goals go_light
              refine ⟨A, 12 * k, c, rfl, ?_, ?_, hbr⟩
              · have := (own_sl hownr).len.1
                rw [← HM.out] at this
                exact this.symm
              · rw [HM.out]
                exact hownr
    by_cases t4 : ty = 4
    · subst t4
      as_aux_lemma =>
        have HM : Hid (MAIN = be 4 n4 ++ lssTo lsas n4) := by
          show _ = _
          unfold lssTo
          rw [HMAIN.out, if_neg (by omega), if_neg (by omega), if_neg (by omega), if_pos rfl, List.take_of_length_le (by rw [HN4.out]; omega), HN4.out]
        have e1 : IntKind.u64.wrap (n4 : Int) = (n4 : Int) := IntWalk.u64_in _ (by omega)
        clear HPUT HSUM HFRO hbody HSP HMAIN t1 t2 t3
        go_wp2_with fail
        refine (rnum_any w1.heap.size 4 n4 w1 (Nat.le_refl _) (by omega) (by omega) (by omega)).mono ?_
        rintro e w2 ⟨A, c, rfl, hown1, hb1⟩
        rw [Int.toNat_natCast] at hown1
        clear hk1
        go_upto_region 23 with fail
        go_loopw [4, 8] (fun v i wr => ∃ (k n : Nat) (A : Option Addr) (c : Nat), k ≤ n4 ∧ i = .int .i64 k ∧ v = .slice A n c ∧ n ≤ 4 + 504 * k ∧ wr.ownsRow w1.heap.size 5 1 (.slice A n c) n (B8 (be 4 n4 ++ lssTo lsas k)) ∧ Below w1.heap.size w1 wr) (fun _ i _ => n4 - (intOf i).toNat)
        case atStart => exact ⟨0, 4, A, c, Nat.zero_le _, rfl, by simp, by omega, by simpa [lssTo] using hown1, hb1⟩
        case round =>
          obtain ⟨k, n, A', c', hk, rfl, rfl, hnb, hownr, hbr⟩ := hrel
          clear hown1 hb1
          have hsz := hbr.size
          have k1 : ∀ i, wr.cell? ⟨w.heap.size, i, none⟩ = _ := fun i => (hbr.cell (p := ⟨w.heap.size, i, none⟩) hz1).trans (K1.out i)
          by_cases hlt : k < n4
          · have hlt' : k < lsas.length := by rw [HN4.out]; exact hlt
            obtain ⟨b, off, rfl, hbl, q⟩ := (H1.out.lsas.below hbr).ls hlt
            obtain ⟨hp1, hp2⟩ := lsAt_fst lsas R H1.out.rl k hlt'
            have HS : Hid (lssTo lsas (k + 1) = lssTo lsas k ++ putB (lsas.getD k l0)) := to_succ putB l0 lsas k hlt'
            have hX : (lsas.getD k l0).right = true := (List.all_eq_true.1 HLR.out) _ (getD_mem _ _ _ hlt')
            rw [← hp1] at HS hX
            have hL := (H1.out.each _ hp2).below hbr
            have hLw : WfL (lsAt (lsas.zip R) k).1 := hw14 _ (List.of_mem_zip (a := (lsAt (lsas.zip R) k).1) (b := (lsAt (lsas.zip R) k).2) hp2).1
            clear hp1 hp2 hlt'
            generalize lsAt (lsas.zip R) k = X at *
            obtain ⟨X, r⟩ := X
            have q0 := q 0 (by omega); have q1 := q 1 (by omega); have q2 := q 2 (by omega); have q3 := q 3 (by omega); have q4 := q 4 (by omega); have q5 := q 5 (by omega); have q6 := q 6 (by omega); have q7 := q 7 (by omega); have q8 := q 8 (by omega)
            simp [lsC] at q0 q1 q2 q3 q4 q5 q6 q7 q8
            clear q
            simp only at HS hLw hX
            have hlen : (putB X).length ≤ 504 := by
              have g1 := putB_length X
              have g2 := tellB_length X hX
              omega
            have HX := hid hX
            clear hX
            as_aux_lemma =>
              go_wp2_with fail
              refine (refPut_yes X r.A1 r.n1 r.c1 r.A2 r.n2 r.c2 _ hL hLw HX.out).mono ?_
              rintro e w3 ⟨A3, c3, n3', rfl, hown3, hb3⟩
              have hbr3 := hbr.trans (hb3.mono (by omega))
              have hownr3 := own_below hownr hb3
              have hsz3 := hbr3.size
              have hsl3 := own_sl hown3
              have hn3 := hsl3.len.1
              have hn3b : n3' ≤ 504 := by omega
              clear hownr hb3 hown3 q0 q1 q2 q3 q4 q5 q6 q7 q8 hn3 hlen k1
              go_wp2_with (at_builtin; refine wpList_app rfl (.tmp 142) (.tmp 143) st_bytes rfl w1.heap.size rfl hownr3 rfl hsl3 (B8_one _) (by simp [maxLen]; omega) (by omega) (by omega) ?_)
              intro A5 c5 w5 hown5 hg5 _
              have hbr5 := hbr3.trans (grown_below hownr3 hg5 (by omega))
              rw [← B8_append, List.append_assoc, ← HS.out] at hown5
              clear hg5 hownr3 hbr3 hsl3
              go_wp2_with fail
              go_light
              exact ⟨⟨k + 1, n + n3', A5, c5, by omega, by go_num, rfl, by omega, hown5, hbr5⟩, by simp [intOf]; omega⟩
          · obtain rfl : k = n4 := by omega
            as_aux_lemma =>
              go_wp2_with fail
              all_goals go_meet
              all_goals go_light
              refine ⟨A', n, c', rfl, ?_, ?_, hbr⟩
              · have := (own_sl hownr).len.1
                rw [← HM.out] at this
                exact this.symm
              · rw [HM.out]
                exact hownr
    · obtain rfl : ty = 5 := by omega
      as_aux_lemma =>
        have HM : Hid (MAIN = []) := by
          show _ = _
          rw [HMAIN.out, if_neg (by omega), if_neg (by omega), if_neg (by omega), if_neg (by omega)]
        clear HPUT HSUM HFRO hbody HSP HMAIN t1 t2 t3 t4
        go_wp2_with fail
        all_goals go_meet
        all_goals go_light
        refine ⟨none, 0, 0, rfl, ?_, ?_, Below.refl _ _⟩
        · rw [HM.out]; rfl
        · rw [HM.out]
          exact own_nilE _ _ _ _
  case rest =>
    obtain ⟨A, n, c, rfl, hnM, hown, hb⟩ := hcut
    clear HMAIN HLR
    as_aux_lemma =>
      have HBO : Hid (BODY = MAIN ++ hdsTo heads n2) := by
        show _ = _
        unfold hdsTo
        rw [hbody.out, List.take_of_length_le (by rw [HN2.out]; omega)]
      have hn20 : n ≤ 20000 := by omega
      clear hbody hMlen
      have hBL : Hid (BODY.length = n + 20 * n2) := by
        show _ = _
        rw [HBO.out, List.length_append, hdsTo_len, hnM, Nat.min_eq_left (by rw [HN2.out]; omega)]
      clear hnM hk1
      have k1 : ∀ i, wc.cell? ⟨w.heap.size, i, none⟩ = _ := fun i => (hb.cell (p := ⟨w.heap.size, i, none⟩) hz1).trans (K1.out i)
      go_upto_region 28 with fail
      clear k1
      go_loopw [4, 11] (fun v i wr => ∃ (k : Nat) (A : Option Addr) (c : Nat), k ≤ n2 ∧ i = .int .i64 k ∧ v = .slice A (n + 20 * k) c ∧ wr.ownsRow w1.heap.size 5 1 (.slice A (n + 20 * k) c) (n + 20 * k) (B8 (MAIN ++ hdsTo heads k)) ∧ Below w1.heap.size w1 wr) (fun _ i _ => n2 - (intOf i).toNat)
      case atStart => exact ⟨0, A, c, Nat.zero_le _, rfl, rfl, by simpa [hdsTo] using hown, hb⟩
      case round =>
        obtain ⟨k, A', c', hk, rfl, rfl, hownr, hbr⟩ := hrel
        clear hown hb
        have hsz := hbr.size
        have k1 : ∀ i, wr.cell? ⟨w.heap.size, i, none⟩ = _ := fun i => (hbr.cell (p := ⟨w.heap.size, i, none⟩) hz1).trans (K1.out i)
        by_cases hlt : k < n2
        · have hlt' : k < heads.length := by rw [HN2.out]; exact hlt
          obtain ⟨b, off, rfl, hbl, q0, q1, q2, q3, q4, q5, q6⟩ := (H1.out.heads.below hbr).hd hlt
          have HS : Hid (hdsTo heads (k + 1) = hdsTo heads k ++ (hdAt heads k).bytes) := to_succ Hdr.bytes hd0 heads k hlt'
          obtain ⟨x1, x2, x3, x4, x5, x6, x7⟩ := hw12 _ (getD_in hd0 heads k hlt')
          change isU (hdAt heads k).id at x3
          change isU (hdAt heads k).adv at x4
          change 0 ≤ (hdAt heads k).sum ∧ (hdAt heads k).sum < 65536 at x6
          clear x1 x2 x5 x7 hlt'
          generalize hdAt heads k = X at *
          simp only [isU] at x3 x4
          as_aux_lemma =>
            go_wp2_with fail
            refine (refPutHeader_any X.age X.ty X.id X.adv X.seq X.sum X.len wr x3 x4 x6).mono ?_
            rintro e w3 ⟨A3, c3, rfl, hown3, hb3⟩
            have hbr3 := hbr.trans (hb3.mono hsz)
            have hownr3 := own_below hownr hb3
            have hsz3 := hbr3.size
            have hsl3 := own_sl hown3
            clear hownr hb3 hown3 q0 q1 q2 q3 q4 q5 q6 k1
            go_wp2_with (at_builtin; refine wpList_app rfl (.tmp 152) (.tmp 158) st_bytes rfl w1.heap.size rfl hownr3 rfl hsl3 (B8_one _) (by simp [maxLen]; omega) (by omega) (by omega) ?_)
            intro A4 c4 w4 hown4 hg4 _
            have hbr4 := hbr3.trans (grown_below hownr3 hg4 (by omega))
            rw [← B8_append] at hown4
            clear hg4 hownr3 hbr3 hsl3
            go_wp2_with fail
            go_light
            have hk12 : n + 20 * k + 20 = n + 20 * (k + 1) := by omega
            rw [hk12] at hown4 ⊢
            refine ⟨⟨k + 1, A4, c4, by omega, by go_num, rfl, ?_, hbr4⟩, by simp [intOf]; omega⟩
            rw [HS.out, ← List.append_assoc]
            exact hown4
        · obtain rfl : n2 = k := by omega
          rw [← HBO.out] at hownr
          have HPUT2 := HPUT
          rw [hBL.out] at HFRO
          generalize hnb : n + 20 * n2 = nb at *
          have hbbr := hbb1.trans (hbr.mono (by omega))
          have hslB := own_sl hownr
          have hab : ∀ ad, A' = some ad → ad.block < wr.heap.size := fun ad had => (hownr.lt ad.block (by rw [had]; rfl)).2
          have HAB := hid hab
          clear hab
          have hnb2 : nb ≤ 20400 := by omega
          clear hk hlt HBO hBL hnb HPUT2 HN1 HN2 HN3 HN4 K1 H1 hownr
          clear HR
          as_aux_lemma =>
            obtain ⟨wm, hm, hownK, hbK⟩ := mk8 wr
            have hBm := hbK.size
            have k2 : ∀ i, wm.cell? ⟨w.heap.size, i, none⟩ = _ := fun i => (hbK.cell (p := ⟨w.heap.size, i, none⟩) (by simp; omega)).trans (k1 i)
            have hzw : w.heap.size < wr.heap.size := by omega
            clear hbr
            generalize hB0 : wr.heap.size = B at *
            go_wp2_with (with_reducible refine wpList_copy8 (o := ⟨some 164, _, _, _, _, _⟩) rfl (.tmp 161) (.tmp 163) 31 9 5 rfl Try.underlying31 info_u8s B B auth rfl rfl hownK ?_)
            intro w2 z hownK2 hgK2
            have hslK := own_sl hownK2
            have hzz : w.heap.size < w2.heap.size := by have := hgK2.size; omega
            have hBW : B < w2.heap.size := (hownK2.lt B rfl).2
            have k3 : ∀ i, w2.cell? ⟨w.heap.size, i, none⟩ = _ := fun i => ((grown_below hownK hgK2 hBm).cell (p := ⟨w.heap.size, i, none⟩) (by simp; omega)).trans (k2 i)
            have hbK2 := hbK.trans (grown_below hownK hgK2 hBm)
            have hslB3 := hslB.below (by rw [hB0]; exact hbK2)
            have hbb2 := hbbr.trans (hbK2.mono (by omega))
            have hkd : kindP auth ≤ 1 := by unfold kindP; split <;> omega
            clear hownK hgK2 hslB hbK hbK2 hownK2 hm hbbr k1 k2 hBm
            clear hB0
            clear wm
            go_upto_if 167 with fail
            go_cut [13] (fun v wx => w2 = wx ∧ v = .int .u8 (kindP auth : Nat))
            case first =>
              by_cases h0 : auth.size = 0
              · have hs0 : auth = ⟨#[]⟩ := by
                  cases auth with | mk a => congr 1; exact Array.eq_empty_of_size_eq_zero h0
                have he : auth.toList.isEmpty = true := by rw [hs0, ba_toList]; rfl
                have hkp : kindP auth = 0 := by unfold kindP; rw [if_pos h0]
                have HKP := hid hkp
                clear hs0 hkp h0
                as_aux_lemma =>
                  go_wp2_with fail
                  all_goals go_meet
                  all_goals go_light
                  all_goals first | exact ⟨rfl, by rw [HKP.out]; rfl⟩ | (exfalso; rename_i hx; rw [he] at hx; simp at hx)
              · have he : auth.toList.isEmpty = false := by
                  rw [ba_toList]
                  cases hq : auth.data.toList with
                  | nil =>
                    exfalso
                    apply h0
                    have : auth.data.toList.length = auth.size := by rw [Array.length_toList]; rfl
                    rw [← this, hq]; rfl
                  | cons x l => rfl
                have hkp : kindP auth = 1 := by unfold kindP; rw [if_neg h0]
                have HKP := hid hkp
                clear hkp h0
                as_aux_lemma =>
                  go_wp2_with fail
                  all_goals go_meet
                  all_goals go_light
                  all_goals first | exact ⟨rfl, by rw [HKP.out]; rfl⟩ | (exfalso; rename_i hx; rw [he] at hx; simp at hx)
            case rest =>
              obtain ⟨rfl, rfl⟩ := hcut
              generalize kindP auth = kd at *
              generalize key8 auth = K8 at *
              as_aux_lemma =>
                have HFR2 : Hid (FR = [2, PK.u8 ty] ++ be 2 (24 + (nb : Int)).toNat ++ be 4 router ++ be 4 area ++ [0, 0, 0, UInt8.ofNat kd]) := by
                  show _ = _
                  have e24 : (24 + (nb : Int)).toNat = 24 + nb := by omega
                  have eb : be 2 0 ++ be 2 kd = [0, 0, 0, UInt8.ofNat kd] := by
                    have : kd = 0 ∨ kd = 1 := by omega
                    rcases this with rfl | rfl <;> decide
                  rw [HFRO.out, e24, List.append_assoc, eb]
                clear HFRO
                have en : IntKind.u64.wrap (24 + (nb : Int)) = 24 + (nb : Int) := IntWalk.u64_in _ (by omega)
                have e1 : IntKind.u64.wrap (router : Int) = (router : Int) := IntWalk.u64_in _ (by omega)
                have e2 : IntKind.u64.wrap (area : Int) = (area : Int) := IntWalk.u64_in _ (by omega)
                go_upto_region 36 with fail
                have k0 : ∀ (x : WK (fun _ => False) w2) j, (wat x).cell? ⟨w.heap.size, j, none⟩ = _ := fun x j => (wat_cell (p := ⟨w.heap.size, j, none⟩) hzz (by simp) x).trans (k3 j)
                have k00 := fun x => k0 x 0
                simp at k00
                clear k0
                refine wp_region_loud (fun _ => False)
                  [(3, rowL [] (w2.heap.size) 5 1 (2) (B8 ([2, PK.u8 ty]))),
                   (8, rowL [] (w2.heap.size) 5 1 (2) (B8 (be 2 (24 + (nb : Int)).toNat))),
                   (9, rowL [3, 8] (w2.heap.size) 5 1 (4) (B8 ([2, PK.u8 ty] ++ be 2 (24 + (nb : Int)).toNat)))]
                  (fun _ => Fact.none) (by kernel_rfl) (by kernel_rfl) (.cons (rowL_ok _ _ _ _ _ _) (.cons (rowL_ok _ _ _ _ _ _) (.cons (rowL_ok _ _ _ _ _ _) .nil))) good_nothing sat_none (WX.out ?_)
                repeat (first | (refine wx_quietU (by rfl) (by rfl) (by rfl) (fun K hK => ?_); go_big_quiet_op; refine hK _ ?_; clear hK K) | (refine wx_quietG (by rfl) (by rfl) (by rfl) (by rfl) (by rfl) (fun K hK => ?_); go_big_quiet_op; refine hK _ ?_; clear hK K) | (refine wx_skipG (by rfl) (by rfl) (by rfl) (fun K hK => ?_); go_simp; refine hK _ ?_; clear hK K) | (refine wx_skipN (by rfl) (by rfl) (by rfl) (fun K hK => ?_); go_simp; refine hK _ ?_; clear hK K))
                refine wx_loudU (us := []) (by rfl) (by rfl) (fun S wS hC hS hU => ?_) (fun v hv K hK => ?_)
                · refine runs_value (by go_simp <;> rfl) (made_x rfl hC.size ?_ (by simp [B8]) (by omega) (by omega))
                  simp [B8, PK.u8, IntKind.wrap_u8]; try omega
                obtain ⟨RA3, Rc3, rfl⟩ := hv; (go_simp; refine hK _ ?_; clear hK K)
                repeat (first | (refine wx_quietU (by rfl) (by rfl) (by rfl) (fun K hK => ?_); go_big_quiet_op; refine hK _ ?_; clear hK K) | (refine wx_quietG (by rfl) (by rfl) (by rfl) (by rfl) (by rfl) (fun K hK => ?_); go_big_quiet_op; refine hK _ ?_; clear hK K) | (refine wx_skipG (by rfl) (by rfl) (by rfl) (fun K hK => ?_); go_simp; refine hK _ ?_; clear hK K) | (refine wx_skipN (by rfl) (by rfl) (by rfl) (fun K hK => ?_); go_simp; refine hK _ ?_; clear hK K))
                refine wx_loudU (us := []) (by rfl) (by rfl) (fun S wS hC hS hU => runs_enter (f := 42) (by go_simp <;> rfl) ?_) (fun v hv K hK => ?_)
                · exact rnum_x 2 _ _ hC.size (by omega) (by omega) (by omega)
                obtain ⟨RA8, Rc8, rfl⟩ := hv; (go_simp; refine hK _ ?_; clear hK K)
                repeat (first | (refine wx_quietU (by rfl) (by rfl) (by rfl) (fun K hK => ?_); go_big_quiet_op; refine hK _ ?_; clear hK K) | (refine wx_quietG (by rfl) (by rfl) (by rfl) (by rfl) (by rfl) (fun K hK => ?_); go_big_quiet_op; refine hK _ ?_; clear hK K) | (refine wx_skipG (by rfl) (by rfl) (by rfl) (fun K hK => ?_); go_simp; refine hK _ ?_; clear hK K) | (refine wx_skipN (by rfl) (by rfl) (by rfl) (fun K hK => ?_); go_simp; refine hK _ ?_; clear hK K))
                refine wx_loudU (us := [3, 8]) (by rfl) (by rfl) (fun S wS hC hS hU => ?_) (fun v hv K hK => ?_)
                · exact app_x (.tmp 171) (.tmp 176) (by rfl) (by rfl) (by rfl) (hU 3 (by simp)) (own_sl (hU 8 (by simp)).2) (by omega) hC.size
                obtain ⟨RA9, Rc9, rfl⟩ := hv; (go_simp; refine hK _ ?_; clear hK K)
                repeat (first | (refine wx_quietU (by rfl) (by rfl) (by rfl) (fun K hK => ?_); go_big_quiet_op; refine hK _ ?_; clear hK K) | (refine wx_quietG (by rfl) (by rfl) (by rfl) (by rfl) (by rfl) (fun K hK => ?_); go_big_quiet_op; refine hK _ ?_; clear hK K) | (refine wx_skipG (by rfl) (by rfl) (by rfl) (fun K hK => ?_); go_simp; refine hK _ ?_; clear hK K) | (refine wx_skipN (by rfl) (by rfl) (by rfl) (fun K hK => ?_); go_simp; refine hK _ ?_; clear hK K))
                refine wx_nil fun wreg hsat => ?_
                have hown1 := sat_row hsat 9 (by rfl)
                have hb1 := sat_below hsat
                clear hsat k00
                have hB1 := hb1.size
                go_upto_region 37 with fail
                have hS1 : ¬ Value.ownBlock (.slice RA9 4 Rc9) = some w.heap.size := fun hh => by have := ownF_ge hown1 _ hh; omega
                have k2 : ∀ (x : WK (fun b => Value.ownBlock (.slice RA9 4 Rc9) = some b) wreg) j, (wat x).cell? ⟨w.heap.size, j, none⟩ = _ := fun x j => (wat_cell (p := ⟨w.heap.size, j, none⟩) (by simp; omega) hS1 x).trans ((hb1.cell (p := ⟨w.heap.size, j, none⟩) hzz).trans (k3 j))
                have k21 := fun x => k2 x 1
                have k22 := fun x => k2 x 2
                simp at k21 k22
                clear k2 k3
                obtain ⟨w3, rfl⟩ : ∃ w3 : World, w3 = wreg := ⟨_, rfl⟩
                refine wp_region_loud (fun b => Value.ownBlock (.slice RA9 (4) Rc9) = some b)
                  [(4, rowL [] (w2.heap.size) 5 1 (4) (B8 (be 4 router))),
                   (5, rowL [100, 4] (w2.heap.size) 5 1 (8) (B8 ([2, PK.u8 ty] ++ be 2 (24 + (nb : Int)).toNat ++ be 4 router))),
                   (9, rowL [] (w2.heap.size) 5 1 (4) (B8 (be 4 area))),
                   (10, rowL [5, 9] (w2.heap.size) 5 1 (12) (B8 ([2, PK.u8 ty] ++ be 2 (24 + (nb : Int)).toNat ++ be 4 router ++ be 4 area))),
                   (12, rowL [] (w2.heap.size) 5 1 (4) (B8 ([0, 0, 0, UInt8.ofNat kd]))),
                   (13, rowL [10, 12] (w2.heap.size) 5 1 (16) (B8 ([2, PK.u8 ty] ++ be 2 (24 + (nb : Int)).toNat ++ be 4 router ++ be 4 area ++ [0, 0, 0, UInt8.ofNat kd])))]
                  (labelled 100 (OwnF (w2.heap.size) 5 1 (4) (B8 ([2, PK.u8 ty] ++ be 2 (24 + (nb : Int)).toNat)) (.slice RA9 (4) Rc9))) (by kernel_rfl) (by kernel_rfl) (.cons (rowL_ok _ _ _ _ _ _) (.cons (rowL_ok _ _ _ _ _ _) (.cons (rowL_ok _ _ _ _ _ _) (.cons (rowL_ok _ _ _ _ _ _) (.cons (rowL_ok _ _ _ _ _ _) (.cons (rowL_ok _ _ _ _ _ _) .nil)))))) (good_one 100 (good_own _ _ _ _ _ _)) (sat_one 100 _ (ownF_lt hown1) (ownF_in hown1)) (WX.out ?_)
                repeat (first | (refine wx_quietU (by rfl) (by rfl) (by rfl) (fun K hK => ?_); go_big_quiet_op; refine hK _ ?_; clear hK K) | (refine wx_quietG (by rfl) (by rfl) (by rfl) (by rfl) (by rfl) (fun K hK => ?_); go_big_quiet_op; refine hK _ ?_; clear hK K) | (refine wx_skipG (by rfl) (by rfl) (by rfl) (fun K hK => ?_); go_simp; refine hK _ ?_; clear hK K) | (refine wx_skipN (by rfl) (by rfl) (by rfl) (fun K hK => ?_); go_simp; refine hK _ ?_; clear hK K))
                refine wx_loudU (us := []) (by rfl) (by rfl) (fun S wS hC hS hU => runs_enter (f := 42) (by go_simp <;> rfl) ?_) (fun v hv K hK => ?_)
                · exact rnum_x 4 _ _ (Nat.le_trans hB1 hC.size) (by omega) (by omega) (by omega)
                obtain ⟨RA4, Rc4, rfl⟩ := hv; (go_simp; refine hK _ ?_; clear hK K)
                repeat (first | (refine wx_quietU (by rfl) (by rfl) (by rfl) (fun K hK => ?_); go_big_quiet_op; refine hK _ ?_; clear hK K) | (refine wx_quietG (by rfl) (by rfl) (by rfl) (by rfl) (by rfl) (fun K hK => ?_); go_big_quiet_op; refine hK _ ?_; clear hK K) | (refine wx_skipG (by rfl) (by rfl) (by rfl) (fun K hK => ?_); go_simp; refine hK _ ?_; clear hK K) | (refine wx_skipN (by rfl) (by rfl) (by rfl) (fun K hK => ?_); go_simp; refine hK _ ?_; clear hK K))
                refine wx_loudU (us := [100, 4]) (by rfl) (by rfl) (fun S wS hC hS hU => ?_) (fun v hv K hK => ?_)
                · exact app_x (.tmp 178) (.tmp 182) (by rfl) (by rfl) (by rfl) (hU 100 (by simp)) (own_sl (hU 4 (by simp)).2) (by omega) (Nat.le_trans hB1 hC.size)
                obtain ⟨RA5, Rc5, rfl⟩ := hv; (go_simp; refine hK _ ?_; clear hK K)
                repeat (first | (refine wx_quietU (by rfl) (by rfl) (by rfl) (fun K hK => ?_); go_big_quiet_op; refine hK _ ?_; clear hK K) | (refine wx_quietG (by rfl) (by rfl) (by rfl) (by rfl) (by rfl) (fun K hK => ?_); go_big_quiet_op; refine hK _ ?_; clear hK K) | (refine wx_skipG (by rfl) (by rfl) (by rfl) (fun K hK => ?_); go_simp; refine hK _ ?_; clear hK K) | (refine wx_skipN (by rfl) (by rfl) (by rfl) (fun K hK => ?_); go_simp; refine hK _ ?_; clear hK K))
                refine wx_loudU (us := []) (by rfl) (by rfl) (fun S wS hC hS hU => runs_enter (f := 42) (by go_simp <;> rfl) ?_) (fun v hv K hK => ?_)
                · exact rnum_x 4 _ _ (Nat.le_trans hB1 hC.size) (by omega) (by omega) (by omega)
                obtain ⟨RA9, Rc9, rfl⟩ := hv; (go_simp; refine hK _ ?_; clear hK K)
                repeat (first | (refine wx_quietU (by rfl) (by rfl) (by rfl) (fun K hK => ?_); go_big_quiet_op; refine hK _ ?_; clear hK K) | (refine wx_quietG (by rfl) (by rfl) (by rfl) (by rfl) (by rfl) (fun K hK => ?_); go_big_quiet_op; refine hK _ ?_; clear hK K) | (refine wx_skipG (by rfl) (by rfl) (by rfl) (fun K hK => ?_); go_simp; refine hK _ ?_; clear hK K) | (refine wx_skipN (by rfl) (by rfl) (by rfl) (fun K hK => ?_); go_simp; refine hK _ ?_; clear hK K))
                refine wx_loudU (us := [5, 9]) (by rfl) (by rfl) (fun S wS hC hS hU => ?_) (fun v hv K hK => ?_)
                · exact app_x (.tmp 183) (.tmp 187) (by rfl) (by rfl) (by rfl) (hU 5 (by simp)) (own_sl (hU 9 (by simp)).2) (by omega) (Nat.le_trans hB1 hC.size)
                obtain ⟨RA10, Rc10, rfl⟩ := hv; (go_simp; refine hK _ ?_; clear hK K)
                repeat (first | (refine wx_quietU (by rfl) (by rfl) (by rfl) (fun K hK => ?_); go_big_quiet_op; refine hK _ ?_; clear hK K) | (refine wx_quietG (by rfl) (by rfl) (by rfl) (by rfl) (by rfl) (fun K hK => ?_); go_big_quiet_op; refine hK _ ?_; clear hK K) | (refine wx_skipG (by rfl) (by rfl) (by rfl) (fun K hK => ?_); go_simp; refine hK _ ?_; clear hK K) | (refine wx_skipN (by rfl) (by rfl) (by rfl) (fun K hK => ?_); go_simp; refine hK _ ?_; clear hK K))
                refine wx_loudU (us := []) (by rfl) (by rfl) (fun S wS hC hS hU => ?_) (fun v hv K hK => ?_)
                · refine runs_value (by go_simp <;> rfl) (made_x rfl (Nat.le_trans hB1 hC.size) ?_ (by simp [B8]) (by omega) (by omega))
                  simp [B8, PK.u8, IntKind.wrap_u8]; try omega
                obtain ⟨RA12, Rc12, rfl⟩ := hv; (go_simp; refine hK _ ?_; clear hK K)
                repeat (first | (refine wx_quietU (by rfl) (by rfl) (by rfl) (fun K hK => ?_); go_big_quiet_op; refine hK _ ?_; clear hK K) | (refine wx_quietG (by rfl) (by rfl) (by rfl) (by rfl) (by rfl) (fun K hK => ?_); go_big_quiet_op; refine hK _ ?_; clear hK K) | (refine wx_skipG (by rfl) (by rfl) (by rfl) (fun K hK => ?_); go_simp; refine hK _ ?_; clear hK K) | (refine wx_skipN (by rfl) (by rfl) (by rfl) (fun K hK => ?_); go_simp; refine hK _ ?_; clear hK K))
                refine wx_loudU (us := [10, 12]) (by rfl) (by rfl) (fun S wS hC hS hU => ?_) (fun v hv K hK => ?_)
                · exact app_x (.tmp 188) (.tmp 190) (by rfl) (by rfl) (by rfl) (hU 10 (by simp)) (own_sl (hU 12 (by simp)).2) (by omega) (Nat.le_trans hB1 hC.size)
                obtain ⟨RA13, Rc13, rfl⟩ := hv; (go_simp; refine hK _ ?_; clear hK K)
                repeat (first | (refine wx_quietU (by rfl) (by rfl) (by rfl) (fun K hK => ?_); go_big_quiet_op; refine hK _ ?_; clear hK K) | (refine wx_quietG (by rfl) (by rfl) (by rfl) (by rfl) (by rfl) (fun K hK => ?_); go_big_quiet_op; refine hK _ ?_; clear hK K) | (refine wx_skipG (by rfl) (by rfl) (by rfl) (fun K hK => ?_); go_simp; refine hK _ ?_; clear hK K) | (refine wx_skipN (by rfl) (by rfl) (by rfl) (fun K hK => ?_); go_simp; refine hK _ ?_; clear hK K))
                refine wx_nil fun wreg hsat => ?_
                have hownH := sat_row hsat 13 (by rfl)
                have hb4 := hb1.trans (hsat.1.below_of hB1 (ownF_ge hown1))
                rw [← HFR2.out] at hownH
                clear hsat k21 k22 hown1 hb1 hB1 HFR2 en e1 e2 hS1
                clear w3
                have hbb4 := hbb2.trans (hb4.mono (by omega))
                have hslB4 := hslB3.below hb4
                have hslK4 := hslK.below hb4
                clear hslB3 hslK hb4 hbb2 hzz
                obtain ⟨w4, rfl⟩ : ∃ w4 : World, w4 = wreg := ⟨_, rfl⟩
                obtain ⟨g, rfl, hgl, hgs⟩ := own_some hownH (by omega)
                generalize hW4 : w2.heap.size = W2 at *
                have hownE : (w4.alloc (.cells #[] 5)).ownsRow w4.heap.size 5 1 (.slice (some ⟨w4.heap.size, 0, none⟩) 0 0) 0 [] := own_empty w4 _ _ _ _ rfl (Nat.le_refl _)
                have hslH := (own_sl hownH).alloc (.cells #[] 5)
                have hbE := (Below.refl w4.heap.size w4).alloc (Nat.le_refl _) (.cells #[] 5)
                go_wp2_with (at_builtin; refine wpList_app rfl (.tmp 192) (.tmp 193) st_bytes rfl w4.heap.size rfl hownE rfl hslH (B8_one _) (by simp [maxLen]) (by omega) (by simp) ?_)
                intro A5 c5 w5 hown5 hg5 _
                have hb5 := hbE.trans (grown_below hownE hg5 (by simp))
                try simp only [Nat.zero_add, List.nil_append] at hown5
                try simp only [Nat.zero_add]
                have hslB5 := hslB4.below hb5
                have hz5 := hb5.size
                clear hownE hslH hbE hg5
                go_wp2_with (at_builtin; refine wpList_app rfl (.tmp 194) (.tmp 195) st_bytes rfl w4.heap.size rfl hown5 rfl hslB5 (B8_one _) (by simp [maxLen]; omega) (by omega) hz5 ?_)
                intro A6 c6 w6 hown6 hg6 _
                rw [← B8_append] at hown6
                have hb6 := hb5.trans (grown_below hown5 hg6 hz5)
                have hz6 := hb6.size
                clear hown5 hg6 hb5 hslB5 hz5
                go_wp2_with fail
                refine (refInternet_any A6 (16 + nb) c6 (FR ++ BODY) w6 (own_sl hown6)).mono ?_
                rintro e w7 ⟨rfl, rfl⟩
                rw [← HSUM.out, HSP.out]
                have hownH6 := own_below hownH hb6
                have hslB6 := hslB4.below hb6
                have hslK6 := hslK4.below hb6
                have hbb6 := hbb4.trans (hb6.mono (by have := hbb4.size; omega))
                clear hownH hb6 hslB4 hslK4 hbb4 hown6 HSUM HSP
                obtain ⟨p0, p1⟩ := own_byte hownH6 12 (by omega)
                obtain ⟨p2, p3⟩ := own_byte hownH6 13 (by omega)
                go_upto_region 40 with fail
                have hown7 := ((hownH6.stored 12 (.int .u8 ((sm : Int) / 256))).1.stored 13 (.int .u8 ((sm : Int) % 256))).1
                have hset : Hid (((B8 FR).set 12 (.int .u8 ((sm : Int) / 256))).set 13 (.int .u8 ((sm : Int) % 256)) = B8 ((FR.set 12 (UInt8.ofNat (sm / 256))).set 13 (UInt8.ofNat (sm % 256)))) := by
                  show _ = _
                  rw [← B8_set, ← B8_set]
                  have a1 : (UInt8.ofNat (sm / 256)).toNat = sm / 256 := by simp; omega
                  have a2 : (UInt8.ofNat (sm % 256)).toNat = sm % 256 := by simp
                  rw [a1, a2]
                  simp
                rw [hset.out] at hown7
                generalize (FR.set 12 (UInt8.ofNat (sm / 256))).set 13 (UInt8.ofNat (sm % 256)) = FS at *
                have hK7 : Kept (fun b => b = g) w6 ((w6.setCell ⟨g, 12, none⟩ (.int .u8 ((sm : Int) / 256))).setCell ⟨g, 13, none⟩ (.int .u8 ((sm : Int) % 256))) := Kept.setCell (S := fun b => b = g) (Kept.setCell (S := fun b => b = g) (Kept.refl _ w6) (p := ⟨g, 12, none⟩) (.inl rfl) _) (p := ⟨g, 13, none⟩) (.inl rfl) _
                have hslB7 := sl_kept hslB6 hK7 (fun ad had hb => by have := HAB.out ad had; omega)
                have hslK7 := sl_kept hslK6 hK7 (fun ad had hb => by injection had with had; subst had; simp at hb; omega)
                have hbb7 := hbb6.trans (hK7.below_of (B := w.heap.size) (by have := hbb6.size; omega) (fun b hb => by have := hbb6.size; omega))
                have hz7 := hK7.size
                clear hset p0 p1 p2 p3 hownH6 hK7 hslB6 hslK6 hbb6
                generalize (w6.setCell ⟨g, 12, none⟩ (.int .u8 ((sm : Int) / 256))).setCell ⟨g, 13, none⟩ (.int .u8 ((sm : Int) % 256)) = w7 at *
                go_wp2_with (at_builtin; refine wpList_app rfl (.tmp 207) (.tmp 208) st_bytes rfl W2 rfl hown7 rfl hslK7 (B8_one _) (by simp [maxLen]) (by omega) (by omega) ?_)
                intro A8 c8 w8 hown8 hg8 _
                rw [← B8_append] at hown8
                have hb8 := grown_below hown7 hg8 (by omega)
                have hbb8 := hbb7.trans (hb8.mono (by omega))
                have hne8 : ∀ ad, A' = some ad → some ad.block ≠ Value.ownBlock (.slice (some ⟨g, 0, none⟩) 16 Rc13) := by
                  intro ad had
                  show some ad.block ≠ some g
                  have h1 := HAB.out ad had
                  simp only [ne_eq, Option.some.injEq]
                  omega
                have hslB8 := hslB7.grown hg8 hne8
                have hz8 := hg8.size
                clear hown7 hg8 hb8 hbb7 hslB7 hslK7
                go_wp2_with (at_builtin; refine wpList_app rfl (.tmp 209) (.tmp 210) st_bytes rfl W2 rfl hown8 rfl hslB8 (B8_one _) (by simp [maxLen]; omega) (by omega) (by omega) ?_)
                intro A9 c9 w9 hown9 hg9 _
                rw [← B8_append, ← HPUT.out] at hown9
                have hb9 := grown_below hown8 hg9 (by omega)
                have hbb9 := hbb8.trans (hb9.mono (by omega))
                clear hown8 hg9 hb9 hbb8
                go_wp2_with fail
                go_ret2
                have hown10 := own_base (base := W2) (base' := w.heap.size) hown9 (by omega)
                exact ⟨A9, c9, _, rfl, by rw [HPE.out]; exact hown10, hbb9⟩
end Go.Proofs.Ytgopkpogakjckaa
