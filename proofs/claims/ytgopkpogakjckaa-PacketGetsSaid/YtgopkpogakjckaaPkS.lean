/-
  The contract of the reference's Same (layer 11), of two that are alike.
-/
import Derived.Test.YtgopkpogakjckaaPk2
import Derived.Test.YtgopkpogakjckaaLsaS
import Derived.Test.YtgopkpogakjckaaRow
import Derived.Test.YtgopkpogakjckaaRegP
import Derived.Test.YtgopkpogakjckaaRegE
namespace Go.Proofs.Ytgopkpogakjckaa
set_option linter.unusedVariables false
set_option linter.unusedSimpArgs false
open Go Go.RowKit SM LM PK

theorem ls_zipS (l : List Lsa) (R : List LsR) (h : R.length = l.length) (k : Nat) (hk : k < l.length) : (lsAt (l.zip R) k).1 = l.getD k ls0.1 ∧ lsAt (l.zip R) k ∈ l.zip R := by
  have hz : k < (l.zip R).length := by rw [List.length_zip]; omega
  unfold lsAt
  rw [List.getD_eq_getElem?_getD, List.getD_eq_getElem?_getD, List.getElem?_eq_getElem hz, List.getElem?_eq_getElem hk]
  exact ⟨by simp, List.getElem_mem hz⟩
/-- a whole struct stored into a block of the region's own -/
def storeC (us : List Nat) (T : TypeId) (cs : Array Value) : Loud := argL us (fun _ _ => True) (fun xs _ S w => ∃ g, xs = [.pointer (some ⟨g, 0, none⟩), .agg cs] ∧ BlkF g T cs S w)
theorem storeC_ok (us : List Nat) (T : TypeId) (cs : Array Value) : (storeC us T cs).Ok :=
  argL_ok (fun _ => ⟨undef, trivial⟩) (fun xs _ S S' w w' h1 h2 ⟨g, h3, h4⟩ => ⟨g, h3, good_blk _ _ _ S S' w w' h1 h2 h4⟩)
theorem storeC_get {S : Nat → Prop} {w : World} {g : Nat} {T : TypeId} {cs cs' : Array Value} (h : ∃ g', [Value.pointer (some ⟨g, 0, none⟩), .agg cs'] = [.pointer (some ⟨g', 0, none⟩), .agg cs] ∧ BlkF g' T cs S w) : BlkF g T cs S w := by
  obtain ⟨g', h1, h2⟩ := h
  injection h1 with h1 _
  injection h1 with h1
  injection h1 with h1
  injection h1 with h1
  subst h1
  exact h2
set_option maxRecDepth 100000 in
set_option maxHeartbeats 8000000 in
theorem refSame_pk (P : Pkt) (A1 : Option Addr) (n1 c1 : Nat) (A2 : Option Addr) (n2 c2 : Nat) (A3 : Option Addr) (n3 c3 : Nat) (A4 : Option Addr) (n4 c4 : Nat) (R : List LsR)
    (B1 : Option Addr) (m1 d1 : Nat) (B2 : Option Addr) (m2 d2 : Nat) (B3 : Option Addr) (m3 d3 : Nat) (B4 : Option Addr) (m4 d4 : Nat) (R' : List LsR) (w : World) (ha : IsPk w P A1 n1 c1 A2 n2 c2 A3 n3 c3 A4 n4 c4 R) (hb : IsPk w P B1 m1 d1 B2 m2 d2 B3 m3 d3 B4 m4 d4 R') :
    Calls Try.prog 14 #[.agg (pkC P A1 n1 c1 A2 n2 c2 A3 n3 c3 A4 n4 c4), .agg (pkC P B1 m1 d1 B2 m2 d2 B3 m3 d3 B4 m4 d4)] w fun e w' => e = .returned (.bool true) ∧ Below w.heap.size w w' := by
  have HA0 := hid ha
  have HB0 := hid hb
  have HNA := hid ha.lens
  have HNB := hid hb.lens
  have hq1 := ha.nbs.lenN.2
  have hq2 := ha.heads.lenN.2
  have hq3 := ha.keys.lenN.2
  have hq4 := ha.lsas.lenN.2
  have hi1 : n1 ≤ 9223372036854775807 := by omega
  have hi2 : n2 ≤ 9223372036854775807 := by omega
  have hi3 : n3 ≤ 9223372036854775807 := by omega
  have hi4 : n4 ≤ 9223372036854775807 := by omega
  clear hq1 hq2 hq3 hq4
  obtain rfl : n1 = m1 := by have := HNA.out; have := HNB.out; omega
  obtain rfl : n2 = m2 := by have := HNA.out; have := HNB.out; omega
  obtain rfl : n3 = m3 := by have := HNA.out; have := HNB.out; omega
  obtain rfl : n4 = m4 := by have := HNA.out; have := HNB.out; omega
  obtain ⟨ty, router, area, auth, mask, intv, dead, prio, dr, bdr, nbs, flags, seq, heads, keys, lsas⟩ := P
  try simp only at HNA HNB
  clear ha hb
  go_enter Try.func14, Try.ntmps14
  go_upto_region 1 with fail
  obtain ⟨CA, hCA⟩ : ∃ CA, CA = pkC ⟨ty, router, area, auth, mask, intv, dead, prio, dr, bdr, nbs, flags, seq, heads, keys, lsas⟩ A1 n1 c1 A2 n2 c2 A3 n3 c3 A4 n4 c4 := ⟨_, rfl⟩
  obtain ⟨CB, hCB⟩ : ∃ CB, CB = pkC ⟨ty, router, area, auth, mask, intv, dead, prio, dr, bdr, nbs, flags, seq, heads, keys, lsas⟩ B1 n1 d1 B2 n2 d2 B3 n3 d3 B4 n4 d4 := ⟨_, rfl⟩
  have hbP := blk_alloc (heap_alloc_new w (.cells CA 30)) (.cells CB 30)
  have hbQ := heap_alloc_new (w.alloc (.cells CA 30)) (.cells CB 30)
  rw [show (w.alloc (.cells CA 30)).heap.size = w.heap.size + 1 by simp] at hbQ
  have hbb := ((Below.refl w.heap.size w).alloc (Nat.le_refl _) (.cells CA 30)).alloc (by simp) (.cells CB 30)
  have hs1 : ((w.alloc (.cells CA 30)).alloc (.cells CB 30)).heap.size = w.heap.size + 2 := by simp
  subst hCA; subst hCB
  generalize (w.alloc (.cells _ 30)).alloc (.cells _ 30) = w1 at *
  have HB := hid hbb
  have HbP := hid hbP
  have HbQ := hid hbQ
  have kP : ∀ (x : WK (fun _ => False) w1) j, (wat x).cell? ⟨w.heap.size, j, none⟩ = _ := fun x j => (wat_cell (p := ⟨w.heap.size, j, none⟩) (by simp; omega) (by simp) x).trans ((blk_cells hbP).1 j)
  have kQ : ∀ (x : WK (fun _ => False) w1) j, (wat x).cell? ⟨w.heap.size + 1, j, none⟩ = _ := fun x j => (wat_cell (p := ⟨w.heap.size + 1, j, none⟩) (by simp; omega) (by simp) x).trans ((blk_cells hbQ).1 j)
  have a4 := fun x => kP x 4; have b4 := fun x => kQ x 4
  have a5 := fun x => kP x 5; have b5 := fun x => kQ x 5
  have a6 := fun x => kP x 6; have b6 := fun x => kQ x 6
  have a7 := fun x => kP x 7; have b7 := fun x => kQ x 7
  have a8 := fun x => kP x 8; have b8 := fun x => kQ x 8
  have a9 := fun x => kP x 9; have b9 := fun x => kQ x 9
  have a10 := fun x => kP x 10; have b10 := fun x => kQ x 10
  simp at a4 b4 a5 b5 a6 b6 a7 b7 a8 b8 a9 b9 a10 b10
  clear kP kQ hbP hbQ hbb
  refine wp_region_loud (fun _ => False)
    [(4, newL 25 #[.int .u32 0, .int .i64 0, .int .i64 0, .int .i64 0, .int .u32 0, .int .u32 0, .slice none 0 0]), (5, newL 25 #[.int .u32 0, .int .i64 0, .int .i64 0, .int .i64 0, .int .u32 0, .int .u32 0, .slice none 0 0]),
     (6, storeC [4] 25 (gtC ⟨ty, router, area, auth, mask, intv, dead, prio, dr, bdr, nbs, flags, seq, heads, keys, lsas⟩ A1 n1 c1)), (7, storeC [5] 25 (gtC ⟨ty, router, area, auth, mask, intv, dead, prio, dr, bdr, nbs, flags, seq, heads, keys, lsas⟩ B1 n1 d1))]
    (fun _ => Fact.none) (by kernel_rfl) (by kernel_rfl)
    (.cons (newL_ok _ _) (.cons (newL_ok _ _) (.cons (storeC_ok _ _ _) (.cons (storeC_ok _ _ _) .nil))))
    good_nothing sat_none (WX.out ?_)
  repeat (first | (refine wx_quietU (by rfl) (by rfl) (by rfl) (fun K hK => ?_); go_big_quiet_op; refine hK _ ?_; clear hK K) | (refine wx_quietG (by rfl) (by rfl) (by rfl) (by rfl) (by rfl) (fun K hK => ?_); go_big_quiet_op; refine hK _ ?_; clear hK K) | (refine wx_skipG (by rfl) (by rfl) (by rfl) (fun K hK => ?_); go_simp; refine hK _ ?_; clear hK K) | (refine wx_skipN (by rfl) (by rfl) (by rfl) (fun K hK => ?_); go_simp; refine hK _ ?_; clear hK K))
  refine wx_loudU (us := []) (by rfl) (by rfl) (fun S wS hC hS hU => ?_) (fun v hv K hK => ?_)
  · exact runs_value (by go_simp <;> rfl) (newB_x rfl)
  obtain ⟨g5, rfl⟩ := hv; (go_simp; refine hK _ ?_; clear hK K)
  repeat (first | (refine wx_quietU (by rfl) (by rfl) (by rfl) (fun K hK => ?_); go_big_quiet_op; refine hK _ ?_; clear hK K) | (refine wx_quietG (by rfl) (by rfl) (by rfl) (by rfl) (by rfl) (fun K hK => ?_); go_big_quiet_op; refine hK _ ?_; clear hK K) | (refine wx_skipG (by rfl) (by rfl) (by rfl) (fun K hK => ?_); go_simp; refine hK _ ?_; clear hK K) | (refine wx_skipN (by rfl) (by rfl) (by rfl) (fun K hK => ?_); go_simp; refine hK _ ?_; clear hK K))
  refine wx_loudU (us := []) (by rfl) (by rfl) (fun S wS hC hS hU => ?_) (fun v hv K hK => ?_)
  · exact runs_value (by go_simp <;> rfl) (newB_x rfl)
  obtain ⟨g6, rfl⟩ := hv; (go_simp; refine hK _ ?_; clear hK K)
  repeat (first | (refine wx_quietU (by rfl) (by rfl) (by rfl) (fun K hK => ?_); go_big_quiet_op; refine hK _ ?_; clear hK K) | (refine wx_quietG (by rfl) (by rfl) (by rfl) (by rfl) (by rfl) (fun K hK => ?_); go_big_quiet_op; refine hK _ ?_; clear hK K) | (refine wx_skipG (by rfl) (by rfl) (by rfl) (fun K hK => ?_); go_simp; refine hK _ ?_; clear hK K) | (refine wx_skipN (by rfl) (by rfl) (by rfl) (fun K hK => ?_); go_simp; refine hK _ ?_; clear hK K))
  refine wx_loudU (us := [4]) (by rfl) (by rfl) (fun S wS hC hS hU => ?_) (fun v hv K hK => ?_)
  · obtain ⟨g', e1, k3, k4⟩ := (hU 4 (by simp) : NewB 25 #[.int .u32 0, .int .i64 0, .int .i64 0, .int .i64 0, .int .u32 0, .int .u32 0, .slice none 0 0] (.pointer (some ⟨g5, 0, none⟩)) S wS)
    injection e1 with e1
    injection e1 with e1
    injection e1 with e1
    subst e1
    exact runs_store_whole 25 (.tmp 5) (.tmp 12) rfl (gtC ⟨ty, router, area, auth, mask, intv, dead, prio, dr, bdr, nbs, flags, seq, heads, keys, lsas⟩ A1 n1 c1) rfl rfl k4 (by kernel_rfl) rfl (by simp [Value.oneCell'])
      ⟨trivial, kept_setRow wS g5 _ k3, g5, rfl, .inl k3, setRow_heap _ _ _ _ _ _ k4⟩
  (go_simp; refine hK _ ?_; clear hK K)
  repeat (first | (refine wx_quietU (by rfl) (by rfl) (by rfl) (fun K hK => ?_); go_big_quiet_op; refine hK _ ?_; clear hK K) | (refine wx_quietG (by rfl) (by rfl) (by rfl) (by rfl) (by rfl) (fun K hK => ?_); go_big_quiet_op; refine hK _ ?_; clear hK K) | (refine wx_skipG (by rfl) (by rfl) (by rfl) (fun K hK => ?_); go_simp; refine hK _ ?_; clear hK K) | (refine wx_skipN (by rfl) (by rfl) (by rfl) (fun K hK => ?_); go_simp; refine hK _ ?_; clear hK K))
  refine wx_loudU (us := [5]) (by rfl) (by rfl) (fun S wS hC hS hU => ?_) (fun v hv K hK => ?_)
  · obtain ⟨g', e1, k3, k4⟩ := (hU 5 (by simp) : NewB 25 #[.int .u32 0, .int .i64 0, .int .i64 0, .int .i64 0, .int .u32 0, .int .u32 0, .slice none 0 0] (.pointer (some ⟨g6, 0, none⟩)) S wS)
    injection e1 with e1
    injection e1 with e1
    injection e1 with e1
    subst e1
    exact runs_store_whole 25 (.tmp 6) (.tmp 14) rfl (gtC ⟨ty, router, area, auth, mask, intv, dead, prio, dr, bdr, nbs, flags, seq, heads, keys, lsas⟩ B1 n1 d1) rfl rfl k4 (by kernel_rfl) rfl (by simp [Value.oneCell'])
      ⟨trivial, kept_setRow wS g6 _ k3, g6, rfl, .inl k3, setRow_heap _ _ _ _ _ _ k4⟩
  (go_simp; refine hK _ ?_; clear hK K)
  repeat (first | (refine wx_quietU (by rfl) (by rfl) (by rfl) (fun K hK => ?_); go_big_quiet_op; refine hK _ ?_; clear hK K) | (refine wx_quietG (by rfl) (by rfl) (by rfl) (by rfl) (by rfl) (fun K hK => ?_); go_big_quiet_op; refine hK _ ?_; clear hK K) | (refine wx_skipG (by rfl) (by rfl) (by rfl) (fun K hK => ?_); go_simp; refine hK _ ?_; clear hK K) | (refine wx_skipN (by rfl) (by rfl) (by rfl) (fun K hK => ?_); go_simp; refine hK _ ?_; clear hK K))
  refine wx_nil fun w4 hsat => ?_
  obtain ⟨S5, _, hF5⟩ := sat_get hsat 6
  obtain ⟨S6, _, hF6⟩ := sat_get hsat 7
  have hg5 : w4.heap[g5]? = some (.cells (gtC ⟨ty, router, area, auth, mask, intv, dead, prio, dr, bdr, nbs, flags, seq, heads, keys, lsas⟩ A1 n1 c1) 25 (0, 0)) := (storeC_get (g := g5) hF5).2
  have hg6 : w4.heap[g6]? = some (.cells (gtC ⟨ty, router, area, auth, mask, intv, dead, prio, dr, bdr, nbs, flags, seq, heads, keys, lsas⟩ B1 n1 d1) 25 (0, 0)) := (storeC_get (g := g6) hF6).2
  have hb14 := sat_below hsat
  have hbw := HB.out.trans (hb14.mono HB.out.size)
  have hbP4 := blk_below HbP.out hb14 (by omega)
  have hbQ4 := blk_below HbQ.out hb14 (by omega)
  have hs4 := hb14.size
  have HA4 := hid (HA0.out.below hbw)
  have HB4 := hid (HB0.out.below hbw)
  have HBW := hid hbw
  clear hsat hF5 hF6 hb14 hbw HbP HbQ
  obtain ⟨c5, _⟩ := blk_cells hg5
  obtain ⟨c6, _⟩ := blk_cells hg6
  obtain ⟨cP, _⟩ := blk_cells hbP4
  obtain ⟨cQ, _⟩ := blk_cells hbQ4
  have f0 := c5 0; have e0 := c6 0
  have f1 := c5 1; have e1 := c6 1
  have f2 := c5 2; have e2 := c6 2
  have f3 := c5 3; have e3 := c6 3
  have f4 := c5 4; have e4 := c6 4
  have f5 := c5 5; have e5 := c6 5
  have f6 := c5 6; have e6 := c6 6
  have p0 := cP 0; have q0 := cQ 0
  have p1 := cP 1; have q1 := cQ 1
  have p2 := cP 2; have q2 := cQ 2
  have p3 := cP 3; have q3 := cQ 3
  have p11 := cP 11; have q11 := cQ 11
  have p12 := cP 12; have q12 := cQ 12
  have p13 := cP 13; have q13 := cQ 13
  have p14 := cP 14; have q14 := cQ 14
  have p15 := cP 15; have q15 := cQ 15
  simp at f0 e0 f1 e1 f2 e2 f3 e3 f4 e4 f5 e5 f6 e6 p0 q0 p1 q1 p2 q2 p3 q3 p11 q11 p12 q12 p13 q13 p14 q14 p15 q15
  clear c5 c6 cP cQ hg5 hg6 a4 b4 a5 b5 a6 b6 a7 b7 a8 b8 a9 b9 a10 b10
  go_upto_region 5 with fail
  clear f0 e0 f1 e1 f2 e2 f3 e3 f4 e4 f5 e5 p0 q0 p1 q1 p2 q2 p3 q3 p11 q11 p12 q12
  go_loopw [7] (fun i wr => ∃ (k q : Nat), k ≤ n1 ∧ i = .int .i64 k ∧ wr = w4.drewN q) (fun i _ => n1 - (intOf i).toNat)
  case atStart => exact ⟨0, 0, Nat.zero_le _, rfl, rfl⟩
  case round =>
    obtain ⟨k, q, hk, rfl, rfl⟩ := hrel
    by_cases hlt : k < n1
    · obtain ⟨b, off, rfl, hbl, r0⟩ := HA4.out.nbs.u32 hlt
      obtain ⟨b', off', rfl, hbl', r1⟩ := HB4.out.nbs.u32 hlt
      try simp only at r0 r1
      generalize natAt nbs k = X at *
      as_aux_lemma =>
        go_wp2_with fail
        go_quiet (fail)
        go_wp2_with fail
        exact ⟨⟨k + 1, q + nq, by omega, by go_num, rfl⟩, by simp [intOf]; omega⟩
    · obtain rfl : n1 = k := by omega
      clear hk hlt
      as_aux_lemma =>
        go_upto_region 10 with fail
        go_loopw [8] (fun i wr => ∃ (k q : Nat), k ≤ n2 ∧ i = .int .i64 k ∧ wr = w4.drewN q) (fun i _ => n2 - (intOf i).toNat)
        case atStart => exact ⟨0, _, Nat.zero_le _, rfl, rfl⟩
        case round =>
          obtain ⟨k, q, hk, rfl, rfl⟩ := hrel
          by_cases hlt : k < n2
          · obtain ⟨b, off, rfl, hbl, r0, r1, r2, r3, r4, r5, r6⟩ := HA4.out.heads.hd hlt
            obtain ⟨b', off', rfl, hbl', v0, v1, v2, v3, v4, v5, v6⟩ := HB4.out.heads.hd hlt
            try simp only at r0 r1 r2 r3 r4 r5 r6 v0 v1 v2 v3 v4 v5 v6
            generalize hdAt heads k = X at *
            obtain ⟨x1, x2, x3, x4, x5, x6, x7⟩ := X
            try simp only at r0 r1 r2 r3 r4 r5 r6 v0 v1 v2 v3 v4 v5 v6
            as_aux_lemma =>
              go_wp2_with fail
              go_quiet (fail)
              go_wp2_with fail
              exact ⟨⟨k + 1, q + nq, by omega, by go_num, rfl⟩, by simp [intOf]; omega⟩
          · obtain rfl : n2 = k := by omega
            clear hk hlt
            as_aux_lemma =>
              go_upto_region 15 with fail
              go_loopw [9] (fun i wr => ∃ (k q : Nat), k ≤ n3 ∧ i = .int .i64 k ∧ wr = w4.drewN q) (fun i _ => n3 - (intOf i).toNat)
              case atStart => exact ⟨0, _, Nat.zero_le _, rfl, rfl⟩
              case round =>
                obtain ⟨k, q, hk, rfl, rfl⟩ := hrel
                by_cases hlt : k < n3
                · obtain ⟨b, off, rfl, hbl, r0, r1, r2⟩ := HA4.out.keys.ky hlt
                  obtain ⟨b', off', rfl, hbl', v0, v1, v2⟩ := HB4.out.keys.ky hlt
                  try simp only at r0 r1 r2 v0 v1 v2
                  generalize kyAt keys k = X at *
                  obtain ⟨x1, x2, x3⟩ := X
                  try simp only at r0 r1 r2 v0 v1 v2
                  as_aux_lemma =>
                    go_wp2_with fail
                    go_quiet (fail)
                    go_wp2_with fail
                    exact ⟨⟨k + 1, q + nq, by omega, by go_num, rfl⟩, by simp [intOf]; omega⟩
                · obtain rfl : n3 = k := by omega
                  clear hk hlt
                  as_aux_lemma =>
                    go_upto_region 20 with fail
                    go_loopw [10] (fun i wr => ∃ (k : Nat), k ≤ n4 ∧ i = .int .i64 k ∧ Below w4.heap.size w4 wr) (fun i _ => n4 - (intOf i).toNat)
                    case atStart => exact ⟨0, Nat.zero_le _, rfl, below_drewN (Below.refl _ _) _⟩
                    case round =>
                      obtain ⟨k, hk, rfl, hbr⟩ := hrel
                      by_cases hlt : k < n4
                      · have hsz := hbr.size
                        obtain ⟨hp1, hp2⟩ := ls_zipS lsas R HA4.out.rl k (by rw [HNA.out.2.2.2]; exact hlt)
                        obtain ⟨hp3, hp4⟩ := ls_zipS lsas R' HB4.out.rl k (by rw [HNB.out.2.2.2]; exact hlt)
                        obtain ⟨b, off, rfl, hbl, hq⟩ := (HA4.out.lsas.below hbr).ls hlt
                        obtain ⟨b', off', rfl, hbl', hv⟩ := (HB4.out.lsas.below hbr).ls hlt
                        have hI1 := (HA4.out.each _ hp2).below hbr
                        have hI2 := (HB4.out.each _ hp4).below hbr
                        have hXX := hp1.trans hp3.symm
                        have k15 := (hbr.cell (p := ⟨w.heap.size, 15, none⟩) (by simp; omega)).trans p15
                        have l15 := (hbr.cell (p := ⟨w.heap.size + 1, 15, none⟩) (by simp; omega)).trans q15
                        clear hp1 hp2 hp3 hp4
                        generalize lsAt (lsas.zip R) k = XX at *
                        generalize lsAt (lsas.zip R') k = YY at *
                        obtain ⟨X, rA1, rn1, rc1, rA2, rn2, rc2⟩ := XX
                        obtain ⟨Y, sA1, sn1, sc1, sA2, sn2, sc2⟩ := YY
                        try simp only at hXX
                        subst hXX
                        as_aux_lemma =>
                          go_upto_region 22 with fail
                          have z7 := fun (z : WK (fun _ => False) wr) => (wat_cell (p := ⟨w.heap.size, 15, none⟩) (by simp; omega) (by simp) z).trans k15
                          have y7 := fun (z : WK (fun _ => False) wr) => (wat_cell (p := ⟨w.heap.size + 1, 15, none⟩) (by simp; omega) (by simp) z).trans l15
                          have za := fun (z : WK (fun _ => False) wr) => (wat_cell (p := ⟨b, off + k * 9, none⟩) hbl (by simp) z).trans (hq 0 (by omega))
                          have ya := fun (z : WK (fun _ => False) wr) => (wat_cell (p := ⟨b', off' + k * 9, none⟩) hbl' (by simp) z).trans (hv 0 (by omega))
                          have zb := fun (z : WK (fun _ => False) wr) => (wat_cell (p := ⟨b, off + k * 9 + 1, none⟩) hbl (by simp) z).trans (hq 1 (by omega))
                          have yb := fun (z : WK (fun _ => False) wr) => (wat_cell (p := ⟨b', off' + k * 9 + 1, none⟩) hbl' (by simp) z).trans (hv 1 (by omega))
                          have zc := fun (z : WK (fun _ => False) wr) => (wat_cell (p := ⟨b, off + k * 9 + 2, none⟩) hbl (by simp) z).trans (hq 2 (by omega))
                          have yc := fun (z : WK (fun _ => False) wr) => (wat_cell (p := ⟨b', off' + k * 9 + 2, none⟩) hbl' (by simp) z).trans (hv 2 (by omega))
                          have zd := fun (z : WK (fun _ => False) wr) => (wat_cell (p := ⟨b, off + k * 9 + 3, none⟩) hbl (by simp) z).trans (hq 3 (by omega))
                          have yd := fun (z : WK (fun _ => False) wr) => (wat_cell (p := ⟨b', off' + k * 9 + 3, none⟩) hbl' (by simp) z).trans (hv 3 (by omega))
                          have ze := fun (z : WK (fun _ => False) wr) => (wat_cell (p := ⟨b, off + k * 9 + 4, none⟩) hbl (by simp) z).trans (hq 4 (by omega))
                          have ye := fun (z : WK (fun _ => False) wr) => (wat_cell (p := ⟨b', off' + k * 9 + 4, none⟩) hbl' (by simp) z).trans (hv 4 (by omega))
                          have zf := fun (z : WK (fun _ => False) wr) => (wat_cell (p := ⟨b, off + k * 9 + 5, none⟩) hbl (by simp) z).trans (hq 5 (by omega))
                          have yf := fun (z : WK (fun _ => False) wr) => (wat_cell (p := ⟨b', off' + k * 9 + 5, none⟩) hbl' (by simp) z).trans (hv 5 (by omega))
                          have zg := fun (z : WK (fun _ => False) wr) => (wat_cell (p := ⟨b, off + k * 9 + 6, none⟩) hbl (by simp) z).trans (hq 6 (by omega))
                          have yg := fun (z : WK (fun _ => False) wr) => (wat_cell (p := ⟨b', off' + k * 9 + 6, none⟩) hbl' (by simp) z).trans (hv 6 (by omega))
                          have zh := fun (z : WK (fun _ => False) wr) => (wat_cell (p := ⟨b, off + k * 9 + 7, none⟩) hbl (by simp) z).trans (hq 7 (by omega))
                          have yh := fun (z : WK (fun _ => False) wr) => (wat_cell (p := ⟨b', off' + k * 9 + 7, none⟩) hbl' (by simp) z).trans (hv 7 (by omega))
                          have zi := fun (z : WK (fun _ => False) wr) => (wat_cell (p := ⟨b, off + k * 9 + 8, none⟩) hbl (by simp) z).trans (hq 8 (by omega))
                          have yi := fun (z : WK (fun _ => False) wr) => (wat_cell (p := ⟨b', off' + k * 9 + 8, none⟩) hbl' (by simp) z).trans (hv 8 (by omega))
                          simp [lsC] at za zb zc zd ze zf zg zh zi ya yb yc yd ye yf yg yh yi
                          clear hq hv k15 l15
                          refine wp_region_loud (fun _ => False) [(10, plainL [] (.bool true))] (fun _ => Fact.none) (by kernel_rfl) (by kernel_rfl)
                            (.cons (plainL_ok _ _) .nil) good_nothing sat_none (WX.out ?_)
                          repeat (first | (refine wx_quietU (by rfl) (by rfl) (by rfl) (fun K hK => ?_); go_big_quiet_op; refine hK _ ?_; clear hK K) | (refine wx_quietG (by rfl) (by rfl) (by rfl) (by rfl) (by rfl) (fun K hK => ?_); go_big_quiet_op; refine hK _ ?_; clear hK K) | (refine wx_skipG (by rfl) (by rfl) (by rfl) (fun K hK => ?_); go_simp; refine hK _ ?_; clear hK K) | (refine wx_skipN (by rfl) (by rfl) (by rfl) (fun K hK => ?_); go_simp; refine hK _ ?_; clear hK K))
                          refine wx_loudU (us := []) (by rfl) (by rfl) (fun S wS hC hS hU => runs_enter (f := 53) (by go_simp <;> rfl) ?_) (fun v hv K hK => ?_)
                          · have j1 := hI1.below hC.below
                            have j2 := hI2.below hC.below
                            refine (refSame_any X X rA1 rn1 rc1 rA2 rn2 rc2 sA1 sn1 sc1 sA2 sn2 sc2 wS ⟨j1.links, j1.routers⟩ ⟨j2.links, j2.routers⟩ rfl).mono ?_
                            rintro e w' ⟨rfl, hb2⟩
                            exact ⟨_, rfl, rfl, Kept.of_below hb2, trivial⟩
                          obtain rfl := hv; (go_simp; refine hK _ ?_; clear hK K)
                          repeat (first | (refine wx_quietU (by rfl) (by rfl) (by rfl) (fun K hK => ?_); go_big_quiet_op; refine hK _ ?_; clear hK K) | (refine wx_quietG (by rfl) (by rfl) (by rfl) (by rfl) (by rfl) (fun K hK => ?_); go_big_quiet_op; refine hK _ ?_; clear hK K) | (refine wx_skipG (by rfl) (by rfl) (by rfl) (fun K hK => ?_); go_simp; refine hK _ ?_; clear hK K) | (refine wx_skipN (by rfl) (by rfl) (by rfl) (fun K hK => ?_); go_simp; refine hK _ ?_; clear hK K))
                          refine wx_nil fun w9 hsat => ?_
                          have hb9 := sat_below hsat
                          clear hsat za zb zc zd ze zf zg zh zi ya yb yc yd ye yf yg yh yi z7 y7
                          go_wp2_with fail
                          go_light
                          exact ⟨⟨k + 1, by omega, by go_num, hbr.trans (hb9.mono hsz)⟩, by simp [intOf]; omega⟩
                      · obtain rfl : n4 = k := by omega
                        as_aux_lemma =>
                          have k15 := (hbr.cell (p := ⟨w.heap.size, 15, none⟩) (by simp; omega)).trans p15
                          go_wp2_with fail
                          go_ret
                          exact ⟨rfl, HBW.out.trans (hbr.mono (by have := HBW.out.size; omega))⟩
end Go.Proofs.Ytgopkpogakjckaa
