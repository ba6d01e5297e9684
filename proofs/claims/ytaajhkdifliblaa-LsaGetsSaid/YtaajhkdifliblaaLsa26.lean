/-
  The walk of LsaGets.
-/
import Derived.Test.YtaajhkdifliblaaLsa25
namespace Go.Proofs.Ytaajhkdifliblaa
set_option linter.unusedVariables false
set_option linter.unusedSimpArgs false
open Go Go.RowKit SM LM

/-- the reference's Put, of all -/
theorem refPut_all (L : Lsa) (A1 : Option Addr) (n1 c1 : Nat) (A2 : Option Addr) (n2 c2 : Nat) (w : World) (h : IsLsa w L A1 n1 c1 A2 n2 c2) (hwf : WfL L) :
    Calls Try.prog 42 #[.agg (lsaC L A1 n1 c1 A2 n2 c2)] w fun e w' => ∃ A c n l ok, e = .returned (.tuple #[.slice A n c, .bool ok]) ∧
      w'.ownsRow w.heap.size 5 1 (.slice A n c) n (B8 l) ∧ n < 65536 ∧ Below w.heap.size w w' := by
  cases hr : L.right with
  | false =>
    refine (refPut_no L A1 n1 c1 A2 n2 c2 w h hr).mono ?_
    rintro e w' ⟨rfl, hb⟩
    exact ⟨none, 0, 0, [], false, rfl, own_nilE _ _ _ _, by omega, hb⟩
  | true =>
    refine (refPut_yes L A1 n1 c1 A2 n2 c2 w h hwf hr).mono ?_
    rintro e w' ⟨A, c, n, rfl, ho, hb⟩
    refine ⟨A, c, n, putB L, true, rfl, ho, ?_, hb⟩
    have h1 := putB_len L hr
    have h2 := nv_lt ((putB L).drop 18) 2
    have h3 := (own_sl ho).len.1
    have h4 : fld (putB L) 18 2 < 65536 := (by simpa [fld] using h2)
    omega
/-- the header's read, of all -/
theorem head_all (A : Option Addr) (n c : Nat) (l : List UInt8) (w : World) (h : Sl w 1 (.slice A n c) (B8 l)) :
    Calls Try.prog 45 #[.slice A n c] w fun e w' => ∃ y0 y1 y2 y3 y4 y5 y6, e = .returned (.tuple #[.agg (hdrCells y0 y1 y2 y3 y4 y5 y6), .int .i64 (if n < 20 then 4 else 0)]) ∧ Below w.heap.size w w' := by
  by_cases hn : n < 20
  · refine (head_no A n c w hn).mono ?_
    rintro e w' ⟨rfl, hb⟩
    exact ⟨0, 0, 0, 0, 0, 0, 0, by rw [if_pos hn], hb⟩
  · refine (head_yes A n c l w h (by omega)).mono ?_
    rintro e w' ⟨rfl, hb⟩
    exact ⟨_, _, _, _, _, _, _, by rw [if_neg hn], hb⟩
/-- how long what is got can be -/
theorem getL_lens (l : List UInt8) {w' : World} {B1 : Option Addr} {m1 d1 : Nat} {B2 : Option Addr} {m2 d2 : Nat} (hI : IsLsa w' (getL l) B1 m1 d1 B2 m2 d2) : m1 ≤ 100000 ∧ m2 ≤ 100000 := by
  by_cases h : getE l = 0
  · have hr : (getL l).right = true := by
      unfold getL
      rw [if_pos h]
      unfold getE at h
      split at h
      · omega
      · split at h
        · omega
        · split at h
          · rename_i h3; exact h3.1
          · omega
    exact right_lens hr hI
  · have hz : getL l = zeroL := by unfold getL; rw [if_neg h]
    have e1 := hI.links.lenN.1
    have e2 := hI.routers.lenN.1
    rw [LK_length, hz] at e1
    rw [U32_length, hz] at e2
    simp [zeroL] at e1 e2
    omega
theorem ofNat_256 (n : Int) (h : 0 ≤ n ∧ n < 256) : ((UInt8.ofNat n.toNat).toNat : Int) = n := by
  rw [UInt8.toNat_ofNat', Nat.mod_eq_of_lt (by omega)]; omega
theorem bits_u8_bd (op : BinOp) (x y : Int) : 0 ≤ bits op .u8 x y ∧ bits op .u8 x y < 256 := by
  unfold bits
  dsimp only
  rw [IntKind.wrap_u8]
  omega
/-- a row of bytes, whichever -/
def AnyOwn (base n : Nat) (v : Value) : Fact := fun S w => ∃ l, OwnF base 5 1 n (B8 l) v S w
theorem good_any (base n : Nat) (v : Value) : Good (AnyOwn base n v) := fun S S' w w' h1 h2 ⟨l, h⟩ => ⟨l, good_own _ _ _ _ _ _ S S' w w' h1 h2 h⟩
set_option maxRecDepth 100000 in
set_option maxHeartbeats 3200000 in
theorem lsaGets_walk (L : Lsa) (A1 : Option Addr) (n1 c1 : Nat) (A2 : Option Addr) (n2 c2 : Nat) (b0 b1 : Int) (R : Option Addr) (m cr : Nat) (lr : List UInt8) (w : World) (h : IsLsa w L A1 n1 c1 A2 n2 c2) (hwf : WfL L) (hn1 : n1 * 24 ≤ 140737488355328) (hn2 : n2 * 4 ≤ 140737488355328)
    (hraw : Sl w 1 (.slice R m cr) (B8 lr)) :
    Calls Try.prog 9 #[.agg (lsaC L A1 n1 c1 A2 n2 c2), .agg #[.int .i64 b0, .int .i64 b1], .slice R m cr] w fun e w' => e = .returned (.bool true) ∧ Below w.heap.size w w' := by
  have hbb := ((Below.refl w.heap.size w).alloc (Nat.le_refl _) (.cells (lsaC L A1 n1 c1 A2 n2 c2) 75)).alloc (by simp) (.cells #[.int .i64 b0, .int .i64 b1] 98)
  obtain ⟨mm, hmm, hm1, hm2⟩ : ∃ mm : Nat, min (m : Int) 100 = (mm : Int) ∧ mm ≤ m ∧ mm ≤ 100 := ⟨min m 100, by omega, by omega, by omega⟩
  have hraw' := hraw.take mm hm1
  have hcr := hraw.len.2
  have h0 := h.below hbb
  go_enter Try.func9, Try.ntmps9
  go_wp2_with fail
  refine (refPut_all L A1 n1 c1 A2 n2 c2 _ h0 hwf).mono ?_
  rintro e w1 ⟨A, c, n, l, ok, rfl, hown, hn, hb1⟩
  have hbe := blk_below (heap_alloc_new' (w.alloc (.cells (lsaC L A1 n1 c1 A2 n2 c2) 75)) (.cells #[.int .i64 b0, .int .i64 b1] 98) (w.heap.size + 1) (by simp)) hb1 (by simp)
  replace hown := own_base hown (base' := w.heap.size + 2) (by simp)
  have hs1 : w.heap.size + 2 ≤ w1.heap.size := by have := hb1.size; simp at this; omega
  have hbw := hbb.trans (hb1.mono (by simp; omega))
  clear h0 hbb hb1
  go_upto_if 29 with fail
  go_cut [7] (fun s wx => ∃ A n c l, s = .slice A n c ∧ wx.ownsRow (w.heap.size + 2) 5 1 (.slice A n c) n (B8 l) ∧ n < 65536 ∧ w.heap.size + 2 ≤ wx.heap.size ∧ wx.heap[w.heap.size + 1]? = some (.cells #[.int .i64 b0, .int .i64 b1] 98 (0, 0)) ∧ Below w.heap.size w wx)
  case first =>
    cases ok with
    | true =>
      go_wp2_with fail
      go_meet
      all_goals go_light
      exact ⟨A, n, c, l, rfl, hown, hn, hs1, hbe, hbw⟩
    | false =>
      have hemp := own_empty w1 (w.heap.size + 2) 5 1 w1.heap.size rfl hs1
      have hsl := (hraw'.below hbw).alloc (.cells #[] 5)
      have hbe2 := blk_alloc hbe (.cells #[] 5)
      have hbw2 := hbw.alloc hbw.size (.cells #[] 5)
      go_wp2_with (at_builtin; refine wpList_app rfl (.tmp 30) (.tmp 31) st_bytes rfl (w.heap.size + 2) rfl hemp rfl hsl (B8_one _) (by simp [maxLen]; omega) (by omega) (by simp; omega) ?_)
      intro A3 c3 w3 hown3 hg3 hf3
      go_wp2_with fail
      go_meet
      all_goals go_light
      have hbe3 := (hg3.block (w.heap.size + 1) (by simp; omega) (by simp [Value.ownBlock]; omega)).trans hbe2
      refine ⟨A3, mm, c3, lr.take mm, ?_, ?_, by omega, ?_, hbe3, hbw2.trans ((grown_below hemp hg3 (by simp; omega)).mono (by omega))⟩
      · simp
      · simpa using hown3
      · have := hg3.size; simp at this; omega
  case rest =>
    obtain ⟨B, nb, cb, lb, rfl, hown2, hnb, hs2, hbe2, hbw2⟩ := hcut
    clear hown hbe hs1 hbw hn
    go_upto_if 35 with fail
    go_cut [7, 9] (fun s k wx => ∃ A n c l, s = .slice A n c ∧ Sl wx 1 (.slice A n c) (B8 l) ∧ n < 65536 ∧ Below w.heap.size w wx)
    case first =>
      rcases Nat.eq_zero_or_pos nb with hz | hz
      · subst hz
        go_wp2_with fail
        go_meet
        all_goals go_light
        exact ⟨B, 0, cb, lb, rfl, own_sl hown2, by omega, hbw2⟩
      · obtain ⟨gB, rfl, hgB, hgB2⟩ := own_some hown2 hz
        obtain ⟨hcb, _⟩ := blk_cells hbe2
        have q0 := hcb 0
        have q1 := hcb 1
        simp at q0 q1
        have hcap := (own_sl hown2).len.2
        have en2 : IntKind.u64.wrap (nb : Int) = nb := by rw [IntKind.wrap_u64]; omega
        obtain ⟨k, hk, ek⟩ : ∃ k : Nat, k < nb ∧ wrap64 ((IntKind.u64.wrap b0).tmod (nb : Int)) = (k : Int) := by
          have h1 := Int.emod_nonneg (IntKind.u64.wrap b0) (show (nb : Int) ≠ 0 by omega)
          have h2 := Int.emod_lt_of_pos (IntKind.u64.wrap b0) (show 0 < (nb : Int) by omega)
          refine ⟨((IntKind.u64.wrap b0) % nb).toNat, by omega, ?_⟩
          rw [Int.tmod_eq_emod_of_nonneg (by rw [IntKind.wrap_u64]; omega)]
          unfold wrap64
          omega
        clear hcb
        go_upto_if 47 with fail
        rw [ek]
        clear ek en2
        go_wp2_with fail
        · go_meet
          all_goals go_light
          exact ⟨_, k, cb, lb.take k, rfl, (own_sl hown2).take k (by omega), by omega, hbw2⟩
        · have hblt := (Array.getElem?_eq_some_iff.1 hbe2).1
          have zb := fun z : WK (fun b => Value.ownBlock (.slice (some ⟨gB, 0, none⟩) nb cb) = some b) wc => (wat_cell (p := ⟨w.heap.size + 1, 1, none⟩) hblt (by simp [Value.ownBlock]; omega) z).trans q1
          have hklb : k < lb.length := by rw [(own_sl hown2).len.1]; exact hk
          refine wp_region_loud (fun b => Value.ownBlock (.slice (some ⟨gB, 0, none⟩) nb cb) = some b)
            [(3, loadL [100] (.int .u8 (byt lb k : Int)) (OwnF (w.heap.size + 2) 5 1 nb (B8 lb) (.slice (some ⟨gB, 0, none⟩) nb cb))), (9, keepL [3] (AnyOwn (w.heap.size + 2) nb (.slice (some ⟨gB, 0, none⟩) nb cb)))]
            (labelled 100 (OwnF (w.heap.size + 2) 5 1 nb (B8 lb) (.slice (some ⟨gB, 0, none⟩) nb cb))) (by kernel_rfl) (by kernel_rfl)
            (.cons (loadL_ok _ _ (good_own _ _ _ _ _ _)) (.cons (keepL_ok _ (good_any _ _ _)) .nil)) (good_one 100 (good_own _ _ _ _ _ _)) (sat_one 100 _ (ownF_lt hown2) (ownF_in hown2)) (WX.out ?_)
          repeat (first | (refine wx_quietU (by rfl) (by rfl) (by rfl) (fun K hK => ?_); go_big_quiet_op; refine hK _ ?_; clear hK K) | (refine wx_quietG (by rfl) (by rfl) (by rfl) (by rfl) (by rfl) (fun K hK => ?_); go_big_quiet_op; refine hK _ ?_; clear hK K) | (refine wx_skipG (by rfl) (by rfl) (by rfl) (fun K hK => ?_); go_simp; refine hK _ ?_; clear hK K) | (refine wx_skipN (by rfl) (by rfl) (by rfl) (fun K hK => ?_); go_simp; refine hK _ ?_; clear hK K))
          refine wx_loudU (us := [100]) (by rfl) (by rfl) (fun S wS hC hS hU => ?_) (fun v hv K hK => ?_)
          · have k100 : OwnF (w.heap.size + 2) 5 1 nb (B8 lb) (.slice (some ⟨gB, 0, none⟩) nb cb) S wS := hU 100 (by simp)
            obtain ⟨p0, p1⟩ := own_byte k100.2 k hk
            exact load_x (by go_simp <;> rfl) (good_own _ _ _ _ _ _) k100
          obtain rfl := hv; (go_simp; refine hK _ ?_; clear hK K)
          repeat (first | (refine wx_quietU (by rfl) (by rfl) (by rfl) (fun K hK => ?_); go_big_quiet_op; refine hK _ ?_; clear hK K) | (refine wx_quietG (by rfl) (by rfl) (by rfl) (by rfl) (by rfl) (fun K hK => ?_); go_big_quiet_op; refine hK _ ?_; clear hK K) | (refine wx_skipG (by rfl) (by rfl) (by rfl) (fun K hK => ?_); go_simp; refine hK _ ?_; clear hK K) | (refine wx_skipN (by rfl) (by rfl) (by rfl) (fun K hK => ?_); go_simp; refine hK _ ?_; clear hK K))
          refine wx_loudU (us := [3]) (by rfl) (by rfl) (fun S wS hC hS hU => ?_) (fun v hv K hK => ?_)
          · have k3 : OwnF (w.heap.size + 2) 5 1 nb (B8 lb) (.slice (some ⟨gB, 0, none⟩) nb cb) S wS := hU 3 (by simp)
            obtain ⟨p0, p1⟩ := own_byte k3.2 k hk
            refine runs_skip (by go_simp <;> rfl) ⟨trivial, ?_, ?_⟩
            · exact (Kept.refl S wS).setCell (p := ⟨gB, k, none⟩) (.inl (k3.1 gB rfl)) _
            · have hst := (k3.2.stored k (.int .u8 (bits BinOp.xor IntKind.u8 (byt lb k : Int) (b1 % 256)))).1
              rw [← ofNat_256 _ (bits_u8_bd BinOp.xor (byt lb k : Int) (b1 % 256)), B8_set] at hst
              rw [ofNat_256 _ (bits_u8_bd BinOp.xor (byt lb k : Int) (b1 % 256))] at hst
              exact (⟨lb.set k (UInt8.ofNat (bits BinOp.xor IntKind.u8 (byt lb k : Int) (b1 % 256)).toNat), fun g hg => Or.inl (k3.1 g hg), hst⟩ : AnyOwn (w.heap.size + 2) nb (.slice (some ⟨gB, 0, none⟩) nb cb) (fun b => S b ∨ (wS.heap.size ≤ b ∧ b < (wS.setCell ⟨gB, k, none⟩ (.int .u8 (bits BinOp.xor IntKind.u8 (byt lb k : Int) (b1 % 256)))).heap.size)) _)
          (go_simp; refine hK _ ?_; clear hK K)
          refine wx_nil fun wd hsat => ?_
          obtain ⟨hkd, own, hdis, hin, hfact⟩ := hsat
          obtain ⟨lz, hz9⟩ := (hfact 9 : AnyOwn (w.heap.size + 2) nb (.slice (some ⟨gB, 0, none⟩) nb cb) (own 9) wd)
          have hbd := hbw2.trans (hkd.below_of hbw2.size (fun b hb => by simp [Value.ownBlock] at hb; omega))
          clear hkd hdis hin hfact
          go_wp2_with fail
          go_meet
          all_goals go_light
          exact ⟨_, nb, cb, lz, rfl, own_sl hz9.2, hnb, hbd⟩
    case rest =>
      obtain ⟨X, n, c, l, rfl, hsl, hn, hbx⟩ := hcut
      have hrx := hraw'.below hbx
      clear hown2 hnb hs2 hbe2 hbw2 hraw hraw'
      go_wp2_with fail
      go_loopw [10] (fun i wr => ∃ j : Nat, j ≤ 2 ∧ i = .int .i64 j ∧ Below wc.heap.size wc wr) (fun i _ => 2 - (intOf i).toNat)
      case atStart => exact ⟨0, by omega, rfl, Below.refl _ _⟩
      case round =>
        obtain ⟨j, hj, rfl, hbr⟩ := hrel
        by_cases hj0 : j = 0
        · subst hj0
          obtain ⟨G, hG⟩ : ∃ G, getL l = G := ⟨_, rfl⟩
          obtain ⟨ge, hge⟩ : ∃ ge, getE l = ge := ⟨_, rfl⟩
          have LB : Hid (∀ {w' : World} {B1 : Option Addr} {m1 d1 : Nat} {B2 : Option Addr} {m2 d2 : Nat} (hI : IsLsa w' G B1 m1 d1 B2 m2 d2), m1 ≤ 100000 ∧ m2 ≤ 100000) := by rw [← hG]; exact fun hI => getL_lens _ hI
          have HG := hid hG
          have HE := hid hge
          clear hG hge
          have hx := hsl.below hbr
          go_wp2_with fail
          refine (get_any X n c l wr hx (by omega)).mono ?_
          rintro e w1 ⟨M1, k1, e1, M2, k2, e2, rfl, hM, hb1⟩
          rw [HG.out] at hM
          rw [HG.out, HE.out]
          have hbA := hb1.trans (((Below.refl w1.heap.size w1).alloc (Nat.le_refl _) (.cells (lsaC G M1 k1 e1 M2 k2 e2) 80)).mono hb1.size)
          have hK1 := heap_alloc_new w1 (.cells (lsaC G M1 k1 e1 M2 k2 e2) 80)
          replace hM := hM.below ((Below.refl w1.heap.size w1).alloc (Nat.le_refl _) (.cells (lsaC G M1 k1 e1 M2 k2 e2) 80))
          replace hx := hx.below hbA
          replace hbA := hbr.trans (hbA.mono hbr.size)
          clear hb1
          go_wp2_with fail
          change Calls _ _ _ (w1.alloc (.cells (lsaC G M1 k1 e1 M2 k2 e2) 80)) _
          generalize w1.alloc (.cells (lsaC G M1 k1 e1 M2 k2 e2) 80) = w2 at *
          generalize w1.heap.size = g1 at *
          refine (refGet_any X n c l w2 hx (by omega)).mono ?_
          rintro e w3 ⟨N1, p1, f1, N2, p2, f2, rfl, hN, hb3⟩
          rw [HG.out] at hN
          rw [HG.out, HE.out]
          have hbB := hb3.trans (((Below.refl w3.heap.size w3).alloc (Nat.le_refl _) (.cells (lsaC G N1 p1 f1 N2 p2 f2) 75)).mono hb3.size)
          have hK2 := heap_alloc_new w3 (.cells (lsaC G N1 p1 f1 N2 p2 f2) 75)
          replace hN := hN.below ((Below.refl w3.heap.size w3).alloc (Nat.le_refl _) (.cells (lsaC G N1 p1 f1 N2 p2 f2) 75))
          replace hM := hM.below hbB
          replace hK1 := blk_below hK1 hbB (Array.getElem?_eq_some_iff.1 hK1).1
          replace hx := hx.below hbB
          replace hbA := hbA.trans (hbB.mono hbA.size)
          clear hb3 hbB
          go_wp2_with fail
          change Calls _ _ _ (w3.alloc (.cells (lsaC G N1 p1 f1 N2 p2 f2) 75)) _
          generalize w3.alloc (.cells (lsaC G N1 p1 f1 N2 p2 f2) 75) = w4 at *
          generalize w3.heap.size = g2 at *
          refine (head_all X n c l w4 hx).mono ?_
          rintro e w5 ⟨y0, y1, y2, y3, y4, y5, y6, rfl, hb5⟩
          have hbC := hb5.trans (((Below.refl w5.heap.size w5).alloc (Nat.le_refl _) (.cells (hdrCells y0 y1 y2 y3 y4 y5 y6) 87)).mono hb5.size)
          replace hM := hM.below hbC
          replace hN := hN.below hbC
          replace hK1 := blk_below hK1 hbC (Array.getElem?_eq_some_iff.1 hK1).1
          replace hK2 := blk_below hK2 hbC (Array.getElem?_eq_some_iff.1 hK2).1
          replace hbA := hbA.trans (hbC.mono hbA.size)
          clear hb5 hbC hx
          by_cases hn20 : n < 20
          · rw [if_pos hn20]
            have d20 : decide ((n : Int) < 20) = true := by simp; omega
            clear hn20
            go_wp2_with fail
            change Code.wp _ _ _ _ (w5.alloc (.cells (hdrCells y0 y1 y2 y3 y4 y5 y6) 87))
            generalize w5.alloc (.cells (hdrCells y0 y1 y2 y3 y4 y5 y6) 87) = w6 at *
            have z1 := fun (z : WK (fun _ => False) w6) i => (wat_cell (p := ⟨g1, i, none⟩) (Array.getElem?_eq_some_iff.1 hK1).1 (by simp) z).trans ((blk_cells hK1).1 i)
            have z2 := fun (z : WK (fun _ => False) w6) i => (wat_cell (p := ⟨g2, i, none⟩) (Array.getElem?_eq_some_iff.1 hK2).1 (by simp) z).trans ((blk_cells hK2).1 i)
            refine wp_region_loud (fun _ => False) [(5, lsaL [] G), (7, plainL [5] (.bool true))] (fun _ => Fact.none) (by kernel_rfl) (by kernel_rfl)
              (.cons (lsaL_ok _ _) (.cons (plainL_ok _ _) .nil)) good_nothing sat_none (WX.out ?_)
            repeat (first | (refine wx_quietU (by rfl) (by rfl) (by rfl) (fun K hK => ?_); go_big_quiet_op; refine hK _ ?_; clear hK K) | (refine wx_quietG (by rfl) (by rfl) (by rfl) (by rfl) (by rfl) (fun K hK => ?_); go_big_quiet_op; refine hK _ ?_; clear hK K) | (refine wx_skipG (by rfl) (by rfl) (by rfl) (fun K hK => ?_); go_simp; refine hK _ ?_; clear hK K) | (refine wx_skipN (by rfl) (by rfl) (by rfl) (fun K hK => ?_); go_simp; refine hK _ ?_; clear hK K))
            refine wx_loudG (us := []) (by rfl) (by rfl) (by rfl) (by rfl) (fun S wS hC hS hU => runs_enter (f := 47) (by go_simp <;> rfl) ?_) (fun v hv K hK => ?_)
            · have hMS := hM.below hC.below
              refine (from1 G M1 k1 e1 M2 k2 e2 wS hMS (by have := LB.out hMS; omega) (by have := LB.out hMS; omega)).mono ?_
              rintro e w' ⟨B1, m1, d1, B2, m2, d2, rfl, hI, hb, hfA, hfB⟩
              exact ⟨_, rfl, ⟨_, _, _, _, _, _, rfl⟩, Kept.of_below hb, lsaF_of hI hfA hfB⟩
            obtain ⟨B1, m1, d1, B2, m2, d2, rfl⟩ := hv; (go_simp; refine hK _ ?_; clear hK K)
            repeat (first | (refine wx_quietU (by rfl) (by rfl) (by rfl) (fun K hK => ?_); go_big_quiet_op; refine hK _ ?_; clear hK K) | (refine wx_quietG (by rfl) (by rfl) (by rfl) (by rfl) (by rfl) (fun K hK => ?_); go_big_quiet_op; refine hK _ ?_; clear hK K) | (refine wx_skipG (by rfl) (by rfl) (by rfl) (fun K hK => ?_); go_simp; refine hK _ ?_; clear hK K) | (refine wx_skipN (by rfl) (by rfl) (by rfl) (fun K hK => ?_); go_simp; refine hK _ ?_; clear hK K))
            refine wx_loudG (us := [5]) (by rfl) (by rfl) (by rfl) (by rfl) (fun S wS hC hS hU => runs_enter (f := 46) (by go_simp <;> rfl) ?_) (fun v hv K hK => ?_)
            · refine (refSame_any G G B1 m1 d1 B2 m2 d2 N1 p1 f1 N2 p2 f2 wS (lsaF_out (hU 5 (by simp))) (hN.below hC.below) rfl).mono ?_
              rintro e w' ⟨rfl, hb⟩
              exact ⟨_, rfl, rfl, Kept.of_below hb, trivial⟩
            obtain rfl := hv; (go_simp; refine hK _ ?_; clear hK K)
            repeat (first | (refine wx_quietU (by rfl) (by rfl) (by rfl) (fun K hK => ?_); go_big_quiet_op; refine hK _ ?_; clear hK K) | (refine wx_quietG (by rfl) (by rfl) (by rfl) (by rfl) (by rfl) (fun K hK => ?_); go_big_quiet_op; refine hK _ ?_; clear hK K) | (refine wx_skipG (by rfl) (by rfl) (by rfl) (fun K hK => ?_); go_simp; refine hK _ ?_; clear hK K) | (refine wx_skipN (by rfl) (by rfl) (by rfl) (fun K hK => ?_); go_simp; refine hK _ ?_; clear hK K))
            refine wx_nil fun w7 hsat => ?_
            have hb7 := sat_below hsat
            replace hbA := hbA.trans (hb7.mono hbA.size)
            clear hsat z1 z2 hb7
            go_wp2_with fail
            go_light
            exact ⟨⟨0 + 1, by omega, by go_num, hbA⟩, by simp [intOf]⟩
          · rw [if_neg hn20]
            have hn20' : 20 ≤ n := by omega
            have d20 : decide ((n : Int) < 20) = false := by simp; omega
            clear hn20
            go_wp2_with fail
            change Code.wp _ _ _ _ (w5.alloc (.cells (hdrCells y0 y1 y2 y3 y4 y5 y6) 87))
            generalize w5.alloc (.cells (hdrCells y0 y1 y2 y3 y4 y5 y6) 87) = w6 at *
            have z1 := fun (z : WK (fun _ => False) w6) i => (wat_cell (p := ⟨g1, i, none⟩) (Array.getElem?_eq_some_iff.1 hK1).1 (by simp) z).trans ((blk_cells hK1).1 i)
            have z2 := fun (z : WK (fun _ => False) w6) i => (wat_cell (p := ⟨g2, i, none⟩) (Array.getElem?_eq_some_iff.1 hK2).1 (by simp) z).trans ((blk_cells hK2).1 i)
            refine wp_region_loud (fun _ => False) [(5, lsaL [] G), (7, plainL [5] (.bool true))] (fun _ => Fact.none) (by kernel_rfl) (by kernel_rfl)
              (.cons (lsaL_ok _ _) (.cons (plainL_ok _ _) .nil)) good_nothing sat_none (WX.out ?_)
            repeat (first | (refine wx_quietU (by rfl) (by rfl) (by rfl) (fun K hK => ?_); go_big_quiet_op; refine hK _ ?_; clear hK K) | (refine wx_quietG (by rfl) (by rfl) (by rfl) (by rfl) (by rfl) (fun K hK => ?_); go_big_quiet_op; refine hK _ ?_; clear hK K) | (refine wx_skipG (by rfl) (by rfl) (by rfl) (fun K hK => ?_); go_simp; refine hK _ ?_; clear hK K) | (refine wx_skipN (by rfl) (by rfl) (by rfl) (fun K hK => ?_); go_simp; refine hK _ ?_; clear hK K))
            refine wx_loudG (us := []) (by rfl) (by rfl) (by rfl) (by rfl) (fun S wS hC hS hU => runs_enter (f := 47) (by go_simp <;> rfl) ?_) (fun v hv K hK => ?_)
            · have hMS := hM.below hC.below
              refine (from1 G M1 k1 e1 M2 k2 e2 wS hMS (by have := LB.out hMS; omega) (by have := LB.out hMS; omega)).mono ?_
              rintro e w' ⟨B1, m1, d1, B2, m2, d2, rfl, hI, hb, hfA, hfB⟩
              exact ⟨_, rfl, ⟨_, _, _, _, _, _, rfl⟩, Kept.of_below hb, lsaF_of hI hfA hfB⟩
            obtain ⟨B1, m1, d1, B2, m2, d2, rfl⟩ := hv; (go_simp; refine hK _ ?_; clear hK K)
            repeat (first | (refine wx_quietU (by rfl) (by rfl) (by rfl) (fun K hK => ?_); go_big_quiet_op; refine hK _ ?_; clear hK K) | (refine wx_quietG (by rfl) (by rfl) (by rfl) (by rfl) (by rfl) (fun K hK => ?_); go_big_quiet_op; refine hK _ ?_; clear hK K) | (refine wx_skipG (by rfl) (by rfl) (by rfl) (fun K hK => ?_); go_simp; refine hK _ ?_; clear hK K) | (refine wx_skipN (by rfl) (by rfl) (by rfl) (fun K hK => ?_); go_simp; refine hK _ ?_; clear hK K))
            refine wx_loudG (us := [5]) (by rfl) (by rfl) (by rfl) (by rfl) (fun S wS hC hS hU => runs_enter (f := 46) (by go_simp <;> rfl) ?_) (fun v hv K hK => ?_)
            · refine (refSame_any G G B1 m1 d1 B2 m2 d2 N1 p1 f1 N2 p2 f2 wS (lsaF_out (hU 5 (by simp))) (hN.below hC.below) rfl).mono ?_
              rintro e w' ⟨rfl, hb⟩
              exact ⟨_, rfl, rfl, Kept.of_below hb, trivial⟩
            obtain rfl := hv; (go_simp; refine hK _ ?_; clear hK K)
            repeat (first | (refine wx_quietU (by rfl) (by rfl) (by rfl) (fun K hK => ?_); go_big_quiet_op; refine hK _ ?_; clear hK K) | (refine wx_quietG (by rfl) (by rfl) (by rfl) (by rfl) (by rfl) (fun K hK => ?_); go_big_quiet_op; refine hK _ ?_; clear hK K) | (refine wx_skipG (by rfl) (by rfl) (by rfl) (fun K hK => ?_); go_simp; refine hK _ ?_; clear hK K) | (refine wx_skipN (by rfl) (by rfl) (by rfl) (fun K hK => ?_); go_simp; refine hK _ ?_; clear hK K))
            refine wx_nil fun w7 hsat => ?_
            have hb7 := sat_below hsat
            replace hbA := hbA.trans (hb7.mono hbA.size)
            clear hsat z1 z2 hb7
            go_wp2_with fail
            go_light
            exact ⟨⟨0 + 1, by omega, by go_num, hbA⟩, by simp [intOf]⟩
        · by_cases hj1 : j = 1
          · subst hj1
            obtain ⟨G, hG⟩ : ∃ G, getL (lr.take mm) = G := ⟨_, rfl⟩
            obtain ⟨ge, hge⟩ : ∃ ge, getE (lr.take mm) = ge := ⟨_, rfl⟩
            have LB : Hid (∀ {w' : World} {B1 : Option Addr} {m1 d1 : Nat} {B2 : Option Addr} {m2 d2 : Nat} (hI : IsLsa w' G B1 m1 d1 B2 m2 d2), m1 ≤ 100000 ∧ m2 ≤ 100000) := by rw [← hG]; exact fun hI => getL_lens _ hI
            have HG := hid hG
            have HE := hid hge
            clear hG hge
            have hx := hrx.below hbr
            go_wp2_with fail
            refine (get_any R mm cr (lr.take mm) wr hx (by omega)).mono ?_
            rintro e w1 ⟨M1, k1, e1, M2, k2, e2, rfl, hM, hb1⟩
            rw [HG.out] at hM
            rw [HG.out, HE.out]
            have hbA := hb1.trans (((Below.refl w1.heap.size w1).alloc (Nat.le_refl _) (.cells (lsaC G M1 k1 e1 M2 k2 e2) 80)).mono hb1.size)
            have hK1 := heap_alloc_new w1 (.cells (lsaC G M1 k1 e1 M2 k2 e2) 80)
            replace hM := hM.below ((Below.refl w1.heap.size w1).alloc (Nat.le_refl _) (.cells (lsaC G M1 k1 e1 M2 k2 e2) 80))
            replace hx := hx.below hbA
            replace hbA := hbr.trans (hbA.mono hbr.size)
            clear hb1
            go_wp2_with fail
            change Calls _ _ _ (w1.alloc (.cells (lsaC G M1 k1 e1 M2 k2 e2) 80)) _
            generalize w1.alloc (.cells (lsaC G M1 k1 e1 M2 k2 e2) 80) = w2 at *
            generalize w1.heap.size = g1 at *
            refine (refGet_any R mm cr (lr.take mm) w2 hx (by omega)).mono ?_
            rintro e w3 ⟨N1, p1, f1, N2, p2, f2, rfl, hN, hb3⟩
            rw [HG.out] at hN
            rw [HG.out, HE.out]
            have hbB := hb3.trans (((Below.refl w3.heap.size w3).alloc (Nat.le_refl _) (.cells (lsaC G N1 p1 f1 N2 p2 f2) 75)).mono hb3.size)
            have hK2 := heap_alloc_new w3 (.cells (lsaC G N1 p1 f1 N2 p2 f2) 75)
            replace hN := hN.below ((Below.refl w3.heap.size w3).alloc (Nat.le_refl _) (.cells (lsaC G N1 p1 f1 N2 p2 f2) 75))
            replace hM := hM.below hbB
            replace hK1 := blk_below hK1 hbB (Array.getElem?_eq_some_iff.1 hK1).1
            replace hx := hx.below hbB
            replace hbA := hbA.trans (hbB.mono hbA.size)
            clear hb3 hbB
            go_wp2_with fail
            change Calls _ _ _ (w3.alloc (.cells (lsaC G N1 p1 f1 N2 p2 f2) 75)) _
            generalize w3.alloc (.cells (lsaC G N1 p1 f1 N2 p2 f2) 75) = w4 at *
            generalize w3.heap.size = g2 at *
            refine (head_all R mm cr (lr.take mm) w4 hx).mono ?_
            rintro e w5 ⟨y0, y1, y2, y3, y4, y5, y6, rfl, hb5⟩
            have hbC := hb5.trans (((Below.refl w5.heap.size w5).alloc (Nat.le_refl _) (.cells (hdrCells y0 y1 y2 y3 y4 y5 y6) 87)).mono hb5.size)
            replace hM := hM.below hbC
            replace hN := hN.below hbC
            replace hK1 := blk_below hK1 hbC (Array.getElem?_eq_some_iff.1 hK1).1
            replace hK2 := blk_below hK2 hbC (Array.getElem?_eq_some_iff.1 hK2).1
            replace hbA := hbA.trans (hbC.mono hbA.size)
            clear hb5 hbC hx
            by_cases hn20 : mm < 20
            · rw [if_pos hn20]
              have d20 : decide ((mm : Int) < 20) = true := by simp; omega
              clear hn20
              go_wp2_with fail
              change Code.wp _ _ _ _ (w5.alloc (.cells (hdrCells y0 y1 y2 y3 y4 y5 y6) 87))
              generalize w5.alloc (.cells (hdrCells y0 y1 y2 y3 y4 y5 y6) 87) = w6 at *
              have z1 := fun (z : WK (fun _ => False) w6) i => (wat_cell (p := ⟨g1, i, none⟩) (Array.getElem?_eq_some_iff.1 hK1).1 (by simp) z).trans ((blk_cells hK1).1 i)
              have z2 := fun (z : WK (fun _ => False) w6) i => (wat_cell (p := ⟨g2, i, none⟩) (Array.getElem?_eq_some_iff.1 hK2).1 (by simp) z).trans ((blk_cells hK2).1 i)
              refine wp_region_loud (fun _ => False) [(5, lsaL [] G), (7, plainL [5] (.bool true))] (fun _ => Fact.none) (by kernel_rfl) (by kernel_rfl)
                (.cons (lsaL_ok _ _) (.cons (plainL_ok _ _) .nil)) good_nothing sat_none (WX.out ?_)
              repeat (first | (refine wx_quietU (by rfl) (by rfl) (by rfl) (fun K hK => ?_); go_big_quiet_op; refine hK _ ?_; clear hK K) | (refine wx_quietG (by rfl) (by rfl) (by rfl) (by rfl) (by rfl) (fun K hK => ?_); go_big_quiet_op; refine hK _ ?_; clear hK K) | (refine wx_skipG (by rfl) (by rfl) (by rfl) (fun K hK => ?_); go_simp; refine hK _ ?_; clear hK K) | (refine wx_skipN (by rfl) (by rfl) (by rfl) (fun K hK => ?_); go_simp; refine hK _ ?_; clear hK K))
              refine wx_loudG (us := []) (by rfl) (by rfl) (by rfl) (by rfl) (fun S wS hC hS hU => runs_enter (f := 47) (by go_simp <;> rfl) ?_) (fun v hv K hK => ?_)
              · have hMS := hM.below hC.below
                refine (from1 G M1 k1 e1 M2 k2 e2 wS hMS (by have := LB.out hMS; omega) (by have := LB.out hMS; omega)).mono ?_
                rintro e w' ⟨B1, m1, d1, B2, m2, d2, rfl, hI, hb, hfA, hfB⟩
                exact ⟨_, rfl, ⟨_, _, _, _, _, _, rfl⟩, Kept.of_below hb, lsaF_of hI hfA hfB⟩
              obtain ⟨B1, m1, d1, B2, m2, d2, rfl⟩ := hv; (go_simp; refine hK _ ?_; clear hK K)
              repeat (first | (refine wx_quietU (by rfl) (by rfl) (by rfl) (fun K hK => ?_); go_big_quiet_op; refine hK _ ?_; clear hK K) | (refine wx_quietG (by rfl) (by rfl) (by rfl) (by rfl) (by rfl) (fun K hK => ?_); go_big_quiet_op; refine hK _ ?_; clear hK K) | (refine wx_skipG (by rfl) (by rfl) (by rfl) (fun K hK => ?_); go_simp; refine hK _ ?_; clear hK K) | (refine wx_skipN (by rfl) (by rfl) (by rfl) (fun K hK => ?_); go_simp; refine hK _ ?_; clear hK K))
              refine wx_loudG (us := [5]) (by rfl) (by rfl) (by rfl) (by rfl) (fun S wS hC hS hU => runs_enter (f := 46) (by go_simp <;> rfl) ?_) (fun v hv K hK => ?_)
              · refine (refSame_any G G B1 m1 d1 B2 m2 d2 N1 p1 f1 N2 p2 f2 wS (lsaF_out (hU 5 (by simp))) (hN.below hC.below) rfl).mono ?_
                rintro e w' ⟨rfl, hb⟩
                exact ⟨_, rfl, rfl, Kept.of_below hb, trivial⟩
              obtain rfl := hv; (go_simp; refine hK _ ?_; clear hK K)
              repeat (first | (refine wx_quietU (by rfl) (by rfl) (by rfl) (fun K hK => ?_); go_big_quiet_op; refine hK _ ?_; clear hK K) | (refine wx_quietG (by rfl) (by rfl) (by rfl) (by rfl) (by rfl) (fun K hK => ?_); go_big_quiet_op; refine hK _ ?_; clear hK K) | (refine wx_skipG (by rfl) (by rfl) (by rfl) (fun K hK => ?_); go_simp; refine hK _ ?_; clear hK K) | (refine wx_skipN (by rfl) (by rfl) (by rfl) (fun K hK => ?_); go_simp; refine hK _ ?_; clear hK K))
              refine wx_nil fun w7 hsat => ?_
              have hb7 := sat_below hsat
              replace hbA := hbA.trans (hb7.mono hbA.size)
              clear hsat z1 z2 hb7
              go_wp2_with fail
              go_light
              exact ⟨⟨1 + 1, by omega, by go_num, hbA⟩, by simp [intOf]⟩
            · rw [if_neg hn20]
              have hn20' : 20 ≤ mm := by omega
              have d20 : decide ((mm : Int) < 20) = false := by simp; omega
              clear hn20
              go_wp2_with fail
              change Code.wp _ _ _ _ (w5.alloc (.cells (hdrCells y0 y1 y2 y3 y4 y5 y6) 87))
              generalize w5.alloc (.cells (hdrCells y0 y1 y2 y3 y4 y5 y6) 87) = w6 at *
              have z1 := fun (z : WK (fun _ => False) w6) i => (wat_cell (p := ⟨g1, i, none⟩) (Array.getElem?_eq_some_iff.1 hK1).1 (by simp) z).trans ((blk_cells hK1).1 i)
              have z2 := fun (z : WK (fun _ => False) w6) i => (wat_cell (p := ⟨g2, i, none⟩) (Array.getElem?_eq_some_iff.1 hK2).1 (by simp) z).trans ((blk_cells hK2).1 i)
              refine wp_region_loud (fun _ => False) [(5, lsaL [] G), (7, plainL [5] (.bool true))] (fun _ => Fact.none) (by kernel_rfl) (by kernel_rfl)
                (.cons (lsaL_ok _ _) (.cons (plainL_ok _ _) .nil)) good_nothing sat_none (WX.out ?_)
              repeat (first | (refine wx_quietU (by rfl) (by rfl) (by rfl) (fun K hK => ?_); go_big_quiet_op; refine hK _ ?_; clear hK K) | (refine wx_quietG (by rfl) (by rfl) (by rfl) (by rfl) (by rfl) (fun K hK => ?_); go_big_quiet_op; refine hK _ ?_; clear hK K) | (refine wx_skipG (by rfl) (by rfl) (by rfl) (fun K hK => ?_); go_simp; refine hK _ ?_; clear hK K) | (refine wx_skipN (by rfl) (by rfl) (by rfl) (fun K hK => ?_); go_simp; refine hK _ ?_; clear hK K))
              refine wx_loudG (us := []) (by rfl) (by rfl) (by rfl) (by rfl) (fun S wS hC hS hU => runs_enter (f := 47) (by go_simp <;> rfl) ?_) (fun v hv K hK => ?_)
              · have hMS := hM.below hC.below
                refine (from1 G M1 k1 e1 M2 k2 e2 wS hMS (by have := LB.out hMS; omega) (by have := LB.out hMS; omega)).mono ?_
                rintro e w' ⟨B1, m1, d1, B2, m2, d2, rfl, hI, hb, hfA, hfB⟩
                exact ⟨_, rfl, ⟨_, _, _, _, _, _, rfl⟩, Kept.of_below hb, lsaF_of hI hfA hfB⟩
              obtain ⟨B1, m1, d1, B2, m2, d2, rfl⟩ := hv; (go_simp; refine hK _ ?_; clear hK K)
              repeat (first | (refine wx_quietU (by rfl) (by rfl) (by rfl) (fun K hK => ?_); go_big_quiet_op; refine hK _ ?_; clear hK K) | (refine wx_quietG (by rfl) (by rfl) (by rfl) (by rfl) (by rfl) (fun K hK => ?_); go_big_quiet_op; refine hK _ ?_; clear hK K) | (refine wx_skipG (by rfl) (by rfl) (by rfl) (fun K hK => ?_); go_simp; refine hK _ ?_; clear hK K) | (refine wx_skipN (by rfl) (by rfl) (by rfl) (fun K hK => ?_); go_simp; refine hK _ ?_; clear hK K))
              refine wx_loudG (us := [5]) (by rfl) (by rfl) (by rfl) (by rfl) (fun S wS hC hS hU => runs_enter (f := 46) (by go_simp <;> rfl) ?_) (fun v hv K hK => ?_)
              · refine (refSame_any G G B1 m1 d1 B2 m2 d2 N1 p1 f1 N2 p2 f2 wS (lsaF_out (hU 5 (by simp))) (hN.below hC.below) rfl).mono ?_
                rintro e w' ⟨rfl, hb⟩
                exact ⟨_, rfl, rfl, Kept.of_below hb, trivial⟩
              obtain rfl := hv; (go_simp; refine hK _ ?_; clear hK K)
              repeat (first | (refine wx_quietU (by rfl) (by rfl) (by rfl) (fun K hK => ?_); go_big_quiet_op; refine hK _ ?_; clear hK K) | (refine wx_quietG (by rfl) (by rfl) (by rfl) (by rfl) (by rfl) (fun K hK => ?_); go_big_quiet_op; refine hK _ ?_; clear hK K) | (refine wx_skipG (by rfl) (by rfl) (by rfl) (fun K hK => ?_); go_simp; refine hK _ ?_; clear hK K) | (refine wx_skipN (by rfl) (by rfl) (by rfl) (fun K hK => ?_); go_simp; refine hK _ ?_; clear hK K))
              refine wx_nil fun w7 hsat => ?_
              have hb7 := sat_below hsat
              replace hbA := hbA.trans (hb7.mono hbA.size)
              clear hsat z1 z2 hb7
              go_wp2_with fail
              go_light
              exact ⟨⟨1 + 1, by omega, by go_num, hbA⟩, by simp [intOf]⟩
          · obtain rfl : j = 2 := by omega
            clear hj0 hj1
            go_wp2_with fail
            refine (puts_any wr).mono ?_
            rintro e w1 ⟨rfl, hb1⟩
            have hbz := hbx.trans ((hbr.trans (hb1.mono hbr.size)).mono hbx.size)
            go_wp2_with fail
            go_ret
            exact ⟨rfl, hbz⟩
end Go.Proofs.Ytaajhkdifliblaa
