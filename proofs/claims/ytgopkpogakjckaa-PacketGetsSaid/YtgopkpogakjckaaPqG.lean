/-
  The walk of the law PacketGets.
-/
import Derived.Test.YtgopkpogakjckaaPkW
import Derived.Test.YtgopkpogakjckaaPzC
import Derived.Test.YtgopkpogakjckaaPkX
namespace Go.Proofs.Ytgopkpogakjckaa
set_option linter.unusedVariables false
set_option linter.unusedSimpArgs false
open Go Go.RowKit SM LM PK

theorem ofNat_256 (n : Int) (h : 0 ≤ n ∧ n < 256) : ((UInt8.ofNat n.toNat).toNat : Int) = n := by
  rw [UInt8.toNat_ofNat', Nat.mod_eq_of_lt (by omega)]; omega
theorem bits_u8_bd (op : BinOp) (x y : Int) : 0 ≤ bits op .u8 x y ∧ bits op .u8 x y < 256 := by
  unfold bits
  dsimp only
  rw [IntKind.wrap_u8]
  omega
/-- a row of bytes, whichever -/
def AnyOwn (base n : Nat) (v : Value) : Fact := fun S w => ∃ l, OwnF base 5 1 n (B8 l) v S w
theorem good_any (base n : Nat) (v : Value) : Good (AnyOwn base n v) := fun S S' w w' h1 h2 ⟨l, h⟩ => ⟨l, good_own _ _ _ _ _ _ S S' w w' h1 h2 h⟩
theorem fix_call {w : World} {g n nb cb base : Nat} {l : List UInt8} (hown : w.ownsRow base 5 1 (.slice (some ⟨g, 0, none⟩) nb cb) nb (B8 l)) (hb : base ≤ g) (hbw : base ≤ w.heap.size) (h24 : 24 ≤ n) (hn : n ≤ nb) (hnb : nb ≤ 100000) (v2 v3 : Int) (h2 : 0 ≤ v2 ∧ v2 < 256) (h3 : 0 ≤ v3 ∧ v3 < 256) :
    Calls Try.prog 16 #[.slice (some ⟨g, 0, none⟩) n cb] ((w.setCell ⟨g, 2, none⟩ (.int .u8 v2)).setCell ⟨g, 3, none⟩ (.int .u8 v3)) fun e w' => ∃ A c l', e = .returned (.slice A n c) ∧ Sl w' 1 (.slice A n c) (B8 l') ∧ Below base w w' := by
  have hst := ((hown.stored 2 (.int .u8 v2)).1.stored 3 (.int .u8 v3)).1
  rw [← ofNat_256 v2 h2, ← ofNat_256 v3 h3, B8_set, B8_set] at hst
  rw [ofNat_256 v2 h2, ofNat_256 v3 h3] at hst
  have hbb := ((Below.refl base w).setCell (p := ⟨g, 2, none⟩) hb (.int .u8 v2)).setCell (p := ⟨g, 3, none⟩) hb (.int .u8 v3)
  refine (refFix_any _ n cb _ _ ((own_sl hst).take n hn) h24 (by omega)).mono ?_
  rintro e w' ⟨A, c, rfl, ho, hb'⟩
  exact ⟨A, c, _, rfl, own_sl ho, hbb.trans (hb'.mono (Nat.le_trans hbw hbb.size))⟩
set_option maxRecDepth 100000 in
set_option maxHeartbeats 8000000 in
theorem packetGets_walk (P : Pkt) (p1 : Option Addr) (pn1 pc1 : Nat) (p2 : Option Addr) (pn2 pc2 : Nat) (p3 : Option Addr) (pn3 pc3 : Nat) (p4 : Option Addr) (pn4 pc4 : Nat) (pR : List LsR) (b0 b1 : Int) (fix : Bool) (w : World) (h : IsPk w P p1 pn1 pc1 p2 pn2 pc2 p3 pn3 pc3 p4 pn4 pc4 pR)
    (hwf : WfP P) (hsa : P.auth.size ≤ 9223372036854775807) :
    Calls Try.prog 4 #[.agg (pkC P p1 pn1 pc1 p2 pn2 pc2 p3 pn3 pc3 p4 pn4 pc4), .agg #[.int .i64 b0, .int .i64 b1], .bool fix] w fun e w' => e = .returned (.bool true) ∧ Below w.heap.size w w' := by
  have hbA := ((Below.refl w.heap.size w).alloc (Nat.le_refl _) (.cells (pkC P p1 pn1 pc1 p2 pn2 pc2 p3 pn3 pc3 p4 pn4 pc4) 30)).alloc (by simp) (.cells #[.int .i64 b0, .int .i64 b1] 52)
  have h0 := h.below hbA
  have hg0 := blk_alloc (heap_alloc_new w (.cells (pkC P p1 pn1 pc1 p2 pn2 pc2 p3 pn3 pc3 p4 pn4 pc4) 30)) (.cells #[.int .i64 b0, .int .i64 b1] 52)
  have ha0 := heap_alloc_new' (w.alloc (.cells (pkC P p1 pn1 pc1 p2 pn2 pc2 p3 pn3 pc3 p4 pn4 pc4) 30)) (.cells #[.int .i64 b0, .int .i64 b1] 52) (w.heap.size + 1) (by simp)
  have hw0 : ((w.alloc (.cells (pkC P p1 pn1 pc1 p2 pn2 pc2 p3 pn3 pc3 p4 pn4 pc4) 30)).alloc (.cells #[.int .i64 b0, .int .i64 b1] 52)).heap.size = w.heap.size + 2 := by simp
  have HWF := hid hwf
  clear h hwf
  go_enter Try.func4, Try.ntmps4
  go_upto_region 1 with fail
  generalize (w.alloc (.cells (pkC P p1 pn1 pc1 p2 pn2 pc2 p3 pn3 pc3 p4 pn4 pc4) 30)).alloc (.cells #[.int .i64 b0, .int .i64 b1] 52) = w0 at *
  go_wp2_with (refine wpList_load_row rfl 30 (.tmp 3) rfl w.heap.size rfl 30 (pkC P p1 pn1 pc1 p2 pn2 pc2 p3 pn3 pc3 p4 pn4 pc4) (0, 0) _ hg0 Try.underlying30 rfl (by kernel_rfl) ?_)
  cases hR : rightR P
  · have HNR := hid (rPut_no P p1 pn1 pc1 p2 pn2 pc2 p3 pn3 pc3 p4 pn4 pc4 pR w0 h0 hR hsa)
    clear hR
    as_aux_lemma =>
      refine HNR.out.mono ?_
      rintro e w1 ⟨rfl, hb1⟩
      have hbw1 := hbA.trans (hb1.mono (by omega))
      clear hg0 ha0 hbA hb1 HNR
      go_wp2_with fail
      refine (puts11_any w1).mono ?_
      rintro e w2 ⟨rfl, hb2⟩
      have hbw2 := hbw1.trans (hb2.mono hbw1.size)
      clear hbw1 hb2
      go_wp2_with fail
      refine (puts11_any w2).mono ?_
      rintro e w3 ⟨rfl, hb3⟩
      have hbw3 := hbw2.trans (hb3.mono hbw2.size)
      go_wp2_with fail
      go_ret
      exact ⟨rfl, hbw3⟩
  · have HPR := hid (rPut_yes P p1 pn1 pc1 p2 pn2 pc2 p3 pn3 pc3 p4 pn4 pc4 pR w0 h0 HWF.out hR)
    have hlen : 24 ≤ (putP P).length ∧ (putP P).length ≤ 20024 := by have := putP_length P; have := bodyB_length P (rightR_spec P hR); omega
    have HLN := hid hlen
    clear hR hlen
    generalize putP P = l0 at *
    as_aux_lemma =>
      refine HPR.out.mono ?_
      rintro e w1 ⟨A, cb, nb, rfl, hown1, hb1⟩
      replace hown1 := own_base hown1 (base' := w.heap.size + 2) (by omega)
      have hg1 := blk_below hg0 hb1 (blk_lt hg0)
      have ha1 := blk_below ha0 hb1 (blk_lt ha0)
      have hbw1 := hbA.trans (hb1.mono (by omega))
      have hw1 : w.heap.size + 2 ≤ w1.heap.size := by have := hb1.size; omega
      clear hg0 ha0 hbA hb1 HPR
      go_wp2_with fail
      refine (puts11_any w1).mono ?_
      rintro e w2 ⟨rfl, hb2⟩
      have hown2 := own_below hown1 hb2
      have hg2 := blk_below hg1 hb2 (blk_lt hg1)
      have ha2 := blk_below ha1 hb2 (blk_lt ha1)
      have hbw2 := hbw1.trans (hb2.mono hbw1.size)
      have hw2 : w.heap.size + 2 ≤ w2.heap.size := by have := hb2.size; omega
      have hnb : 24 ≤ nb ∧ nb ≤ 20024 := by have := (own_sl hown2).len.1; have := HLN.out; omega
      clear hown1 hg1 ha1 hbw1 hb2 HLN h0
      obtain ⟨gB, rfl, hgB, hgB2⟩ := own_some hown2 (by omega)
      obtain ⟨hcb, _⟩ := blk_cells ha2
      have q0 := hcb 0
      have q1 := hcb 1
      simp at q0 q1
      have hcap := (own_sl hown2).len.2
      have en2 : IntKind.u64.wrap (nb : Int) = nb := by rw [IntKind.wrap_u64]; omega
      obtain ⟨k, hk, ek⟩ : ∃ k : Nat, k < nb ∧ wrap64 ((IntKind.u64.wrap b0).tmod (nb : Int)) = (k : Int) := by
        have h1 := Int.emod_nonneg (IntKind.u64.wrap b0) (show (nb : Int) ≠ 0 by omega)
        have h2 := Int.emod_lt_of_pos (IntKind.u64.wrap b0) (show 0 < (nb : Int) by omega)
        refine ⟨((IntKind.u64.wrap b0) % nb).toNat, by omega, ?_⟩
        rw [Int.tmod_eq_emod_of_nonneg (by rw [IntKind.wrap_u64]; omega)]
        unfold wrap64
        omega
      clear hcb
      go_upto_if 37 with fail
      rw [ek]
      clear ek en2
      go_cut [7] (fun s wx => ∃ (n : Nat) (l : List UInt8), s = .slice (some ⟨gB, 0, none⟩) n cb ∧ n ≤ nb ∧ wx.ownsRow (w.heap.size + 2) 5 1 (.slice (some ⟨gB, 0, none⟩) nb cb) nb (B8 l) ∧ wx.heap[w.heap.size]? = some (.cells (pkC P p1 pn1 pc1 p2 pn2 pc2 p3 pn3 pc3 p4 pn4 pc4) 30 (0, 0)) ∧ Below w.heap.size w wx)
      case first =>
        as_aux_lemma =>
          go_wp2_with fail
          · go_meet
            all_goals go_light
            exact ⟨k, l0, rfl, by omega, hown2, hg2, hbw2⟩
          · have hblt := (Array.getElem?_eq_some_iff.1 ha2).1
            have zb := fun z : WK (fun b => Value.ownBlock (.slice (some ⟨gB, 0, none⟩) nb cb) = some b) w2 => (wat_cell (p := ⟨w.heap.size + 1, 1, none⟩) hblt (by simp [Value.ownBlock]; omega) z).trans q1
            have hklb : k < l0.length := by rw [(own_sl hown2).len.1]; exact hk
            refine wp_region_loud (fun b => Value.ownBlock (.slice (some ⟨gB, 0, none⟩) nb cb) = some b)
              [(3, loadL [100] (.int .u8 (byt l0 k : Int)) (OwnF (w.heap.size + 2) 5 1 nb (B8 l0) (.slice (some ⟨gB, 0, none⟩) nb cb))), (9, keepL [3] (AnyOwn (w.heap.size + 2) nb (.slice (some ⟨gB, 0, none⟩) nb cb)))]
              (labelled 100 (OwnF (w.heap.size + 2) 5 1 nb (B8 l0) (.slice (some ⟨gB, 0, none⟩) nb cb))) (by kernel_rfl) (by kernel_rfl)
              (.cons (loadL_ok _ _ (good_own _ _ _ _ _ _)) (.cons (keepL_ok _ (good_any _ _ _)) .nil)) (good_one 100 (good_own _ _ _ _ _ _)) (sat_one 100 _ (ownF_lt hown2) (ownF_in hown2)) (WX.out ?_)
            repeat (first | ((first | refine wx_quietU (by rfl) (by rfl) (by rfl) (fun K hK => ?_) | refine wx_quietG (by rfl) (by rfl) (by rfl) (by rfl) (by rfl) (fun K hK => ?_)); go_big_quiet_op; refine hK _ ?_; clear hK K) | ((first | refine wx_skipG (by rfl) (by rfl) (by rfl) (fun K hK => ?_) | refine wx_skipN (by rfl) (by rfl) (by rfl) (fun K hK => ?_)); go_simp; refine hK _ ?_; clear hK K))
            refine wx_loudU (us := [100]) (by rfl) (by rfl) (fun S wS hC hS hU => ?_) (fun v hv K hK => ?_)
            · have k100 : OwnF (w.heap.size + 2) 5 1 nb (B8 l0) (.slice (some ⟨gB, 0, none⟩) nb cb) S wS := hU 100 (by simp)
              obtain ⟨p0, p1⟩ := own_byte k100.2 k hk
              exact load_x (by go_simp <;> rfl) (good_own _ _ _ _ _ _) k100
            obtain rfl := hv; (go_simp; refine hK _ ?_; clear hK K)
            repeat (first | ((first | refine wx_quietU (by rfl) (by rfl) (by rfl) (fun K hK => ?_) | refine wx_quietG (by rfl) (by rfl) (by rfl) (by rfl) (by rfl) (fun K hK => ?_)); go_big_quiet_op; refine hK _ ?_; clear hK K) | ((first | refine wx_skipG (by rfl) (by rfl) (by rfl) (fun K hK => ?_) | refine wx_skipN (by rfl) (by rfl) (by rfl) (fun K hK => ?_)); go_simp; refine hK _ ?_; clear hK K))
            refine wx_loudU (us := [3]) (by rfl) (by rfl) (fun S wS hC hS hU => ?_) (fun v hv K hK => ?_)
            · have k3 : OwnF (w.heap.size + 2) 5 1 nb (B8 l0) (.slice (some ⟨gB, 0, none⟩) nb cb) S wS := hU 3 (by simp)
              obtain ⟨p0, p1⟩ := own_byte k3.2 k hk
              refine runs_skip (by go_simp <;> rfl) ⟨trivial, ?_, ?_⟩
              · exact (Kept.refl S wS).setCell (p := ⟨gB, k, none⟩) (.inl (k3.1 gB rfl)) _
              · have hst := (k3.2.stored k (.int .u8 (bits BinOp.xor IntKind.u8 (byt l0 k : Int) (b1 % 256)))).1
                rw [← ofNat_256 _ (bits_u8_bd BinOp.xor (byt l0 k : Int) (b1 % 256)), B8_set] at hst
                rw [ofNat_256 _ (bits_u8_bd BinOp.xor (byt l0 k : Int) (b1 % 256))] at hst
                exact (⟨l0.set k (UInt8.ofNat (bits BinOp.xor IntKind.u8 (byt l0 k : Int) (b1 % 256)).toNat), fun g hg => Or.inl (k3.1 g hg), hst⟩ : AnyOwn (w.heap.size + 2) nb (.slice (some ⟨gB, 0, none⟩) nb cb) (fun b => S b ∨ (wS.heap.size ≤ b ∧ b < (wS.setCell ⟨gB, k, none⟩ (.int .u8 (bits BinOp.xor IntKind.u8 (byt l0 k : Int) (b1 % 256)))).heap.size)) _)
            (go_simp; refine hK _ ?_; clear hK K)
            refine wx_nil fun wd hsat => ?_
            obtain ⟨hkd, own, hdis, hin, hfact⟩ := hsat
            obtain ⟨lz, hz9⟩ := (hfact 9 : AnyOwn (w.heap.size + 2) nb (.slice (some ⟨gB, 0, none⟩) nb cb) (own 9) wd)
            have hbd := hbw2.trans (hkd.below_of hbw2.size (fun b hb => by simp [Value.ownBlock] at hb; omega))
            have hgd := blk_kept hg2 hkd (by simp [Value.ownBlock]; omega)
            clear hkd hdis hin hfact
            go_wp2_with fail
            go_meet
            all_goals go_light
            exact ⟨nb, lz, rfl, Nat.le_refl _, hz9.2, hgd, hbd⟩
      case rest =>
        obtain ⟨n, l, rfl, hn, hown, hg, hbw⟩ := hcut
        clear q0 q1 hown2 hg2 ha2 hbw2 hw2 hgB2
        have hwcs := (hown.lt gB rfl).2
        obtain ⟨wa, rfl⟩ : ∃ wa : World, wa = wc := ⟨_, rfl⟩
        go_upto_region 8 with fail
        go_cut [55] (fun v wx => wx = wa ∧ v = .bool (fix && decide ((24 : Int) ≤ (n : Int))))
        case first =>
          cases fix
          · as_aux_lemma =>
              go_wp2_with fail
              go_meet
              all_goals go_light
              all_goals exact ⟨rfl, rfl⟩
          · as_aux_lemma =>
              go_wp2_with fail
              go_meet
              all_goals go_light
              all_goals exact ⟨rfl, rfl⟩
        case rest =>
        obtain ⟨rfl, rfl⟩ := hcut
        obtain ⟨wa, rfl⟩ : ∃ wa : World, wa = wc := ⟨_, rfl⟩
        have HBB : Hid ((fix && decide ((24 : Int) ≤ (n : Int))) = true → 24 ≤ n) := by show _ → _; intro hh; simp at hh; omega
        generalize (fix && decide ((24 : Int) ≤ (n : Int))) = bb at *
        go_upto_if 55 with fail
        go_cut [7] (fun s wx => ∃ (A : Option Addr) (n c : Nat) (l : List UInt8), s = .slice A n c ∧ Sl wx 1 (.slice A n c) (B8 l) ∧ n ≤ 100000 ∧ wx.heap[w.heap.size]? = some (.cells (pkC P p1 pn1 pc1 p2 pn2 pc2 p3 pn3 pc3 p4 pn4 pc4) 30 (0, 0)) ∧ Below w.heap.size w wx)
        case first =>
          cases bb
          · as_aux_lemma =>
              go_wp2_with fail
              go_meet
              all_goals go_light
              exact ⟨_, n, cb, l.take n, rfl, (own_sl hown).take n hn, by omega, hg, hbw⟩
          have h24 := HBB.out rfl
          obtain ⟨r0, r1⟩ := own_byte hown 2 (by omega)
          obtain ⟨r2, r3⟩ := own_byte hown 3 (by omega)
          as_aux_lemma =>
            go_wp2_with fail
            refine (fix_call hown hgB (by omega) h24 hn (by omega) _ _ ?_ ?_).mono ?_
            · first | (rw [IntKind.wrap_u8]; omega) | omega
            · first | (rw [IntKind.wrap_u8]; omega) | omega
            rintro e wf ⟨Af, cf, lf, rfl, hlf, hbf⟩
            have hgf := blk_below hg hbf (by omega)
            have hbwf := hbw.trans (hbf.mono (by omega))
            clear r0 r1 r2 r3 hown hg hbw hbf
            go_wp2_with fail
            go_meet
            all_goals go_light
            exact ⟨Af, n, cf, lf, rfl, hlf, by omega, hgf, hbwf⟩
        case rest =>
          obtain ⟨A, n, c, l, rfl, hl2, hn, hg2, hbw2⟩ := hcut
          clear hown hg hbw hwcs
          have hwg : w.heap.size < wc.heap.size := blk_lt hg2
          go_upto_region 11 with fail
          have c3 : wc.cell? ⟨w.heap.size, 3, none⟩ = some (.string P.auth) := (blk_cells hg2).1 3
          go_wp2_with fail
          refine (pget_any _ _ _ l P.auth wc (by exact hl2) (by omega)).mono ?_
          rintro e w5 ⟨a1, an1, ac1, a2, an2, ac2, a3, an3, ac3, a4, an4, ac4, aR, rfl, hPa, hba⟩
          have hsm := get_small l P.auth hPa
          have HSM := hid hsm
          have hl5 := hl2.below hba
          have hg5 := blk_below hg2 hba (blk_lt hg2)
          have hbw5 := hbw2.trans (hba.mono hbw2.size)
          clear hsm hba hl2 hg2 hbw2 c3
          have hRG := fun w' h' => rget_any A n c l P.auth w' h' (by omega) hsa
          unfold GetPPost at hRG
          generalize getP l P.auth = Q at *
          generalize getPE l P.auth = pe at *
          have HRG := hid hRG
          clear hRG
          go_upto_region 12 with fail
          have hbA := (Below.refl w5.heap.size w5).alloc (Nat.le_refl _) (.cells (pkC Q a1 an1 ac1 a2 an2 ac2 a3 an3 ac3 a4 an4 ac4) 40)
          have hPa6 := hPa.below hbA
          have hl6 := hl5.below hbA
          have hg6 := blk_below hg5 hbA (blk_lt hg5)
          have hbw6 := hbw5.trans (hbA.mono hbw5.size)
          have hq6 := heap_alloc_new w5 (.cells (pkC Q a1 an1 ac1 a2 an2 ac2 a3 an3 ac3 a4 an4 ac4) 40)
          clear hbA hPa hl5 hg5 hbw5
          generalize w5.alloc (.cells (pkC Q a1 an1 ac1 a2 an2 ac2 a3 an3 ac3 a4 an4 ac4) 40) = w6 at *
          have c3 : w6.cell? ⟨w.heap.size, 3, none⟩ = some (.string P.auth) := (blk_cells hg6).1 3
          go_wp2_with fail
          refine (HRG.out w6 hl6).mono ?_
          rintro e w7 ⟨b1, bn1, bc1, b2, bn2, bc2, b3, bn3, bc3, b4, bn4, bc4, bR, rfl, hPb, hbb⟩
          have hPa7 := hPa6.below hbb
          have hq7 := blk_below hq6 hbb (blk_lt hq6)
          have hbw7 := hbw6.trans (hbb.mono hbw6.size)
          clear hbb hPa6 hl6 hg6 hq6 hbw6 HRG c3
          go_upto_region 13 with fail
          have hbA := (Below.refl w7.heap.size w7).alloc (Nat.le_refl _) (.cells (pkC Q b1 bn1 bc1 b2 bn2 bc2 b3 bn3 bc3 b4 bn4 bc4) 30)
          have hPA := hPa7.below hbA
          have hPB := hPb.below hbA
          have hbw8 := hbw7.trans (hbA.mono hbw7.size)
          have hq8 := blk_alloc hq7 (.cells (pkC Q b1 bn1 bc1 b2 bn2 bc2 b3 bn3 bc3 b4 bn4 bc4) 30)
          have hy8 := heap_alloc_new w7 (.cells (pkC Q b1 bn1 bc1 b2 bn2 bc2 b3 bn3 bc3 b4 bn4 bc4) 30)
          clear hbA hPa7 hPb hbw7 hq7
          generalize w7.alloc (.cells (pkC Q b1 bn1 bc1 b2 bn2 bc2 b3 bn3 bc3 b4 bn4 bc4) 30) = w8 at *
          have qt : ((pe : Int) == pe) = true := by simp
          refine wp_region_loud (fun _ => False) [
            (4, plainL [] (.agg (pkC Q a1 an1 ac1 a2 an2 ac2 a3 an3 ac3 a4 an4 ac4))), (5, pkL [] Q), (6, plainL [] (.agg (pkC Q b1 bn1 bc1 b2 bn2 bc2 b3 bn3 bc3 b4 bn4 bc4))), (7, plainL [5] (.bool true))
            ] (fun _ => Fact.none) (by kernel_rfl) (by kernel_rfl) (.cons (plainL_ok _ _) (.cons (pkL_ok _ _) (.cons (plainL_ok _ _) (.cons (plainL_ok _ _) .nil)))) good_nothing sat_none (WX.out ?_)
          repeat (first | ((first | refine wx_quietU (by rfl) (by rfl) (by rfl) (fun K hK => ?_) | refine wx_quietG (by rfl) (by rfl) (by rfl) (by rfl) (by rfl) (fun K hK => ?_)); go_big_quiet_op; refine hK _ ?_; clear hK K) | ((first | refine wx_skipG (by rfl) (by rfl) (by rfl) (fun K hK => ?_) | refine wx_skipN (by rfl) (by rfl) (by rfl) (fun K hK => ?_)); go_simp; refine hK _ ?_; clear hK K))
          refine wx_loudG (us := []) (by rfl) (by rfl) (by rfl) (by rfl) (fun S wS hC hS hU => ?_) (fun v hv K hK => ?_)
          · exact runs_load_whole 40 (.tmp 10) rfl _ rfl 40 _ (0, 0) _ (blk_kept hq8 hC (by simp)) Try.underlying40 rfl (by kernel_rfl) ⟨rfl, Kept.refl _ _, trivial⟩
          obtain rfl := hv; (go_simp; refine hK _ ?_; clear hK K)
          repeat (first | ((first | refine wx_quietU (by rfl) (by rfl) (by rfl) (fun K hK => ?_) | refine wx_quietG (by rfl) (by rfl) (by rfl) (by rfl) (by rfl) (fun K hK => ?_)); go_big_quiet_op; refine hK _ ?_; clear hK K) | ((first | refine wx_skipG (by rfl) (by rfl) (by rfl) (fun K hK => ?_) | refine wx_skipN (by rfl) (by rfl) (by rfl) (fun K hK => ?_)); go_simp; refine hK _ ?_; clear hK K))
          refine wx_loudG (us := []) (by rfl) (by rfl) (by rfl) (by rfl) (fun S wS hC hS hU => runs_enter (f := 15) (by go_simp <;> rfl) ?_) (fun v hv K hK => ?_)
          · obtain ⟨k1, k2, k3, k4, k5⟩ := HSM.out
            refine (from_pk Q a1 an1 ac1 a2 an2 ac2 a3 an3 ac3 a4 an4 ac4 aR wS (IsPk.below hPA hC.below) k1 k2 k3 k4 k5).mono ?_
            rintro e w' ⟨B1, m1, d1, B2, m2, d2, B3, m3, d3, B4, m4, d4, R, rfl, hi, hb, hf⟩
            exact ⟨_, rfl, ⟨_, _, _, _, _, _, _, _, _, _, _, _, rfl⟩, Kept.of_below hb, pkF_of hi hf⟩
          obtain ⟨B1, m1, d1, B2, m2, d2, B3, m3, d3, B4, m4, d4, rfl⟩ := hv; (go_simp; refine hK _ ?_; clear hK K)
          repeat (first | ((first | refine wx_quietU (by rfl) (by rfl) (by rfl) (fun K hK => ?_) | refine wx_quietG (by rfl) (by rfl) (by rfl) (by rfl) (by rfl) (fun K hK => ?_)); go_big_quiet_op; refine hK _ ?_; clear hK K) | ((first | refine wx_skipG (by rfl) (by rfl) (by rfl) (fun K hK => ?_) | refine wx_skipN (by rfl) (by rfl) (by rfl) (fun K hK => ?_)); go_simp; refine hK _ ?_; clear hK K))
          refine wx_loudG (us := []) (by rfl) (by rfl) (by rfl) (by rfl) (fun S wS hC hS hU => ?_) (fun v hv K hK => ?_)
          · exact runs_load_whole 30 (.tmp 12) rfl _ rfl 30 _ (0, 0) _ (blk_kept hy8 hC (by simp)) Try.underlying30 rfl (by kernel_rfl) ⟨rfl, Kept.refl _ _, trivial⟩
          obtain rfl := hv; (go_simp; refine hK _ ?_; clear hK K)
          repeat (first | ((first | refine wx_quietU (by rfl) (by rfl) (by rfl) (fun K hK => ?_) | refine wx_quietG (by rfl) (by rfl) (by rfl) (by rfl) (by rfl) (fun K hK => ?_)); go_big_quiet_op; refine hK _ ?_; clear hK K) | ((first | refine wx_skipG (by rfl) (by rfl) (by rfl) (fun K hK => ?_) | refine wx_skipN (by rfl) (by rfl) (by rfl) (fun K hK => ?_)); go_simp; refine hK _ ?_; clear hK K))
          refine wx_loudG (us := [5]) (by rfl) (by rfl) (by rfl) (by rfl) (fun S wS hC hS hU => runs_enter (f := 14) (by go_simp <;> rfl) ?_) (fun v hv K hK => ?_)
          · obtain ⟨RS, hRS⟩ := pkF_out (hU 5 (by simp))
            refine (refSame_pk Q B1 m1 d1 B2 m2 d2 B3 m3 d3 B4 m4 d4 RS b1 bn1 bc1 b2 bn2 bc2 b3 bn3 bc3 b4 bn4 bc4 bR wS hRS (IsPk.below hPB hC.below)).mono ?_
            rintro e w' ⟨rfl, hb⟩
            exact ⟨_, rfl, rfl, Kept.of_below hb, trivial⟩
          obtain rfl := hv; (go_simp; refine hK _ ?_; clear hK K)
          repeat (first | ((first | refine wx_quietU (by rfl) (by rfl) (by rfl) (fun K hK => ?_) | refine wx_quietG (by rfl) (by rfl) (by rfl) (by rfl) (by rfl) (fun K hK => ?_)); go_big_quiet_op; refine hK _ ?_; clear hK K) | ((first | refine wx_skipG (by rfl) (by rfl) (by rfl) (fun K hK => ?_) | refine wx_skipN (by rfl) (by rfl) (by rfl) (fun K hK => ?_)); go_simp; refine hK _ ?_; clear hK K))
          refine wx_nil fun w9 hsat => ?_
          have hb9 := sat_below hsat
          have hbw9 := hbw8.trans (hb9.mono hbw8.size)
          clear hsat
          go_wp2_with fail
          go_ret
          exact ⟨rfl, hbw9⟩
end Go.Proofs.Ytgopkpogakjckaa
