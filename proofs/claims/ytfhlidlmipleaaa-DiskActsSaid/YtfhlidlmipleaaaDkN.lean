/-
  The walk of DiskActs: its rounds.
-/
import Derived.Test.YtfhlidlmipleaaaDkL
namespace Go.Proofs.Ytfhlidlmipleaaa
set_option linter.unusedVariables false
set_option linter.unusedSimpArgs false
open Go Go.RowKit

theorem sl_keptN {S : Nat → Prop} {w w' : World} {size n c : Nat} {A : Option Addr} {xs : List Value} (h : Sl w size (.slice A n c) xs) (hk : Kept S w w') (hs : 0 < n → ∀ ad, A = some ad → ¬ S ad.block) : Sl w' size (.slice A n c) xs := by
  by_cases h0 : 0 < n
  · exact sl_kept h hk (hs h0)
  · obtain ⟨A', n', c', he, hl, hnc, hcm, hr⟩ := h
    injection he with e1 e2 e3
    subst e1; subst e2; subst e3
    exact ⟨_, _, _, rfl, hl, hnc, hcm, fun hn => absurd hn h0⟩
theorem acC_one (x : Ac) : (acC x).toArray.all (·.oneCell') = true := all_oneCell_toArray (by
  intro u hu
  simp [acC] at hu
  rcases hu with rfl | rfl | rfl | rfl | rfl <;> rfl)
theorem acA_one (x : Ac) : (#[.int .i64 x.what, .int .i64 x.i, .int .u8 (x.b.toNat : Int), .int .i64 x.size, .slice x.K x.nk x.ck] : Array Value).all (·.oneCell') = true := acC_one x
theorem ac_info (x : Ac) : (Try.prog.info? 41).map (·.size) = some (acC x).toArray.size := by
  show _ = some 5
  kernel_rfl
set_option maxRecDepth 100000 in
set_option maxHeartbeats 60000000 in
theorem diskActs_walk (size : Int) (A : Option Addr) (n c : Nat) (l : List Ac) (w : World) (hS : Sl w 5 (.slice A n c) (AC l)) (hok : ∀ y ∈ l, y.ok w) (hsz : -9223372036854775808 ≤ size ∧ size ≤ 9223372036854775807) :
    Calls Try.prog 3 #[.int .i64 size, .slice A n c] w fun e w' => e = .returned (.bool true) ∧ Below w.heap.size w w' := by
  have hn9 : n ≤ c ∧ c ≤ 9223372036854775807 ∧ l.length = n := by
    obtain ⟨A', n', c', he, h1, h2, h3, _⟩ := hS
    injection he with h4 h5 h6
    subst h4; subst h5; subst h6
    rw [AC_length] at h1
    exact ⟨h2, by simpa [maxLen] using h3, by omega⟩
  go_enter Try.func3, Try.ntmps3
  go_wp2_with fail
  refine (none_any _).mono ?_
  rintro e w1 ⟨rfl, rfl⟩
  go_wp2_with fail
  refine (nilArm _ _).mono ?_
  rintro e w2 ⟨rfl, rfl⟩
  go_wp2_with fail
  refine (none_any _).mono ?_
  rintro e w3 ⟨rfl, rfl⟩
  go_wp2_with fail
  refine (nilCrash _ _ _ _).mono ?_
  rintro e w4 ⟨rfl, rfl⟩
  go_wp2_with fail
  refine (none_any _).mono ?_
  rintro e w5 ⟨rfl, rfl⟩
  go_wp2_with fail
  refine (nilRead _ _).mono ?_
  rintro e w6 ⟨rfl, rfl⟩
  go_wp2_with fail
  refine (waitsLaw_any _).mono ?_
  rintro e w7 ⟨rfl, hb7⟩
  go_wp2_with fail
  refine (none_any _).mono ?_
  rintro e w8 ⟨rfl, rfl⟩
  go_wp2_with fail
  refine (nilWrite _ _ _ _ _).mono ?_
  rintro e w9 ⟨rfl, rfl⟩
  go_wp2_with fail
  refine (none_any _).mono ?_
  rintro e w10 ⟨rfl, rfl⟩
  go_wp2_with fail
  refine (nilFlush _).mono ?_
  rintro e w11 ⟨rfl, rfl⟩
  go_wp2_with fail
  refine (none_any _).mono ?_
  rintro e w12 ⟨rfl, rfl⟩
  go_wp2_with fail
  refine (nilOn _).mono ?_
  rintro e w13 ⟨rfl, rfl⟩
  go_wp2_with fail
  refine (none_any _).mono ?_
  rintro e w14 ⟨rfl, rfl⟩
  go_wp2_with fail
  refine (nilSize _).mono ?_
  rintro e w15 ⟨rfl, rfl⟩
  go_wp2_with fail
  refine (none_any _).mono ?_
  rintro e w16 ⟨rfl, rfl⟩
  go_wp2_with fail
  refine (nilWaits _).mono ?_
  rintro e w17 ⟨rfl, rfl⟩
  by_cases hr : size < 1 ∨ 1024 < size
  · by_cases h1 : size < 1
    · go_wp2_with fail
      refine (newDisk_no size _ hr).mono ?_
      rintro e w18 ⟨rfl, rfl⟩
      clear hr
      go_wp2_with fail
      go_ret
      exact ⟨rfl, hb7⟩
    · have h2 : 1024 < size := by omega
      go_wp2_with fail
      refine (newDisk_no size _ hr).mono ?_
      rintro e w18 ⟨rfl, rfl⟩
      clear hr
      go_wp2_with fail
      go_ret
      exact ⟨rfl, hb7⟩
  · obtain ⟨N, rfl⟩ := Int.eq_ofNat_of_zero_le (by omega : 0 ≤ size)
    have hN : 1 ≤ N ∧ N ≤ 1024 := by omega
    clear hr hsz
    go_wp2_with fail
    refine (newDisk_any N _ hN.1 hN.2).mono ?_
    rintro e w18 ⟨d, gs, cs, r, rfl, hd, hdl, hb18⟩
    go_wp2_with fail
    refine (refNew_any N w18 hN.2).mono ?_
    rintro e w19 ⟨p, As, cs2, r2, rfl, hp, hpl, hb19⟩
    have hbw : Below w6.heap.size w6 w19 := (hb7.trans (hb18.mono hb7.size)).trans (hb19.mono (hb7.trans (hb18.mono hb7.size)).size)
    have hT : Two w6.heap.size w19 (newD N) d p (fun b => b = d ∨ b = gs ∨ b = r ∨ Value.ownBlock (.slice none (newD N).order.length 0) = some b) (fun b => b = p ∨ Value.ownBlock (.slice As (newD N).stay.length cs2) = some b ∨ b = r2 ∨ Value.ownBlock (.slice none (newD N).order.length 0) = some b) :=
      ⟨⟨gs, cs, r, none, 0, (hd.below hb19).base hb7.size, fun _ => Iff.rfl⟩, ⟨As, cs2, r2, none, 0, hp.base (hb7.trans (hb18.mono hb7.size)).size, fun _ => Iff.rfl⟩, by
        have hR : Rsk w18.heap.size w19 (newD N) p (fun b => b = p ∨ Value.ownBlock (.slice As (newD N).stay.length cs2) = some b ∨ b = r2 ∨ Value.ownBlock (.slice none (newD N).order.length 0) = some b) := ⟨As, cs2, r2, none, 0, hp, fun _ => Iff.rfl⟩
        have hD : Dsk w17.heap.size w18 (newD N) d (fun b => b = d ∨ b = gs ∨ b = r ∨ Value.ownBlock (.slice none (newD N).order.length 0) = some b) := ⟨gs, cs, r, none, 0, hd, fun _ => Iff.rfl⟩
        intro b h1 h2
        have := (hR.bd b h2).1
        have := (hD.bd b h1).2
        omega⟩
    have hF : Fit (newD N) N 0 := ⟨newD_len N, by simp [newD], by simp [newD], by simp [newD]⟩
    generalize newD N = D0 at *
    generalize (fun b => b = d ∨ b = gs ∨ b = r ∨ Value.ownBlock (.slice none D0.order.length 0) = some b) = I0 at *
    generalize (fun b => b = p ∨ Value.ownBlock (.slice As D0.stay.length cs2) = some b ∨ b = r2 ∨ Value.ownBlock (.slice none D0.order.length 0) = some b) = J0 at *
    clear hd hp hdl hpl hb19 hb18 hb7
    go_wp2_with fail
    go_loopw [10] (fun i wr => ∃ (k : Nat) (D : Dk) (I J : Nat → Prop), k ≤ n ∧ k ≤ 60 ∧ i = .int .i64 k ∧ Two w6.heap.size wr D d p I J ∧ Fit D N k ∧ Below w6.heap.size w6 wr) (fun i _ => n - (intOf i).toNat)
    case atStart => exact ⟨0, D0, I0, J0, Nat.zero_le _, Nat.zero_le _, rfl, hT, hF, hbw⟩
    case round =>
      obtain ⟨k, D, I, J, hk, hk60, rfl, hT, hF, hb⟩ := hrel
      by_cases hkn : k < n
      · by_cases h60 : k < 60
        · have hxo := (hok (acAt l k) (by
            unfold acAt
            rw [List.getD_eq_getElem?_getD, List.getElem?_eq_getElem (by omega)]
            exact List.getElem_mem _))
          have hrow := hS.below hb
          obtain ⟨b, off, rfl, hbl, hcell⟩ : ∃ b off, A = some ⟨b, off, none⟩ ∧ b < wr.heap.size ∧ wr.rangeAt b (off + k * 5) (acC (acAt l k)) := by
            obtain ⟨A', n', c', he, h1, h2, h3, h4⟩ := hrow
            injection he with e1 e2 e3
            subst e1; subst e2; subst e3
            obtain ⟨b, off, rfl, hlt, hc⟩ := h4 (by omega)
            refine ⟨b, off, rfl, hlt, fun j v hj => ?_⟩
            have hj5 : j < 5 := by have := (List.getElem?_eq_some_iff.1 hj).1; simpa [acC] using this
            rw [show off + k * 5 + j = off + (k * 5 + j) by omega, hc (k * 5 + j) (by omega), AC_get l k j (by omega) hj5, hj]
          have hx1 := hxo.what
          have hx2 := hxo.i
          have hx3 := hxo.size
          have hK := hxo.sl.below hb
          have hKlt : 0 < (acAt l k).nk → ∀ ad, (acAt l k).K = some ad → ad.block < w6.heap.size := by
            intro h0 ad had
            obtain ⟨bk, ok, hk1, hk2, _⟩ := BO_cell hxo.sl h0
            rw [had] at hk1
            injection hk1 with hk1
            rw [hk1]
            exact hk2
          generalize acAt l k = x at *
          clear hxo
          have hrowx := hrow
          clear hrow
          have hwa := (Below.refl wr.heap.size wr).alloc (Nat.le_refl _) (.cells #[.int .i64 x.what, .int .i64 x.i, .int .u8 (x.b.toNat : Int), .int .i64 x.size, .slice x.K x.nk x.ck] 41)
          have hg : (wr.alloc (.cells #[.int .i64 x.what, .int .i64 x.i, .int .u8 (x.b.toNat : Int), .int .i64 x.size, .slice x.K x.nk x.ck] 41)).heap[wr.heap.size]? = some (.cells #[.int .i64 x.what, .int .i64 x.i, .int .u8 (x.b.toNat : Int), .int .i64 x.size, .slice x.K x.nk x.ck] 41 (0, 0)) := heap_alloc_new wr _
          have hT1 := hT.below hwa
          have hb1 := hb.trans (hwa.mono hb.size)
          have hK1 := hK.below hwa
          have hgI : ∀ b, I b → b < wr.heap.size := fun b h => (hT.dk.bd b h).2
          have hgJ : ∀ b, J b → b < wr.heap.size := fun b h => (hT.rk.bd b h).2
          have hinf : (Try.prog.info? 41).map (·.size) = some 5 := by kernel_rfl
          obtain ⟨y, hy8, ek⟩ : ∃ y : Nat, y < 8 ∧ wrap64 ((IntKind.u64.wrap x.what).tmod 8) = (y : Int) := by
            refine ⟨((IntKind.u64.wrap x.what) % 8).toNat, by omega, ?_⟩
            rw [Int.tmod_eq_emod_of_nonneg (by rw [IntKind.wrap_u64]; omega)]
            unfold wrap64
            rw [IntKind.wrap_u64]
            omega
          clear hT hb hK hwa hrowx
          have hy : y = 0 ∨ y = 1 ∨ y = 2 ∨ y = 3 ∨ y = 4 ∨ y = 5 ∨ y = 6 ∨ y = 7 := by omega
          clear hy8
          rcases hy with rfl | rfl | rfl | rfl | rfl | rfl | rfl | rfl
          · as_aux_lemma =>
            go_wp2_with (first | (refine wpList_load_mid rfl 41 (.tmp 92) rfl b (off + k * 5) rfl (acC x) _ hcell Try.underlying41 rfl hinf ?_) | (refine wpList_store_new rfl 41 (.tmp 11) (.tmp 93) rfl #[.int .i64 x.what, .int .i64 x.i, .int .u8 (x.b.toNat : Int), .int .i64 x.size, .slice x.K x.nk x.ck] rfl rfl hinf rfl (acA_one x) ?_))
            clear hcell ek hinf
            generalize wr.alloc (.cells #[.int .i64 x.what, .int .i64 x.i, .int .u8 (x.b.toNat : Int), .int .i64 x.size, .slice x.K x.nk x.ck] 41) = wa at *
            generalize wr.heap.size = g at *
            refine (dsk_read w6.heap.size wa D d I x.i hT1.dk).mono ?_
            rintro e w20 ⟨A1, n1, c1, rfl, hs1, hb2⟩
            have hT2 := hT1.below hb2
            have hb3 := hb1.trans (hb2.mono hb1.size)
            have hg2 := blk_below hg hb2 (Array.getElem?_eq_some_iff.1 hg).1
            have q1 := (blk_cells hg2).1 1
            simp at q1
            clear hT1 hb1 hb2 hg hK1
            go_wp2_with fail
            refine (rsk_read w6.heap.size w20 D p J x.i hT2.rk).mono ?_
            rintro e w21 ⟨rfl, rfl⟩
            have st := bstr hs1
            have qs : ((S8 (readE D x.i)).toList == (S8 (readE D x.i)).toList) = true := by simp
            have hF2 : Fit D N (k + 1) := hF.more (by omega)
            clear hs1 hg2 q1
            go_wp2_with fail
            clear st qs
            obtain ⟨As3, cs3, r3, Ao3, co3, hRk, hJ3⟩ := hT2.rk
            have hpl3 := (Array.getElem?_eq_some_iff.1 hRk.blk).1
            have zp1 := fun (z : WK (fun _ => False) w21) => (wat_cell (p := ⟨p, 1, none⟩) hpl3 (fun e => e) z).trans ((blk_cells hRk.blk).1 1)
            have zp3 := fun (z : WK (fun _ => False) w21) => (wat_cell (p := ⟨p, 3, none⟩) hpl3 (fun e => e) z).trans ((blk_cells hRk.blk).1 3)
            simp at zp1 zp3
            have hlE := hF2.len
            cases ho : (D).off with
            | true =>
              simp only [ho] at zp3
              refine wp_region_loud (fun _ => False) [(1, plainL [] (.bool false)), (9, plainL [] (.int .i64 (D).order.length)), (19, plainL [] (.int .i64 N))] (fun _ => Fact.none) (by kernel_rfl) (by kernel_rfl)
                (.cons (plainL_ok _ _) (.cons (plainL_ok _ _) (.cons (plainL_ok _ _) .nil))) good_nothing sat_none (WX.out ?_)
              repeat (first | (refine wx_quietU (by rfl) (by rfl) (by rfl) (fun K hK => ?_); go_big_quiet_op; refine hK _ ?_; clear hK K) | (refine wx_quietG (by rfl) (by rfl) (by rfl) (by rfl) (by rfl) (fun K hK => ?_); go_big_quiet_op; refine hK _ ?_; clear hK K) | (refine wx_skipG (by rfl) (by rfl) (by rfl) (fun K hK => ?_); go_simp; refine hK _ ?_; clear hK K) | (refine wx_skipN (by rfl) (by rfl) (by rfl) (fun K hK => ?_); go_simp; refine hK _ ?_; clear hK K))
              refine wx_loudU (us := []) (by rfl) (by rfl) (fun S wS hC hS hU => runs_enter (f := 19) (by go_simp <;> rfl) ?_) (fun v hv K hK => ?_)
              · refine (dsk_on w6.heap.size wS (D) d _ (hT2.dk.below hC.below)).mono ?_
                rintro e w' ⟨rfl, rfl⟩
                rw [ho]
                exact ⟨_, rfl, rfl, Kept.refl _ _, trivial⟩
              obtain rfl := hv; (go_simp; refine hK _ ?_; clear hK K)
              repeat (first | (refine wx_quietU (by rfl) (by rfl) (by rfl) (fun K hK => ?_); go_big_quiet_op; refine hK _ ?_; clear hK K) | (refine wx_quietG (by rfl) (by rfl) (by rfl) (by rfl) (by rfl) (fun K hK => ?_); go_big_quiet_op; refine hK _ ?_; clear hK K) | (refine wx_skipG (by rfl) (by rfl) (by rfl) (fun K hK => ?_); go_simp; refine hK _ ?_; clear hK K) | (refine wx_skipN (by rfl) (by rfl) (by rfl) (fun K hK => ?_); go_simp; refine hK _ ?_; clear hK K))
              refine wx_loudG (us := []) (by rfl) (by rfl) (by rfl) (by rfl) (fun S wS hC hS hU => runs_enter (f := 21) (by go_simp <;> rfl) ?_) (fun v hv K hK => ?_)
              · refine (dsk_waits w6.heap.size wS (D) d _ (hT2.dk.below hC.below)).mono ?_
                rintro e w' ⟨rfl, rfl⟩
                exact ⟨_, rfl, rfl, Kept.refl _ _, trivial⟩
              obtain rfl := hv; (go_simp; refine hK _ ?_; clear hK K)
              repeat (first | (refine wx_quietU (by rfl) (by rfl) (by rfl) (fun K hK => ?_); go_big_quiet_op; refine hK _ ?_; clear hK K) | (refine wx_quietG (by rfl) (by rfl) (by rfl) (by rfl) (by rfl) (fun K hK => ?_); go_big_quiet_op; refine hK _ ?_; clear hK K) | (refine wx_skipG (by rfl) (by rfl) (by rfl) (fun K hK => ?_); go_simp; refine hK _ ?_; clear hK K) | (refine wx_skipN (by rfl) (by rfl) (by rfl) (fun K hK => ?_); go_simp; refine hK _ ?_; clear hK K))
              refine wx_loudG (us := []) (by rfl) (by rfl) (by rfl) (by rfl) (fun S wS hC hS hU => runs_enter (f := 20) (by go_simp <;> rfl) ?_) (fun v hv K hK => ?_)
              · refine (dsk_size w6.heap.size wS (D) d _ (hT2.dk.below hC.below)).mono ?_
                rintro e w' ⟨rfl, rfl⟩
                rw [hlE]
                exact ⟨_, rfl, rfl, Kept.refl _ _, trivial⟩
              obtain rfl := hv; (go_simp; refine hK _ ?_; clear hK K)
              repeat (first | (refine wx_quietU (by rfl) (by rfl) (by rfl) (fun K hK => ?_); go_big_quiet_op; refine hK _ ?_; clear hK K) | (refine wx_quietG (by rfl) (by rfl) (by rfl) (by rfl) (by rfl) (fun K hK => ?_); go_big_quiet_op; refine hK _ ?_; clear hK K) | (refine wx_skipG (by rfl) (by rfl) (by rfl) (fun K hK => ?_); go_simp; refine hK _ ?_; clear hK K) | (refine wx_skipN (by rfl) (by rfl) (by rfl) (fun K hK => ?_); go_simp; refine hK _ ?_; clear hK K))
              refine wx_nil fun w40 hsat => ?_
              have hb40 := sat_below hsat
              clear hsat zp1 zp3 hRk hJ3
              have hT40 := hT2.below hb40
              have hb41 := hb3.trans (hb40.mono hb3.size)
              go_wp2_with fail
              go_light
              exact ⟨⟨k + 1, D, _, _, by omega, by omega, by go_num, hT40, hF2, hb41⟩, by simp [intOf]; omega⟩
            | false =>
              simp only [ho] at zp3
              refine wp_region_loud (fun _ => False) [(1, plainL [] (.bool true)), (9, plainL [] (.int .i64 (D).order.length)), (19, plainL [] (.int .i64 N))] (fun _ => Fact.none) (by kernel_rfl) (by kernel_rfl)
                (.cons (plainL_ok _ _) (.cons (plainL_ok _ _) (.cons (plainL_ok _ _) .nil))) good_nothing sat_none (WX.out ?_)
              repeat (first | (refine wx_quietU (by rfl) (by rfl) (by rfl) (fun K hK => ?_); go_big_quiet_op; refine hK _ ?_; clear hK K) | (refine wx_quietG (by rfl) (by rfl) (by rfl) (by rfl) (by rfl) (fun K hK => ?_); go_big_quiet_op; refine hK _ ?_; clear hK K) | (refine wx_skipG (by rfl) (by rfl) (by rfl) (fun K hK => ?_); go_simp; refine hK _ ?_; clear hK K) | (refine wx_skipN (by rfl) (by rfl) (by rfl) (fun K hK => ?_); go_simp; refine hK _ ?_; clear hK K))
              refine wx_loudU (us := []) (by rfl) (by rfl) (fun S wS hC hS hU => runs_enter (f := 19) (by go_simp <;> rfl) ?_) (fun v hv K hK => ?_)
              · refine (dsk_on w6.heap.size wS (D) d _ (hT2.dk.below hC.below)).mono ?_
                rintro e w' ⟨rfl, rfl⟩
                rw [ho]
                exact ⟨_, rfl, rfl, Kept.refl _ _, trivial⟩
              obtain rfl := hv; (go_simp; refine hK _ ?_; clear hK K)
              repeat (first | (refine wx_quietU (by rfl) (by rfl) (by rfl) (fun K hK => ?_); go_big_quiet_op; refine hK _ ?_; clear hK K) | (refine wx_quietG (by rfl) (by rfl) (by rfl) (by rfl) (by rfl) (fun K hK => ?_); go_big_quiet_op; refine hK _ ?_; clear hK K) | (refine wx_skipG (by rfl) (by rfl) (by rfl) (fun K hK => ?_); go_simp; refine hK _ ?_; clear hK K) | (refine wx_skipN (by rfl) (by rfl) (by rfl) (fun K hK => ?_); go_simp; refine hK _ ?_; clear hK K))
              refine wx_loudG (us := []) (by rfl) (by rfl) (by rfl) (by rfl) (fun S wS hC hS hU => runs_enter (f := 21) (by go_simp <;> rfl) ?_) (fun v hv K hK => ?_)
              · refine (dsk_waits w6.heap.size wS (D) d _ (hT2.dk.below hC.below)).mono ?_
                rintro e w' ⟨rfl, rfl⟩
                exact ⟨_, rfl, rfl, Kept.refl _ _, trivial⟩
              obtain rfl := hv; (go_simp; refine hK _ ?_; clear hK K)
              repeat (first | (refine wx_quietU (by rfl) (by rfl) (by rfl) (fun K hK => ?_); go_big_quiet_op; refine hK _ ?_; clear hK K) | (refine wx_quietG (by rfl) (by rfl) (by rfl) (by rfl) (by rfl) (fun K hK => ?_); go_big_quiet_op; refine hK _ ?_; clear hK K) | (refine wx_skipG (by rfl) (by rfl) (by rfl) (fun K hK => ?_); go_simp; refine hK _ ?_; clear hK K) | (refine wx_skipN (by rfl) (by rfl) (by rfl) (fun K hK => ?_); go_simp; refine hK _ ?_; clear hK K))
              refine wx_loudG (us := []) (by rfl) (by rfl) (by rfl) (by rfl) (fun S wS hC hS hU => runs_enter (f := 20) (by go_simp <;> rfl) ?_) (fun v hv K hK => ?_)
              · refine (dsk_size w6.heap.size wS (D) d _ (hT2.dk.below hC.below)).mono ?_
                rintro e w' ⟨rfl, rfl⟩
                rw [hlE]
                exact ⟨_, rfl, rfl, Kept.refl _ _, trivial⟩
              obtain rfl := hv; (go_simp; refine hK _ ?_; clear hK K)
              repeat (first | (refine wx_quietU (by rfl) (by rfl) (by rfl) (fun K hK => ?_); go_big_quiet_op; refine hK _ ?_; clear hK K) | (refine wx_quietG (by rfl) (by rfl) (by rfl) (by rfl) (by rfl) (fun K hK => ?_); go_big_quiet_op; refine hK _ ?_; clear hK K) | (refine wx_skipG (by rfl) (by rfl) (by rfl) (fun K hK => ?_); go_simp; refine hK _ ?_; clear hK K) | (refine wx_skipN (by rfl) (by rfl) (by rfl) (fun K hK => ?_); go_simp; refine hK _ ?_; clear hK K))
              refine wx_nil fun w40 hsat => ?_
              have hb40 := sat_below hsat
              clear hsat zp1 zp3 hRk hJ3
              have hT40 := hT2.below hb40
              have hb41 := hb3.trans (hb40.mono hb3.size)
              go_wp2_with fail
              go_light
              exact ⟨⟨k + 1, D, _, _, by omega, by omega, by go_num, hT40, hF2, hb41⟩, by simp [intOf]; omega⟩
          · as_aux_lemma =>
            go_wp2_with (first | (refine wpList_load_mid rfl 41 (.tmp 92) rfl b (off + k * 5) rfl (acC x) _ hcell Try.underlying41 rfl hinf ?_) | (refine wpList_store_new rfl 41 (.tmp 11) (.tmp 93) rfl #[.int .i64 x.what, .int .i64 x.i, .int .u8 (x.b.toNat : Int), .int .i64 x.size, .slice x.K x.nk x.ck] rfl rfl hinf rfl (acA_one x) ?_))
            clear hcell ek hinf
            generalize wr.alloc (.cells #[.int .i64 x.what, .int .i64 x.i, .int .u8 (x.b.toNat : Int), .int .i64 x.size, .slice x.K x.nk x.ck] 41) = wa at *
            generalize wr.heap.size = g at *
            refine (full_any x.b wa).mono ?_
            rintro e w20 ⟨g2, rfl, hgl2, hgl2', ho2, hb2⟩
            have hgl := (Array.getElem?_eq_some_iff.1 hg).1
            have hgl20 : g < w20.heap.size := Nat.lt_of_lt_of_le hgl hb2.size
            have hT2 := hT1.below hb2
            have hb3 := hb1.trans (hb2.mono hb1.size)
            have hg2 := blk_below hg hb2 hgl
            have q1 := (blk_cells hg2).1 1
            have q3 := (blk_cells hg2).1 3
            simp at q1 q3
            have hS1 : ¬ ((False ∨ I g) ∨ J g) := by
              rintro ((h | h) | h)
              · exact h
              · have := hgI g h; omega
              · have := hgJ g h; omega
            have hS2 : ¬ ((False ∨ I g2) ∨ J g2) := by
              rintro ((h | h) | h)
              · exact h
              · have := hgI g2 h; omega
              · have := hgJ g2 h; omega
            have hl0 := own_sl ho2
            clear hT1 hb1 hb2 hg hK1 hg2 ho2 hgI hgJ
            go_wp2_with fail
            · have hl := hl0.take 63 (by omega)
              clear hl0
              have HLL : Hid (((fullL x.b).take 63).length = 63) := hl.len.1
              have st := fun (z : WK (fun b => (False ∨ I b) ∨ J b) w20) => bstr (sl_kept hl (wat_kept z) (fun ad had => by injection had with had; subst had; exact hS2))
              have zq1 := fun (z : WK (fun b => (False ∨ I b) ∨ J b) w20) => (wat_cell (p := ⟨g, 1, none⟩) hgl20 (fun e => hS1 e) z).trans q1
              refine wp_region_loud (fun b => (False ∨ I b) ∨ J b) [(4, factL [100] (fun v => v = .int .i64 (wrE D x.i ((fullL x.b).take 63))) (fun _ => DskF w6.heap.size (wrD D x.i ((fullL x.b).take 63)) d)), (10, factL [101] (fun v => v = .int .i64 (wrE D x.i ((fullL x.b).take 63))) (fun _ => RskF w6.heap.size (wrD D x.i ((fullL x.b).take 63)) p))]
                (addL 101 (RskF w6.heap.size D p) (addL 100 (DskF w6.heap.size D d) (fun _ => Fact.none))) (by kernel_rfl) (by kernel_rfl)
                (.cons (factL_ok ⟨_, rfl⟩ (fun _ => good_dsk _ _ _)) (.cons (factL_ok ⟨_, rfl⟩ (fun _ => good_rsk _ _ _)) .nil))
                (good_add _ (good_rsk _ _ _) (good_add _ (good_dsk _ _ _) good_nothing))
                (sat_add 101 (sat_add 100 sat_none (fun b _ h => h) (fun b hb => (hT2.dk.bd b hb).2) ⟨I, fun b hb => hb, hT2.dk⟩) (fun b h1 h2 => by
                  rcases h2 with h2 | h2
                  · exact h2
                  · exact hT2.dis b h2 h1) (fun b hb => (hT2.rk.bd b hb).2) ⟨J, fun b hb => hb, hT2.rk⟩) (WX.out ?_)
              repeat (first | (refine wx_quietU (by rfl) (by rfl) (by rfl) (fun K hK => ?_); go_big_quiet_op; refine hK _ ?_; clear hK K) | (refine wx_quietG (by rfl) (by rfl) (by rfl) (by rfl) (by rfl) (fun K hK => ?_); go_big_quiet_op; refine hK _ ?_; clear hK K) | (refine wx_skipG (by rfl) (by rfl) (by rfl) (fun K hK => ?_); go_simp; refine hK _ ?_; clear hK K) | (refine wx_skipN (by rfl) (by rfl) (by rfl) (fun K hK => ?_); go_simp; refine hK _ ?_; clear hK K))
              refine wx_loudU (us := [100]) (by rfl) (by rfl) (fun S wS hC hS hU => runs_enter (f := 17) (by go_simp <;> rfl) ?_) (fun v hv K hK => ?_)
              · obtain ⟨I1, hI1, hD1⟩ := (hU 100 (by simp) : DskF w6.heap.size D d S wS)
                have hlS := sl_kept hl hC (fun ad had => by injection had with had; subst had; exact hS2)
                refine (dsk_write w6.heap.size wS D d I1 x.i g2 0 63 64 ((fullL x.b).take 63) hD1 (Nat.le_trans hb3.size hC.size) hlS (by omega) (by have := hF.few; omega) (fun h => by
                  rcases (hS g2 (hI1 g2 h)).1 with h1 | h1
                  · exact hS2 h1
                  · omega)).mono ?_
                rintro e w' ⟨rfl, I2, hD2, ht2⟩
                refine ⟨_, rfl, rfl, ht2.1.wider hI1, I2, fun b hb => ?_, hD2⟩
                rcases ht2.2 b hb with h1 | h1
                · exact .inl (hI1 b h1)
                · exact .inr ⟨h1, (hD2.bd b hb).2⟩
              obtain rfl := hv; (go_simp; refine hK _ ?_; clear hK K)
              repeat (first | (refine wx_quietU (by rfl) (by rfl) (by rfl) (fun K hK => ?_); go_big_quiet_op; refine hK _ ?_; clear hK K) | (refine wx_quietG (by rfl) (by rfl) (by rfl) (by rfl) (by rfl) (fun K hK => ?_); go_big_quiet_op; refine hK _ ?_; clear hK K) | (refine wx_skipG (by rfl) (by rfl) (by rfl) (fun K hK => ?_); go_simp; refine hK _ ?_; clear hK K) | (refine wx_skipN (by rfl) (by rfl) (by rfl) (fun K hK => ?_); go_simp; refine hK _ ?_; clear hK K))
              refine wx_loudU (us := [101]) (by rfl) (by rfl) (fun S wS hC hS hU => runs_enter (f := 26) (by go_simp <;> rfl) ?_) (fun v hv K hK => ?_)
              · obtain ⟨J1, hJ1, hR1⟩ := (hU 101 (by simp) : RskF w6.heap.size D p S wS)
                refine (rsk_write w6.heap.size wS D p J1 x.i ((fullL x.b).take 63) hR1 (Nat.le_trans hb3.size hC.size) (by rw [HLL.out] <;> omega) (by have := hF.few; omega)).mono ?_
                rintro e w' ⟨rfl, J2, hR2, ht2⟩
                refine ⟨_, rfl, rfl, ht2.1.wider hJ1, J2, fun b hb => ?_, hR2⟩
                rcases ht2.2 b hb with h1 | h1
                · exact .inl (hJ1 b h1)
                · exact .inr ⟨h1, (hR2.bd b hb).2⟩
              obtain rfl := hv; (go_simp; refine hK _ ?_; clear hK K)
              repeat (first | (refine wx_quietU (by rfl) (by rfl) (by rfl) (fun K hK => ?_); go_big_quiet_op; refine hK _ ?_; clear hK K) | (refine wx_quietG (by rfl) (by rfl) (by rfl) (by rfl) (by rfl) (fun K hK => ?_); go_big_quiet_op; refine hK _ ?_; clear hK K) | (refine wx_skipG (by rfl) (by rfl) (by rfl) (fun K hK => ?_); go_simp; refine hK _ ?_; clear hK K) | (refine wx_skipN (by rfl) (by rfl) (by rfl) (fun K hK => ?_); go_simp; refine hK _ ?_; clear hK K))
              refine wx_nil fun w21 hsat => ?_
              obtain ⟨S1, S2, hdS, hf1, hf2⟩ := sat_get2 hsat 4 10 (by decide)
              obtain ⟨I2, hI2, hD2⟩ := (hf1 : DskF w6.heap.size (wrD D x.i ((fullL x.b).take 63)) d S1 w21)
              obtain ⟨J2, hJ2, hR2⟩ := (hf2 : RskF w6.heap.size (wrD D x.i ((fullL x.b).take 63)) p S2 w21)
              have hT3 : Two w6.heap.size w21 (wrD D x.i ((fullL x.b).take 63)) d p I2 J2 := ⟨hD2, hR2, fun b h1 h2 => hdS b (hI2 b h1) (hJ2 b h2)⟩
              have hb4 : Below w6.heap.size w6 w21 := hb3.trans (hsat.1.below_of hb3.size (fun b hb => by
                rcases hb with (h | h) | h
                · exact h.elim
                · exact (hT2.dk.bd b h).1
                · exact (hT2.rk.bd b h).1))
              have hF2 := hF.write x.i ((fullL x.b).take 63)
              clear hsat st zq1 hT2 hb3 hl q1 hD2 hR2
              go_wp2_with fail
              generalize wrD D x.i ((fullL x.b).take 63) = E at *
              obtain ⟨As3, cs3, r3, Ao3, co3, hRk, hJ3⟩ := hT3.rk
              have hpl3 := (Array.getElem?_eq_some_iff.1 hRk.blk).1
              have zp1 := fun (z : WK (fun _ => False) w21) => (wat_cell (p := ⟨p, 1, none⟩) hpl3 (fun e => e) z).trans ((blk_cells hRk.blk).1 1)
              have zp3 := fun (z : WK (fun _ => False) w21) => (wat_cell (p := ⟨p, 3, none⟩) hpl3 (fun e => e) z).trans ((blk_cells hRk.blk).1 3)
              simp at zp1 zp3
              have hlE := hF2.len
              cases ho : (E).off with
              | true =>
                simp only [ho] at zp3
                refine wp_region_loud (fun _ => False) [(1, plainL [] (.bool false)), (9, plainL [] (.int .i64 (E).order.length)), (19, plainL [] (.int .i64 N))] (fun _ => Fact.none) (by kernel_rfl) (by kernel_rfl)
                  (.cons (plainL_ok _ _) (.cons (plainL_ok _ _) (.cons (plainL_ok _ _) .nil))) good_nothing sat_none (WX.out ?_)
                repeat (first | (refine wx_quietU (by rfl) (by rfl) (by rfl) (fun K hK => ?_); go_big_quiet_op; refine hK _ ?_; clear hK K) | (refine wx_quietG (by rfl) (by rfl) (by rfl) (by rfl) (by rfl) (fun K hK => ?_); go_big_quiet_op; refine hK _ ?_; clear hK K) | (refine wx_skipG (by rfl) (by rfl) (by rfl) (fun K hK => ?_); go_simp; refine hK _ ?_; clear hK K) | (refine wx_skipN (by rfl) (by rfl) (by rfl) (fun K hK => ?_); go_simp; refine hK _ ?_; clear hK K))
                refine wx_loudU (us := []) (by rfl) (by rfl) (fun S wS hC hS hU => runs_enter (f := 19) (by go_simp <;> rfl) ?_) (fun v hv K hK => ?_)
                · refine (dsk_on w6.heap.size wS (E) d _ (hT3.dk.below hC.below)).mono ?_
                  rintro e w' ⟨rfl, rfl⟩
                  rw [ho]
                  exact ⟨_, rfl, rfl, Kept.refl _ _, trivial⟩
                obtain rfl := hv; (go_simp; refine hK _ ?_; clear hK K)
                repeat (first | (refine wx_quietU (by rfl) (by rfl) (by rfl) (fun K hK => ?_); go_big_quiet_op; refine hK _ ?_; clear hK K) | (refine wx_quietG (by rfl) (by rfl) (by rfl) (by rfl) (by rfl) (fun K hK => ?_); go_big_quiet_op; refine hK _ ?_; clear hK K) | (refine wx_skipG (by rfl) (by rfl) (by rfl) (fun K hK => ?_); go_simp; refine hK _ ?_; clear hK K) | (refine wx_skipN (by rfl) (by rfl) (by rfl) (fun K hK => ?_); go_simp; refine hK _ ?_; clear hK K))
                refine wx_loudG (us := []) (by rfl) (by rfl) (by rfl) (by rfl) (fun S wS hC hS hU => runs_enter (f := 21) (by go_simp <;> rfl) ?_) (fun v hv K hK => ?_)
                · refine (dsk_waits w6.heap.size wS (E) d _ (hT3.dk.below hC.below)).mono ?_
                  rintro e w' ⟨rfl, rfl⟩
                  exact ⟨_, rfl, rfl, Kept.refl _ _, trivial⟩
                obtain rfl := hv; (go_simp; refine hK _ ?_; clear hK K)
                repeat (first | (refine wx_quietU (by rfl) (by rfl) (by rfl) (fun K hK => ?_); go_big_quiet_op; refine hK _ ?_; clear hK K) | (refine wx_quietG (by rfl) (by rfl) (by rfl) (by rfl) (by rfl) (fun K hK => ?_); go_big_quiet_op; refine hK _ ?_; clear hK K) | (refine wx_skipG (by rfl) (by rfl) (by rfl) (fun K hK => ?_); go_simp; refine hK _ ?_; clear hK K) | (refine wx_skipN (by rfl) (by rfl) (by rfl) (fun K hK => ?_); go_simp; refine hK _ ?_; clear hK K))
                refine wx_loudG (us := []) (by rfl) (by rfl) (by rfl) (by rfl) (fun S wS hC hS hU => runs_enter (f := 20) (by go_simp <;> rfl) ?_) (fun v hv K hK => ?_)
                · refine (dsk_size w6.heap.size wS (E) d _ (hT3.dk.below hC.below)).mono ?_
                  rintro e w' ⟨rfl, rfl⟩
                  rw [hlE]
                  exact ⟨_, rfl, rfl, Kept.refl _ _, trivial⟩
                obtain rfl := hv; (go_simp; refine hK _ ?_; clear hK K)
                repeat (first | (refine wx_quietU (by rfl) (by rfl) (by rfl) (fun K hK => ?_); go_big_quiet_op; refine hK _ ?_; clear hK K) | (refine wx_quietG (by rfl) (by rfl) (by rfl) (by rfl) (by rfl) (fun K hK => ?_); go_big_quiet_op; refine hK _ ?_; clear hK K) | (refine wx_skipG (by rfl) (by rfl) (by rfl) (fun K hK => ?_); go_simp; refine hK _ ?_; clear hK K) | (refine wx_skipN (by rfl) (by rfl) (by rfl) (fun K hK => ?_); go_simp; refine hK _ ?_; clear hK K))
                refine wx_nil fun w40 hsat => ?_
                have hb40 := sat_below hsat
                clear hsat zp1 zp3 hRk hJ3
                have hT40 := hT3.below hb40
                have hb41 := hb4.trans (hb40.mono hb4.size)
                go_wp2_with fail
                go_light
                exact ⟨⟨k + 1, E, _, _, by omega, by omega, by go_num, hT40, hF2, hb41⟩, by simp [intOf]; omega⟩
              | false =>
                simp only [ho] at zp3
                refine wp_region_loud (fun _ => False) [(1, plainL [] (.bool true)), (9, plainL [] (.int .i64 (E).order.length)), (19, plainL [] (.int .i64 N))] (fun _ => Fact.none) (by kernel_rfl) (by kernel_rfl)
                  (.cons (plainL_ok _ _) (.cons (plainL_ok _ _) (.cons (plainL_ok _ _) .nil))) good_nothing sat_none (WX.out ?_)
                repeat (first | (refine wx_quietU (by rfl) (by rfl) (by rfl) (fun K hK => ?_); go_big_quiet_op; refine hK _ ?_; clear hK K) | (refine wx_quietG (by rfl) (by rfl) (by rfl) (by rfl) (by rfl) (fun K hK => ?_); go_big_quiet_op; refine hK _ ?_; clear hK K) | (refine wx_skipG (by rfl) (by rfl) (by rfl) (fun K hK => ?_); go_simp; refine hK _ ?_; clear hK K) | (refine wx_skipN (by rfl) (by rfl) (by rfl) (fun K hK => ?_); go_simp; refine hK _ ?_; clear hK K))
                refine wx_loudU (us := []) (by rfl) (by rfl) (fun S wS hC hS hU => runs_enter (f := 19) (by go_simp <;> rfl) ?_) (fun v hv K hK => ?_)
                · refine (dsk_on w6.heap.size wS (E) d _ (hT3.dk.below hC.below)).mono ?_
                  rintro e w' ⟨rfl, rfl⟩
                  rw [ho]
                  exact ⟨_, rfl, rfl, Kept.refl _ _, trivial⟩
                obtain rfl := hv; (go_simp; refine hK _ ?_; clear hK K)
                repeat (first | (refine wx_quietU (by rfl) (by rfl) (by rfl) (fun K hK => ?_); go_big_quiet_op; refine hK _ ?_; clear hK K) | (refine wx_quietG (by rfl) (by rfl) (by rfl) (by rfl) (by rfl) (fun K hK => ?_); go_big_quiet_op; refine hK _ ?_; clear hK K) | (refine wx_skipG (by rfl) (by rfl) (by rfl) (fun K hK => ?_); go_simp; refine hK _ ?_; clear hK K) | (refine wx_skipN (by rfl) (by rfl) (by rfl) (fun K hK => ?_); go_simp; refine hK _ ?_; clear hK K))
                refine wx_loudG (us := []) (by rfl) (by rfl) (by rfl) (by rfl) (fun S wS hC hS hU => runs_enter (f := 21) (by go_simp <;> rfl) ?_) (fun v hv K hK => ?_)
                · refine (dsk_waits w6.heap.size wS (E) d _ (hT3.dk.below hC.below)).mono ?_
                  rintro e w' ⟨rfl, rfl⟩
                  exact ⟨_, rfl, rfl, Kept.refl _ _, trivial⟩
                obtain rfl := hv; (go_simp; refine hK _ ?_; clear hK K)
                repeat (first | (refine wx_quietU (by rfl) (by rfl) (by rfl) (fun K hK => ?_); go_big_quiet_op; refine hK _ ?_; clear hK K) | (refine wx_quietG (by rfl) (by rfl) (by rfl) (by rfl) (by rfl) (fun K hK => ?_); go_big_quiet_op; refine hK _ ?_; clear hK K) | (refine wx_skipG (by rfl) (by rfl) (by rfl) (fun K hK => ?_); go_simp; refine hK _ ?_; clear hK K) | (refine wx_skipN (by rfl) (by rfl) (by rfl) (fun K hK => ?_); go_simp; refine hK _ ?_; clear hK K))
                refine wx_loudG (us := []) (by rfl) (by rfl) (by rfl) (by rfl) (fun S wS hC hS hU => runs_enter (f := 20) (by go_simp <;> rfl) ?_) (fun v hv K hK => ?_)
                · refine (dsk_size w6.heap.size wS (E) d _ (hT3.dk.below hC.below)).mono ?_
                  rintro e w' ⟨rfl, rfl⟩
                  rw [hlE]
                  exact ⟨_, rfl, rfl, Kept.refl _ _, trivial⟩
                obtain rfl := hv; (go_simp; refine hK _ ?_; clear hK K)
                repeat (first | (refine wx_quietU (by rfl) (by rfl) (by rfl) (fun K hK => ?_); go_big_quiet_op; refine hK _ ?_; clear hK K) | (refine wx_quietG (by rfl) (by rfl) (by rfl) (by rfl) (by rfl) (fun K hK => ?_); go_big_quiet_op; refine hK _ ?_; clear hK K) | (refine wx_skipG (by rfl) (by rfl) (by rfl) (fun K hK => ?_); go_simp; refine hK _ ?_; clear hK K) | (refine wx_skipN (by rfl) (by rfl) (by rfl) (fun K hK => ?_); go_simp; refine hK _ ?_; clear hK K))
                refine wx_nil fun w40 hsat => ?_
                have hb40 := sat_below hsat
                clear hsat zp1 zp3 hRk hJ3
                have hT40 := hT3.below hb40
                have hb41 := hb4.trans (hb40.mono hb4.size)
                go_wp2_with fail
                go_light
                exact ⟨⟨k + 1, E, _, _, by omega, by omega, by go_num, hT40, hF2, hb41⟩, by simp [intOf]; omega⟩
            · have hl := hl0
              clear hl0
              have HLL : Hid ((fullL x.b).length = 64) := hl.len.1
              have st := fun (z : WK (fun b => (False ∨ I b) ∨ J b) w20) => bstr (sl_kept hl (wat_kept z) (fun ad had => by injection had with had; subst had; exact hS2))
              have zq1 := fun (z : WK (fun b => (False ∨ I b) ∨ J b) w20) => (wat_cell (p := ⟨g, 1, none⟩) hgl20 (fun e => hS1 e) z).trans q1
              refine wp_region_loud (fun b => (False ∨ I b) ∨ J b) [(4, factL [100] (fun v => v = .int .i64 (wrE D x.i (fullL x.b))) (fun _ => DskF w6.heap.size (wrD D x.i (fullL x.b)) d)), (10, factL [101] (fun v => v = .int .i64 (wrE D x.i (fullL x.b))) (fun _ => RskF w6.heap.size (wrD D x.i (fullL x.b)) p))]
                (addL 101 (RskF w6.heap.size D p) (addL 100 (DskF w6.heap.size D d) (fun _ => Fact.none))) (by kernel_rfl) (by kernel_rfl)
                (.cons (factL_ok ⟨_, rfl⟩ (fun _ => good_dsk _ _ _)) (.cons (factL_ok ⟨_, rfl⟩ (fun _ => good_rsk _ _ _)) .nil))
                (good_add _ (good_rsk _ _ _) (good_add _ (good_dsk _ _ _) good_nothing))
                (sat_add 101 (sat_add 100 sat_none (fun b _ h => h) (fun b hb => (hT2.dk.bd b hb).2) ⟨I, fun b hb => hb, hT2.dk⟩) (fun b h1 h2 => by
                  rcases h2 with h2 | h2
                  · exact h2
                  · exact hT2.dis b h2 h1) (fun b hb => (hT2.rk.bd b hb).2) ⟨J, fun b hb => hb, hT2.rk⟩) (WX.out ?_)
              repeat (first | (refine wx_quietU (by rfl) (by rfl) (by rfl) (fun K hK => ?_); go_big_quiet_op; refine hK _ ?_; clear hK K) | (refine wx_quietG (by rfl) (by rfl) (by rfl) (by rfl) (by rfl) (fun K hK => ?_); go_big_quiet_op; refine hK _ ?_; clear hK K) | (refine wx_skipG (by rfl) (by rfl) (by rfl) (fun K hK => ?_); go_simp; refine hK _ ?_; clear hK K) | (refine wx_skipN (by rfl) (by rfl) (by rfl) (fun K hK => ?_); go_simp; refine hK _ ?_; clear hK K))
              refine wx_loudU (us := [100]) (by rfl) (by rfl) (fun S wS hC hS hU => runs_enter (f := 17) (by go_simp <;> rfl) ?_) (fun v hv K hK => ?_)
              · obtain ⟨I1, hI1, hD1⟩ := (hU 100 (by simp) : DskF w6.heap.size D d S wS)
                have hlS := sl_kept hl hC (fun ad had => by injection had with had; subst had; exact hS2)
                refine (dsk_write w6.heap.size wS D d I1 x.i g2 0 64 64 (fullL x.b) hD1 (Nat.le_trans hb3.size hC.size) hlS (by omega) (by have := hF.few; omega) (fun h => by
                  rcases (hS g2 (hI1 g2 h)).1 with h1 | h1
                  · exact hS2 h1
                  · omega)).mono ?_
                rintro e w' ⟨rfl, I2, hD2, ht2⟩
                refine ⟨_, rfl, rfl, ht2.1.wider hI1, I2, fun b hb => ?_, hD2⟩
                rcases ht2.2 b hb with h1 | h1
                · exact .inl (hI1 b h1)
                · exact .inr ⟨h1, (hD2.bd b hb).2⟩
              obtain rfl := hv; (go_simp; refine hK _ ?_; clear hK K)
              repeat (first | (refine wx_quietU (by rfl) (by rfl) (by rfl) (fun K hK => ?_); go_big_quiet_op; refine hK _ ?_; clear hK K) | (refine wx_quietG (by rfl) (by rfl) (by rfl) (by rfl) (by rfl) (fun K hK => ?_); go_big_quiet_op; refine hK _ ?_; clear hK K) | (refine wx_skipG (by rfl) (by rfl) (by rfl) (fun K hK => ?_); go_simp; refine hK _ ?_; clear hK K) | (refine wx_skipN (by rfl) (by rfl) (by rfl) (fun K hK => ?_); go_simp; refine hK _ ?_; clear hK K))
              refine wx_loudU (us := [101]) (by rfl) (by rfl) (fun S wS hC hS hU => runs_enter (f := 26) (by go_simp <;> rfl) ?_) (fun v hv K hK => ?_)
              · obtain ⟨J1, hJ1, hR1⟩ := (hU 101 (by simp) : RskF w6.heap.size D p S wS)
                refine (rsk_write w6.heap.size wS D p J1 x.i (fullL x.b) hR1 (Nat.le_trans hb3.size hC.size) (by rw [HLL.out] <;> omega) (by have := hF.few; omega)).mono ?_
                rintro e w' ⟨rfl, J2, hR2, ht2⟩
                refine ⟨_, rfl, rfl, ht2.1.wider hJ1, J2, fun b hb => ?_, hR2⟩
                rcases ht2.2 b hb with h1 | h1
                · exact .inl (hJ1 b h1)
                · exact .inr ⟨h1, (hR2.bd b hb).2⟩
              obtain rfl := hv; (go_simp; refine hK _ ?_; clear hK K)
              repeat (first | (refine wx_quietU (by rfl) (by rfl) (by rfl) (fun K hK => ?_); go_big_quiet_op; refine hK _ ?_; clear hK K) | (refine wx_quietG (by rfl) (by rfl) (by rfl) (by rfl) (by rfl) (fun K hK => ?_); go_big_quiet_op; refine hK _ ?_; clear hK K) | (refine wx_skipG (by rfl) (by rfl) (by rfl) (fun K hK => ?_); go_simp; refine hK _ ?_; clear hK K) | (refine wx_skipN (by rfl) (by rfl) (by rfl) (fun K hK => ?_); go_simp; refine hK _ ?_; clear hK K))
              refine wx_nil fun w21 hsat => ?_
              obtain ⟨S1, S2, hdS, hf1, hf2⟩ := sat_get2 hsat 4 10 (by decide)
              obtain ⟨I2, hI2, hD2⟩ := (hf1 : DskF w6.heap.size (wrD D x.i (fullL x.b)) d S1 w21)
              obtain ⟨J2, hJ2, hR2⟩ := (hf2 : RskF w6.heap.size (wrD D x.i (fullL x.b)) p S2 w21)
              have hT3 : Two w6.heap.size w21 (wrD D x.i (fullL x.b)) d p I2 J2 := ⟨hD2, hR2, fun b h1 h2 => hdS b (hI2 b h1) (hJ2 b h2)⟩
              have hb4 : Below w6.heap.size w6 w21 := hb3.trans (hsat.1.below_of hb3.size (fun b hb => by
                rcases hb with (h | h) | h
                · exact h.elim
                · exact (hT2.dk.bd b h).1
                · exact (hT2.rk.bd b h).1))
              have hF2 := hF.write x.i (fullL x.b)
              clear hsat st zq1 hT2 hb3 hl q1 hD2 hR2
              go_wp2_with fail
              generalize wrD D x.i (fullL x.b) = E at *
              obtain ⟨As3, cs3, r3, Ao3, co3, hRk, hJ3⟩ := hT3.rk
              have hpl3 := (Array.getElem?_eq_some_iff.1 hRk.blk).1
              have zp1 := fun (z : WK (fun _ => False) w21) => (wat_cell (p := ⟨p, 1, none⟩) hpl3 (fun e => e) z).trans ((blk_cells hRk.blk).1 1)
              have zp3 := fun (z : WK (fun _ => False) w21) => (wat_cell (p := ⟨p, 3, none⟩) hpl3 (fun e => e) z).trans ((blk_cells hRk.blk).1 3)
              simp at zp1 zp3
              have hlE := hF2.len
              cases ho : (E).off with
              | true =>
                simp only [ho] at zp3
                refine wp_region_loud (fun _ => False) [(1, plainL [] (.bool false)), (9, plainL [] (.int .i64 (E).order.length)), (19, plainL [] (.int .i64 N))] (fun _ => Fact.none) (by kernel_rfl) (by kernel_rfl)
                  (.cons (plainL_ok _ _) (.cons (plainL_ok _ _) (.cons (plainL_ok _ _) .nil))) good_nothing sat_none (WX.out ?_)
                repeat (first | (refine wx_quietU (by rfl) (by rfl) (by rfl) (fun K hK => ?_); go_big_quiet_op; refine hK _ ?_; clear hK K) | (refine wx_quietG (by rfl) (by rfl) (by rfl) (by rfl) (by rfl) (fun K hK => ?_); go_big_quiet_op; refine hK _ ?_; clear hK K) | (refine wx_skipG (by rfl) (by rfl) (by rfl) (fun K hK => ?_); go_simp; refine hK _ ?_; clear hK K) | (refine wx_skipN (by rfl) (by rfl) (by rfl) (fun K hK => ?_); go_simp; refine hK _ ?_; clear hK K))
                refine wx_loudU (us := []) (by rfl) (by rfl) (fun S wS hC hS hU => runs_enter (f := 19) (by go_simp <;> rfl) ?_) (fun v hv K hK => ?_)
                · refine (dsk_on w6.heap.size wS (E) d _ (hT3.dk.below hC.below)).mono ?_
                  rintro e w' ⟨rfl, rfl⟩
                  rw [ho]
                  exact ⟨_, rfl, rfl, Kept.refl _ _, trivial⟩
                obtain rfl := hv; (go_simp; refine hK _ ?_; clear hK K)
                repeat (first | (refine wx_quietU (by rfl) (by rfl) (by rfl) (fun K hK => ?_); go_big_quiet_op; refine hK _ ?_; clear hK K) | (refine wx_quietG (by rfl) (by rfl) (by rfl) (by rfl) (by rfl) (fun K hK => ?_); go_big_quiet_op; refine hK _ ?_; clear hK K) | (refine wx_skipG (by rfl) (by rfl) (by rfl) (fun K hK => ?_); go_simp; refine hK _ ?_; clear hK K) | (refine wx_skipN (by rfl) (by rfl) (by rfl) (fun K hK => ?_); go_simp; refine hK _ ?_; clear hK K))
                refine wx_loudG (us := []) (by rfl) (by rfl) (by rfl) (by rfl) (fun S wS hC hS hU => runs_enter (f := 21) (by go_simp <;> rfl) ?_) (fun v hv K hK => ?_)
                · refine (dsk_waits w6.heap.size wS (E) d _ (hT3.dk.below hC.below)).mono ?_
                  rintro e w' ⟨rfl, rfl⟩
                  exact ⟨_, rfl, rfl, Kept.refl _ _, trivial⟩
                obtain rfl := hv; (go_simp; refine hK _ ?_; clear hK K)
                repeat (first | (refine wx_quietU (by rfl) (by rfl) (by rfl) (fun K hK => ?_); go_big_quiet_op; refine hK _ ?_; clear hK K) | (refine wx_quietG (by rfl) (by rfl) (by rfl) (by rfl) (by rfl) (fun K hK => ?_); go_big_quiet_op; refine hK _ ?_; clear hK K) | (refine wx_skipG (by rfl) (by rfl) (by rfl) (fun K hK => ?_); go_simp; refine hK _ ?_; clear hK K) | (refine wx_skipN (by rfl) (by rfl) (by rfl) (fun K hK => ?_); go_simp; refine hK _ ?_; clear hK K))
                refine wx_loudG (us := []) (by rfl) (by rfl) (by rfl) (by rfl) (fun S wS hC hS hU => runs_enter (f := 20) (by go_simp <;> rfl) ?_) (fun v hv K hK => ?_)
                · refine (dsk_size w6.heap.size wS (E) d _ (hT3.dk.below hC.below)).mono ?_
                  rintro e w' ⟨rfl, rfl⟩
                  rw [hlE]
                  exact ⟨_, rfl, rfl, Kept.refl _ _, trivial⟩
                obtain rfl := hv; (go_simp; refine hK _ ?_; clear hK K)
                repeat (first | (refine wx_quietU (by rfl) (by rfl) (by rfl) (fun K hK => ?_); go_big_quiet_op; refine hK _ ?_; clear hK K) | (refine wx_quietG (by rfl) (by rfl) (by rfl) (by rfl) (by rfl) (fun K hK => ?_); go_big_quiet_op; refine hK _ ?_; clear hK K) | (refine wx_skipG (by rfl) (by rfl) (by rfl) (fun K hK => ?_); go_simp; refine hK _ ?_; clear hK K) | (refine wx_skipN (by rfl) (by rfl) (by rfl) (fun K hK => ?_); go_simp; refine hK _ ?_; clear hK K))
                refine wx_nil fun w40 hsat => ?_
                have hb40 := sat_below hsat
                clear hsat zp1 zp3 hRk hJ3
                have hT40 := hT3.below hb40
                have hb41 := hb4.trans (hb40.mono hb4.size)
                go_wp2_with fail
                go_light
                exact ⟨⟨k + 1, E, _, _, by omega, by omega, by go_num, hT40, hF2, hb41⟩, by simp [intOf]; omega⟩
              | false =>
                simp only [ho] at zp3
                refine wp_region_loud (fun _ => False) [(1, plainL [] (.bool true)), (9, plainL [] (.int .i64 (E).order.length)), (19, plainL [] (.int .i64 N))] (fun _ => Fact.none) (by kernel_rfl) (by kernel_rfl)
                  (.cons (plainL_ok _ _) (.cons (plainL_ok _ _) (.cons (plainL_ok _ _) .nil))) good_nothing sat_none (WX.out ?_)
                repeat (first | (refine wx_quietU (by rfl) (by rfl) (by rfl) (fun K hK => ?_); go_big_quiet_op; refine hK _ ?_; clear hK K) | (refine wx_quietG (by rfl) (by rfl) (by rfl) (by rfl) (by rfl) (fun K hK => ?_); go_big_quiet_op; refine hK _ ?_; clear hK K) | (refine wx_skipG (by rfl) (by rfl) (by rfl) (fun K hK => ?_); go_simp; refine hK _ ?_; clear hK K) | (refine wx_skipN (by rfl) (by rfl) (by rfl) (fun K hK => ?_); go_simp; refine hK _ ?_; clear hK K))
                refine wx_loudU (us := []) (by rfl) (by rfl) (fun S wS hC hS hU => runs_enter (f := 19) (by go_simp <;> rfl) ?_) (fun v hv K hK => ?_)
                · refine (dsk_on w6.heap.size wS (E) d _ (hT3.dk.below hC.below)).mono ?_
                  rintro e w' ⟨rfl, rfl⟩
                  rw [ho]
                  exact ⟨_, rfl, rfl, Kept.refl _ _, trivial⟩
                obtain rfl := hv; (go_simp; refine hK _ ?_; clear hK K)
                repeat (first | (refine wx_quietU (by rfl) (by rfl) (by rfl) (fun K hK => ?_); go_big_quiet_op; refine hK _ ?_; clear hK K) | (refine wx_quietG (by rfl) (by rfl) (by rfl) (by rfl) (by rfl) (fun K hK => ?_); go_big_quiet_op; refine hK _ ?_; clear hK K) | (refine wx_skipG (by rfl) (by rfl) (by rfl) (fun K hK => ?_); go_simp; refine hK _ ?_; clear hK K) | (refine wx_skipN (by rfl) (by rfl) (by rfl) (fun K hK => ?_); go_simp; refine hK _ ?_; clear hK K))
                refine wx_loudG (us := []) (by rfl) (by rfl) (by rfl) (by rfl) (fun S wS hC hS hU => runs_enter (f := 21) (by go_simp <;> rfl) ?_) (fun v hv K hK => ?_)
                · refine (dsk_waits w6.heap.size wS (E) d _ (hT3.dk.below hC.below)).mono ?_
                  rintro e w' ⟨rfl, rfl⟩
                  exact ⟨_, rfl, rfl, Kept.refl _ _, trivial⟩
                obtain rfl := hv; (go_simp; refine hK _ ?_; clear hK K)
                repeat (first | (refine wx_quietU (by rfl) (by rfl) (by rfl) (fun K hK => ?_); go_big_quiet_op; refine hK _ ?_; clear hK K) | (refine wx_quietG (by rfl) (by rfl) (by rfl) (by rfl) (by rfl) (fun K hK => ?_); go_big_quiet_op; refine hK _ ?_; clear hK K) | (refine wx_skipG (by rfl) (by rfl) (by rfl) (fun K hK => ?_); go_simp; refine hK _ ?_; clear hK K) | (refine wx_skipN (by rfl) (by rfl) (by rfl) (fun K hK => ?_); go_simp; refine hK _ ?_; clear hK K))
                refine wx_loudG (us := []) (by rfl) (by rfl) (by rfl) (by rfl) (fun S wS hC hS hU => runs_enter (f := 20) (by go_simp <;> rfl) ?_) (fun v hv K hK => ?_)
                · refine (dsk_size w6.heap.size wS (E) d _ (hT3.dk.below hC.below)).mono ?_
                  rintro e w' ⟨rfl, rfl⟩
                  rw [hlE]
                  exact ⟨_, rfl, rfl, Kept.refl _ _, trivial⟩
                obtain rfl := hv; (go_simp; refine hK _ ?_; clear hK K)
                repeat (first | (refine wx_quietU (by rfl) (by rfl) (by rfl) (fun K hK => ?_); go_big_quiet_op; refine hK _ ?_; clear hK K) | (refine wx_quietG (by rfl) (by rfl) (by rfl) (by rfl) (by rfl) (fun K hK => ?_); go_big_quiet_op; refine hK _ ?_; clear hK K) | (refine wx_skipG (by rfl) (by rfl) (by rfl) (fun K hK => ?_); go_simp; refine hK _ ?_; clear hK K) | (refine wx_skipN (by rfl) (by rfl) (by rfl) (fun K hK => ?_); go_simp; refine hK _ ?_; clear hK K))
                refine wx_nil fun w40 hsat => ?_
                have hb40 := sat_below hsat
                clear hsat zp1 zp3 hRk hJ3
                have hT40 := hT3.below hb40
                have hb41 := hb4.trans (hb40.mono hb4.size)
                go_wp2_with fail
                go_light
                exact ⟨⟨k + 1, E, _, _, by omega, by omega, by go_num, hT40, hF2, hb41⟩, by simp [intOf]; omega⟩
          · as_aux_lemma =>
            go_wp2_with (first | (refine wpList_load_mid rfl 41 (.tmp 92) rfl b (off + k * 5) rfl (acC x) _ hcell Try.underlying41 rfl hinf ?_) | (refine wpList_store_new rfl 41 (.tmp 11) (.tmp 93) rfl #[.int .i64 x.what, .int .i64 x.i, .int .u8 (x.b.toNat : Int), .int .i64 x.size, .slice x.K x.nk x.ck] rfl rfl hinf rfl (acA_one x) ?_))
            clear hcell ek hinf
            generalize wr.alloc (.cells #[.int .i64 x.what, .int .i64 x.i, .int .u8 (x.b.toNat : Int), .int .i64 x.size, .slice x.K x.nk x.ck] 41) = wa at *
            generalize wr.heap.size = g at *
            refine (full_any x.b wa).mono ?_
            rintro e w20 ⟨g2, rfl, hgl2, hgl2', ho2, hb2⟩
            have hgl := (Array.getElem?_eq_some_iff.1 hg).1
            have hgl20 : g < w20.heap.size := Nat.lt_of_lt_of_le hgl hb2.size
            have hT2 := hT1.below hb2
            have hb3 := hb1.trans (hb2.mono hb1.size)
            have hg2 := blk_below hg hb2 hgl
            have q1 := (blk_cells hg2).1 1
            have q3 := (blk_cells hg2).1 3
            simp at q1 q3
            have hS1 : ¬ ((False ∨ I g) ∨ J g) := by
              rintro ((h | h) | h)
              · exact h
              · have := hgI g h; omega
              · have := hgJ g h; omega
            have hS2 : ¬ ((False ∨ I g2) ∨ J g2) := by
              rintro ((h | h) | h)
              · exact h
              · have := hgI g2 h; omega
              · have := hgJ g2 h; omega
            have hl0 := own_sl ho2
            clear hT1 hb1 hb2 hg hK1 hg2 ho2 hgI hgJ
            go_wp2_with fail
            · have hl := hl0.take 63 (by omega)
              clear hl0
              have HLL : Hid (((fullL x.b).take 63).length = 63) := hl.len.1
              have st := fun (z : WK (fun b => (False ∨ I b) ∨ J b) w20) => bstr (sl_kept hl (wat_kept z) (fun ad had => by injection had with had; subst had; exact hS2))
              have zq1 := fun (z : WK (fun b => (False ∨ I b) ∨ J b) w20) => (wat_cell (p := ⟨g, 1, none⟩) hgl20 (fun e => hS1 e) z).trans q1
              refine wp_region_loud (fun b => (False ∨ I b) ∨ J b) [(4, factL [100] (fun v => v = .int .i64 (wrE D x.i ((fullL x.b).take 63))) (fun _ => DskF w6.heap.size (wrD D x.i ((fullL x.b).take 63)) d)), (10, factL [101] (fun v => v = .int .i64 (wrE D x.i ((fullL x.b).take 63))) (fun _ => RskF w6.heap.size (wrD D x.i ((fullL x.b).take 63)) p))]
                (addL 101 (RskF w6.heap.size D p) (addL 100 (DskF w6.heap.size D d) (fun _ => Fact.none))) (by kernel_rfl) (by kernel_rfl)
                (.cons (factL_ok ⟨_, rfl⟩ (fun _ => good_dsk _ _ _)) (.cons (factL_ok ⟨_, rfl⟩ (fun _ => good_rsk _ _ _)) .nil))
                (good_add _ (good_rsk _ _ _) (good_add _ (good_dsk _ _ _) good_nothing))
                (sat_add 101 (sat_add 100 sat_none (fun b _ h => h) (fun b hb => (hT2.dk.bd b hb).2) ⟨I, fun b hb => hb, hT2.dk⟩) (fun b h1 h2 => by
                  rcases h2 with h2 | h2
                  · exact h2
                  · exact hT2.dis b h2 h1) (fun b hb => (hT2.rk.bd b hb).2) ⟨J, fun b hb => hb, hT2.rk⟩) (WX.out ?_)
              repeat (first | (refine wx_quietU (by rfl) (by rfl) (by rfl) (fun K hK => ?_); go_big_quiet_op; refine hK _ ?_; clear hK K) | (refine wx_quietG (by rfl) (by rfl) (by rfl) (by rfl) (by rfl) (fun K hK => ?_); go_big_quiet_op; refine hK _ ?_; clear hK K) | (refine wx_skipG (by rfl) (by rfl) (by rfl) (fun K hK => ?_); go_simp; refine hK _ ?_; clear hK K) | (refine wx_skipN (by rfl) (by rfl) (by rfl) (fun K hK => ?_); go_simp; refine hK _ ?_; clear hK K))
              refine wx_loudU (us := [100]) (by rfl) (by rfl) (fun S wS hC hS hU => runs_enter (f := 17) (by go_simp <;> rfl) ?_) (fun v hv K hK => ?_)
              · obtain ⟨I1, hI1, hD1⟩ := (hU 100 (by simp) : DskF w6.heap.size D d S wS)
                have hlS := sl_kept hl hC (fun ad had => by injection had with had; subst had; exact hS2)
                refine (dsk_write w6.heap.size wS D d I1 x.i g2 0 63 64 ((fullL x.b).take 63) hD1 (Nat.le_trans hb3.size hC.size) hlS (by omega) (by have := hF.few; omega) (fun h => by
                  rcases (hS g2 (hI1 g2 h)).1 with h1 | h1
                  · exact hS2 h1
                  · omega)).mono ?_
                rintro e w' ⟨rfl, I2, hD2, ht2⟩
                refine ⟨_, rfl, rfl, ht2.1.wider hI1, I2, fun b hb => ?_, hD2⟩
                rcases ht2.2 b hb with h1 | h1
                · exact .inl (hI1 b h1)
                · exact .inr ⟨h1, (hD2.bd b hb).2⟩
              obtain rfl := hv; (go_simp; refine hK _ ?_; clear hK K)
              repeat (first | (refine wx_quietU (by rfl) (by rfl) (by rfl) (fun K hK => ?_); go_big_quiet_op; refine hK _ ?_; clear hK K) | (refine wx_quietG (by rfl) (by rfl) (by rfl) (by rfl) (by rfl) (fun K hK => ?_); go_big_quiet_op; refine hK _ ?_; clear hK K) | (refine wx_skipG (by rfl) (by rfl) (by rfl) (fun K hK => ?_); go_simp; refine hK _ ?_; clear hK K) | (refine wx_skipN (by rfl) (by rfl) (by rfl) (fun K hK => ?_); go_simp; refine hK _ ?_; clear hK K))
              refine wx_loudU (us := [101]) (by rfl) (by rfl) (fun S wS hC hS hU => runs_enter (f := 26) (by go_simp <;> rfl) ?_) (fun v hv K hK => ?_)
              · obtain ⟨J1, hJ1, hR1⟩ := (hU 101 (by simp) : RskF w6.heap.size D p S wS)
                refine (rsk_write w6.heap.size wS D p J1 x.i ((fullL x.b).take 63) hR1 (Nat.le_trans hb3.size hC.size) (by rw [HLL.out] <;> omega) (by have := hF.few; omega)).mono ?_
                rintro e w' ⟨rfl, J2, hR2, ht2⟩
                refine ⟨_, rfl, rfl, ht2.1.wider hJ1, J2, fun b hb => ?_, hR2⟩
                rcases ht2.2 b hb with h1 | h1
                · exact .inl (hJ1 b h1)
                · exact .inr ⟨h1, (hR2.bd b hb).2⟩
              obtain rfl := hv; (go_simp; refine hK _ ?_; clear hK K)
              repeat (first | (refine wx_quietU (by rfl) (by rfl) (by rfl) (fun K hK => ?_); go_big_quiet_op; refine hK _ ?_; clear hK K) | (refine wx_quietG (by rfl) (by rfl) (by rfl) (by rfl) (by rfl) (fun K hK => ?_); go_big_quiet_op; refine hK _ ?_; clear hK K) | (refine wx_skipG (by rfl) (by rfl) (by rfl) (fun K hK => ?_); go_simp; refine hK _ ?_; clear hK K) | (refine wx_skipN (by rfl) (by rfl) (by rfl) (fun K hK => ?_); go_simp; refine hK _ ?_; clear hK K))
              refine wx_nil fun w21 hsat => ?_
              obtain ⟨S1, S2, hdS, hf1, hf2⟩ := sat_get2 hsat 4 10 (by decide)
              obtain ⟨I2, hI2, hD2⟩ := (hf1 : DskF w6.heap.size (wrD D x.i ((fullL x.b).take 63)) d S1 w21)
              obtain ⟨J2, hJ2, hR2⟩ := (hf2 : RskF w6.heap.size (wrD D x.i ((fullL x.b).take 63)) p S2 w21)
              have hT3 : Two w6.heap.size w21 (wrD D x.i ((fullL x.b).take 63)) d p I2 J2 := ⟨hD2, hR2, fun b h1 h2 => hdS b (hI2 b h1) (hJ2 b h2)⟩
              have hb4 : Below w6.heap.size w6 w21 := hb3.trans (hsat.1.below_of hb3.size (fun b hb => by
                rcases hb with (h | h) | h
                · exact h.elim
                · exact (hT2.dk.bd b h).1
                · exact (hT2.rk.bd b h).1))
              have hF2 := hF.write x.i ((fullL x.b).take 63)
              clear hsat st zq1 hT2 hb3 hl q1 hD2 hR2
              go_wp2_with fail
              generalize wrD D x.i ((fullL x.b).take 63) = E at *
              obtain ⟨As3, cs3, r3, Ao3, co3, hRk, hJ3⟩ := hT3.rk
              have hpl3 := (Array.getElem?_eq_some_iff.1 hRk.blk).1
              have zp1 := fun (z : WK (fun _ => False) w21) => (wat_cell (p := ⟨p, 1, none⟩) hpl3 (fun e => e) z).trans ((blk_cells hRk.blk).1 1)
              have zp3 := fun (z : WK (fun _ => False) w21) => (wat_cell (p := ⟨p, 3, none⟩) hpl3 (fun e => e) z).trans ((blk_cells hRk.blk).1 3)
              simp at zp1 zp3
              have hlE := hF2.len
              cases ho : (E).off with
              | true =>
                simp only [ho] at zp3
                refine wp_region_loud (fun _ => False) [(1, plainL [] (.bool false)), (9, plainL [] (.int .i64 (E).order.length)), (19, plainL [] (.int .i64 N))] (fun _ => Fact.none) (by kernel_rfl) (by kernel_rfl)
                  (.cons (plainL_ok _ _) (.cons (plainL_ok _ _) (.cons (plainL_ok _ _) .nil))) good_nothing sat_none (WX.out ?_)
                repeat (first | (refine wx_quietU (by rfl) (by rfl) (by rfl) (fun K hK => ?_); go_big_quiet_op; refine hK _ ?_; clear hK K) | (refine wx_quietG (by rfl) (by rfl) (by rfl) (by rfl) (by rfl) (fun K hK => ?_); go_big_quiet_op; refine hK _ ?_; clear hK K) | (refine wx_skipG (by rfl) (by rfl) (by rfl) (fun K hK => ?_); go_simp; refine hK _ ?_; clear hK K) | (refine wx_skipN (by rfl) (by rfl) (by rfl) (fun K hK => ?_); go_simp; refine hK _ ?_; clear hK K))
                refine wx_loudU (us := []) (by rfl) (by rfl) (fun S wS hC hS hU => runs_enter (f := 19) (by go_simp <;> rfl) ?_) (fun v hv K hK => ?_)
                · refine (dsk_on w6.heap.size wS (E) d _ (hT3.dk.below hC.below)).mono ?_
                  rintro e w' ⟨rfl, rfl⟩
                  rw [ho]
                  exact ⟨_, rfl, rfl, Kept.refl _ _, trivial⟩
                obtain rfl := hv; (go_simp; refine hK _ ?_; clear hK K)
                repeat (first | (refine wx_quietU (by rfl) (by rfl) (by rfl) (fun K hK => ?_); go_big_quiet_op; refine hK _ ?_; clear hK K) | (refine wx_quietG (by rfl) (by rfl) (by rfl) (by rfl) (by rfl) (fun K hK => ?_); go_big_quiet_op; refine hK _ ?_; clear hK K) | (refine wx_skipG (by rfl) (by rfl) (by rfl) (fun K hK => ?_); go_simp; refine hK _ ?_; clear hK K) | (refine wx_skipN (by rfl) (by rfl) (by rfl) (fun K hK => ?_); go_simp; refine hK _ ?_; clear hK K))
                refine wx_loudG (us := []) (by rfl) (by rfl) (by rfl) (by rfl) (fun S wS hC hS hU => runs_enter (f := 21) (by go_simp <;> rfl) ?_) (fun v hv K hK => ?_)
                · refine (dsk_waits w6.heap.size wS (E) d _ (hT3.dk.below hC.below)).mono ?_
                  rintro e w' ⟨rfl, rfl⟩
                  exact ⟨_, rfl, rfl, Kept.refl _ _, trivial⟩
                obtain rfl := hv; (go_simp; refine hK _ ?_; clear hK K)
                repeat (first | (refine wx_quietU (by rfl) (by rfl) (by rfl) (fun K hK => ?_); go_big_quiet_op; refine hK _ ?_; clear hK K) | (refine wx_quietG (by rfl) (by rfl) (by rfl) (by rfl) (by rfl) (fun K hK => ?_); go_big_quiet_op; refine hK _ ?_; clear hK K) | (refine wx_skipG (by rfl) (by rfl) (by rfl) (fun K hK => ?_); go_simp; refine hK _ ?_; clear hK K) | (refine wx_skipN (by rfl) (by rfl) (by rfl) (fun K hK => ?_); go_simp; refine hK _ ?_; clear hK K))
                refine wx_loudG (us := []) (by rfl) (by rfl) (by rfl) (by rfl) (fun S wS hC hS hU => runs_enter (f := 20) (by go_simp <;> rfl) ?_) (fun v hv K hK => ?_)
                · refine (dsk_size w6.heap.size wS (E) d _ (hT3.dk.below hC.below)).mono ?_
                  rintro e w' ⟨rfl, rfl⟩
                  rw [hlE]
                  exact ⟨_, rfl, rfl, Kept.refl _ _, trivial⟩
                obtain rfl := hv; (go_simp; refine hK _ ?_; clear hK K)
                repeat (first | (refine wx_quietU (by rfl) (by rfl) (by rfl) (fun K hK => ?_); go_big_quiet_op; refine hK _ ?_; clear hK K) | (refine wx_quietG (by rfl) (by rfl) (by rfl) (by rfl) (by rfl) (fun K hK => ?_); go_big_quiet_op; refine hK _ ?_; clear hK K) | (refine wx_skipG (by rfl) (by rfl) (by rfl) (fun K hK => ?_); go_simp; refine hK _ ?_; clear hK K) | (refine wx_skipN (by rfl) (by rfl) (by rfl) (fun K hK => ?_); go_simp; refine hK _ ?_; clear hK K))
                refine wx_nil fun w40 hsat => ?_
                have hb40 := sat_below hsat
                clear hsat zp1 zp3 hRk hJ3
                have hT40 := hT3.below hb40
                have hb41 := hb4.trans (hb40.mono hb4.size)
                go_wp2_with fail
                go_light
                exact ⟨⟨k + 1, E, _, _, by omega, by omega, by go_num, hT40, hF2, hb41⟩, by simp [intOf]; omega⟩
              | false =>
                simp only [ho] at zp3
                refine wp_region_loud (fun _ => False) [(1, plainL [] (.bool true)), (9, plainL [] (.int .i64 (E).order.length)), (19, plainL [] (.int .i64 N))] (fun _ => Fact.none) (by kernel_rfl) (by kernel_rfl)
                  (.cons (plainL_ok _ _) (.cons (plainL_ok _ _) (.cons (plainL_ok _ _) .nil))) good_nothing sat_none (WX.out ?_)
                repeat (first | (refine wx_quietU (by rfl) (by rfl) (by rfl) (fun K hK => ?_); go_big_quiet_op; refine hK _ ?_; clear hK K) | (refine wx_quietG (by rfl) (by rfl) (by rfl) (by rfl) (by rfl) (fun K hK => ?_); go_big_quiet_op; refine hK _ ?_; clear hK K) | (refine wx_skipG (by rfl) (by rfl) (by rfl) (fun K hK => ?_); go_simp; refine hK _ ?_; clear hK K) | (refine wx_skipN (by rfl) (by rfl) (by rfl) (fun K hK => ?_); go_simp; refine hK _ ?_; clear hK K))
                refine wx_loudU (us := []) (by rfl) (by rfl) (fun S wS hC hS hU => runs_enter (f := 19) (by go_simp <;> rfl) ?_) (fun v hv K hK => ?_)
                · refine (dsk_on w6.heap.size wS (E) d _ (hT3.dk.below hC.below)).mono ?_
                  rintro e w' ⟨rfl, rfl⟩
                  rw [ho]
                  exact ⟨_, rfl, rfl, Kept.refl _ _, trivial⟩
                obtain rfl := hv; (go_simp; refine hK _ ?_; clear hK K)
                repeat (first | (refine wx_quietU (by rfl) (by rfl) (by rfl) (fun K hK => ?_); go_big_quiet_op; refine hK _ ?_; clear hK K) | (refine wx_quietG (by rfl) (by rfl) (by rfl) (by rfl) (by rfl) (fun K hK => ?_); go_big_quiet_op; refine hK _ ?_; clear hK K) | (refine wx_skipG (by rfl) (by rfl) (by rfl) (fun K hK => ?_); go_simp; refine hK _ ?_; clear hK K) | (refine wx_skipN (by rfl) (by rfl) (by rfl) (fun K hK => ?_); go_simp; refine hK _ ?_; clear hK K))
                refine wx_loudG (us := []) (by rfl) (by rfl) (by rfl) (by rfl) (fun S wS hC hS hU => runs_enter (f := 21) (by go_simp <;> rfl) ?_) (fun v hv K hK => ?_)
                · refine (dsk_waits w6.heap.size wS (E) d _ (hT3.dk.below hC.below)).mono ?_
                  rintro e w' ⟨rfl, rfl⟩
                  exact ⟨_, rfl, rfl, Kept.refl _ _, trivial⟩
                obtain rfl := hv; (go_simp; refine hK _ ?_; clear hK K)
                repeat (first | (refine wx_quietU (by rfl) (by rfl) (by rfl) (fun K hK => ?_); go_big_quiet_op; refine hK _ ?_; clear hK K) | (refine wx_quietG (by rfl) (by rfl) (by rfl) (by rfl) (by rfl) (fun K hK => ?_); go_big_quiet_op; refine hK _ ?_; clear hK K) | (refine wx_skipG (by rfl) (by rfl) (by rfl) (fun K hK => ?_); go_simp; refine hK _ ?_; clear hK K) | (refine wx_skipN (by rfl) (by rfl) (by rfl) (fun K hK => ?_); go_simp; refine hK _ ?_; clear hK K))
                refine wx_loudG (us := []) (by rfl) (by rfl) (by rfl) (by rfl) (fun S wS hC hS hU => runs_enter (f := 20) (by go_simp <;> rfl) ?_) (fun v hv K hK => ?_)
                · refine (dsk_size w6.heap.size wS (E) d _ (hT3.dk.below hC.below)).mono ?_
                  rintro e w' ⟨rfl, rfl⟩
                  rw [hlE]
                  exact ⟨_, rfl, rfl, Kept.refl _ _, trivial⟩
                obtain rfl := hv; (go_simp; refine hK _ ?_; clear hK K)
                repeat (first | (refine wx_quietU (by rfl) (by rfl) (by rfl) (fun K hK => ?_); go_big_quiet_op; refine hK _ ?_; clear hK K) | (refine wx_quietG (by rfl) (by rfl) (by rfl) (by rfl) (by rfl) (fun K hK => ?_); go_big_quiet_op; refine hK _ ?_; clear hK K) | (refine wx_skipG (by rfl) (by rfl) (by rfl) (fun K hK => ?_); go_simp; refine hK _ ?_; clear hK K) | (refine wx_skipN (by rfl) (by rfl) (by rfl) (fun K hK => ?_); go_simp; refine hK _ ?_; clear hK K))
                refine wx_nil fun w40 hsat => ?_
                have hb40 := sat_below hsat
                clear hsat zp1 zp3 hRk hJ3
                have hT40 := hT3.below hb40
                have hb41 := hb4.trans (hb40.mono hb4.size)
                go_wp2_with fail
                go_light
                exact ⟨⟨k + 1, E, _, _, by omega, by omega, by go_num, hT40, hF2, hb41⟩, by simp [intOf]; omega⟩
            · have hl := hl0
              clear hl0
              have HLL : Hid ((fullL x.b).length = 64) := hl.len.1
              have st := fun (z : WK (fun b => (False ∨ I b) ∨ J b) w20) => bstr (sl_kept hl (wat_kept z) (fun ad had => by injection had with had; subst had; exact hS2))
              have zq1 := fun (z : WK (fun b => (False ∨ I b) ∨ J b) w20) => (wat_cell (p := ⟨g, 1, none⟩) hgl20 (fun e => hS1 e) z).trans q1
              refine wp_region_loud (fun b => (False ∨ I b) ∨ J b) [(4, factL [100] (fun v => v = .int .i64 (wrE D x.i (fullL x.b))) (fun _ => DskF w6.heap.size (wrD D x.i (fullL x.b)) d)), (10, factL [101] (fun v => v = .int .i64 (wrE D x.i (fullL x.b))) (fun _ => RskF w6.heap.size (wrD D x.i (fullL x.b)) p))]
                (addL 101 (RskF w6.heap.size D p) (addL 100 (DskF w6.heap.size D d) (fun _ => Fact.none))) (by kernel_rfl) (by kernel_rfl)
                (.cons (factL_ok ⟨_, rfl⟩ (fun _ => good_dsk _ _ _)) (.cons (factL_ok ⟨_, rfl⟩ (fun _ => good_rsk _ _ _)) .nil))
                (good_add _ (good_rsk _ _ _) (good_add _ (good_dsk _ _ _) good_nothing))
                (sat_add 101 (sat_add 100 sat_none (fun b _ h => h) (fun b hb => (hT2.dk.bd b hb).2) ⟨I, fun b hb => hb, hT2.dk⟩) (fun b h1 h2 => by
                  rcases h2 with h2 | h2
                  · exact h2
                  · exact hT2.dis b h2 h1) (fun b hb => (hT2.rk.bd b hb).2) ⟨J, fun b hb => hb, hT2.rk⟩) (WX.out ?_)
              repeat (first | (refine wx_quietU (by rfl) (by rfl) (by rfl) (fun K hK => ?_); go_big_quiet_op; refine hK _ ?_; clear hK K) | (refine wx_quietG (by rfl) (by rfl) (by rfl) (by rfl) (by rfl) (fun K hK => ?_); go_big_quiet_op; refine hK _ ?_; clear hK K) | (refine wx_skipG (by rfl) (by rfl) (by rfl) (fun K hK => ?_); go_simp; refine hK _ ?_; clear hK K) | (refine wx_skipN (by rfl) (by rfl) (by rfl) (fun K hK => ?_); go_simp; refine hK _ ?_; clear hK K))
              refine wx_loudU (us := [100]) (by rfl) (by rfl) (fun S wS hC hS hU => runs_enter (f := 17) (by go_simp <;> rfl) ?_) (fun v hv K hK => ?_)
              · obtain ⟨I1, hI1, hD1⟩ := (hU 100 (by simp) : DskF w6.heap.size D d S wS)
                have hlS := sl_kept hl hC (fun ad had => by injection had with had; subst had; exact hS2)
                refine (dsk_write w6.heap.size wS D d I1 x.i g2 0 64 64 (fullL x.b) hD1 (Nat.le_trans hb3.size hC.size) hlS (by omega) (by have := hF.few; omega) (fun h => by
                  rcases (hS g2 (hI1 g2 h)).1 with h1 | h1
                  · exact hS2 h1
                  · omega)).mono ?_
                rintro e w' ⟨rfl, I2, hD2, ht2⟩
                refine ⟨_, rfl, rfl, ht2.1.wider hI1, I2, fun b hb => ?_, hD2⟩
                rcases ht2.2 b hb with h1 | h1
                · exact .inl (hI1 b h1)
                · exact .inr ⟨h1, (hD2.bd b hb).2⟩
              obtain rfl := hv; (go_simp; refine hK _ ?_; clear hK K)
              repeat (first | (refine wx_quietU (by rfl) (by rfl) (by rfl) (fun K hK => ?_); go_big_quiet_op; refine hK _ ?_; clear hK K) | (refine wx_quietG (by rfl) (by rfl) (by rfl) (by rfl) (by rfl) (fun K hK => ?_); go_big_quiet_op; refine hK _ ?_; clear hK K) | (refine wx_skipG (by rfl) (by rfl) (by rfl) (fun K hK => ?_); go_simp; refine hK _ ?_; clear hK K) | (refine wx_skipN (by rfl) (by rfl) (by rfl) (fun K hK => ?_); go_simp; refine hK _ ?_; clear hK K))
              refine wx_loudU (us := [101]) (by rfl) (by rfl) (fun S wS hC hS hU => runs_enter (f := 26) (by go_simp <;> rfl) ?_) (fun v hv K hK => ?_)
              · obtain ⟨J1, hJ1, hR1⟩ := (hU 101 (by simp) : RskF w6.heap.size D p S wS)
                refine (rsk_write w6.heap.size wS D p J1 x.i (fullL x.b) hR1 (Nat.le_trans hb3.size hC.size) (by rw [HLL.out] <;> omega) (by have := hF.few; omega)).mono ?_
                rintro e w' ⟨rfl, J2, hR2, ht2⟩
                refine ⟨_, rfl, rfl, ht2.1.wider hJ1, J2, fun b hb => ?_, hR2⟩
                rcases ht2.2 b hb with h1 | h1
                · exact .inl (hJ1 b h1)
                · exact .inr ⟨h1, (hR2.bd b hb).2⟩
              obtain rfl := hv; (go_simp; refine hK _ ?_; clear hK K)
              repeat (first | (refine wx_quietU (by rfl) (by rfl) (by rfl) (fun K hK => ?_); go_big_quiet_op; refine hK _ ?_; clear hK K) | (refine wx_quietG (by rfl) (by rfl) (by rfl) (by rfl) (by rfl) (fun K hK => ?_); go_big_quiet_op; refine hK _ ?_; clear hK K) | (refine wx_skipG (by rfl) (by rfl) (by rfl) (fun K hK => ?_); go_simp; refine hK _ ?_; clear hK K) | (refine wx_skipN (by rfl) (by rfl) (by rfl) (fun K hK => ?_); go_simp; refine hK _ ?_; clear hK K))
              refine wx_nil fun w21 hsat => ?_
              obtain ⟨S1, S2, hdS, hf1, hf2⟩ := sat_get2 hsat 4 10 (by decide)
              obtain ⟨I2, hI2, hD2⟩ := (hf1 : DskF w6.heap.size (wrD D x.i (fullL x.b)) d S1 w21)
              obtain ⟨J2, hJ2, hR2⟩ := (hf2 : RskF w6.heap.size (wrD D x.i (fullL x.b)) p S2 w21)
              have hT3 : Two w6.heap.size w21 (wrD D x.i (fullL x.b)) d p I2 J2 := ⟨hD2, hR2, fun b h1 h2 => hdS b (hI2 b h1) (hJ2 b h2)⟩
              have hb4 : Below w6.heap.size w6 w21 := hb3.trans (hsat.1.below_of hb3.size (fun b hb => by
                rcases hb with (h | h) | h
                · exact h.elim
                · exact (hT2.dk.bd b h).1
                · exact (hT2.rk.bd b h).1))
              have hF2 := hF.write x.i (fullL x.b)
              clear hsat st zq1 hT2 hb3 hl q1 hD2 hR2
              go_wp2_with fail
              generalize wrD D x.i (fullL x.b) = E at *
              obtain ⟨As3, cs3, r3, Ao3, co3, hRk, hJ3⟩ := hT3.rk
              have hpl3 := (Array.getElem?_eq_some_iff.1 hRk.blk).1
              have zp1 := fun (z : WK (fun _ => False) w21) => (wat_cell (p := ⟨p, 1, none⟩) hpl3 (fun e => e) z).trans ((blk_cells hRk.blk).1 1)
              have zp3 := fun (z : WK (fun _ => False) w21) => (wat_cell (p := ⟨p, 3, none⟩) hpl3 (fun e => e) z).trans ((blk_cells hRk.blk).1 3)
              simp at zp1 zp3
              have hlE := hF2.len
              cases ho : (E).off with
              | true =>
                simp only [ho] at zp3
                refine wp_region_loud (fun _ => False) [(1, plainL [] (.bool false)), (9, plainL [] (.int .i64 (E).order.length)), (19, plainL [] (.int .i64 N))] (fun _ => Fact.none) (by kernel_rfl) (by kernel_rfl)
                  (.cons (plainL_ok _ _) (.cons (plainL_ok _ _) (.cons (plainL_ok _ _) .nil))) good_nothing sat_none (WX.out ?_)
                repeat (first | (refine wx_quietU (by rfl) (by rfl) (by rfl) (fun K hK => ?_); go_big_quiet_op; refine hK _ ?_; clear hK K) | (refine wx_quietG (by rfl) (by rfl) (by rfl) (by rfl) (by rfl) (fun K hK => ?_); go_big_quiet_op; refine hK _ ?_; clear hK K) | (refine wx_skipG (by rfl) (by rfl) (by rfl) (fun K hK => ?_); go_simp; refine hK _ ?_; clear hK K) | (refine wx_skipN (by rfl) (by rfl) (by rfl) (fun K hK => ?_); go_simp; refine hK _ ?_; clear hK K))
                refine wx_loudU (us := []) (by rfl) (by rfl) (fun S wS hC hS hU => runs_enter (f := 19) (by go_simp <;> rfl) ?_) (fun v hv K hK => ?_)
                · refine (dsk_on w6.heap.size wS (E) d _ (hT3.dk.below hC.below)).mono ?_
                  rintro e w' ⟨rfl, rfl⟩
                  rw [ho]
                  exact ⟨_, rfl, rfl, Kept.refl _ _, trivial⟩
                obtain rfl := hv; (go_simp; refine hK _ ?_; clear hK K)
                repeat (first | (refine wx_quietU (by rfl) (by rfl) (by rfl) (fun K hK => ?_); go_big_quiet_op; refine hK _ ?_; clear hK K) | (refine wx_quietG (by rfl) (by rfl) (by rfl) (by rfl) (by rfl) (fun K hK => ?_); go_big_quiet_op; refine hK _ ?_; clear hK K) | (refine wx_skipG (by rfl) (by rfl) (by rfl) (fun K hK => ?_); go_simp; refine hK _ ?_; clear hK K) | (refine wx_skipN (by rfl) (by rfl) (by rfl) (fun K hK => ?_); go_simp; refine hK _ ?_; clear hK K))
                refine wx_loudG (us := []) (by rfl) (by rfl) (by rfl) (by rfl) (fun S wS hC hS hU => runs_enter (f := 21) (by go_simp <;> rfl) ?_) (fun v hv K hK => ?_)
                · refine (dsk_waits w6.heap.size wS (E) d _ (hT3.dk.below hC.below)).mono ?_
                  rintro e w' ⟨rfl, rfl⟩
                  exact ⟨_, rfl, rfl, Kept.refl _ _, trivial⟩
                obtain rfl := hv; (go_simp; refine hK _ ?_; clear hK K)
                repeat (first | (refine wx_quietU (by rfl) (by rfl) (by rfl) (fun K hK => ?_); go_big_quiet_op; refine hK _ ?_; clear hK K) | (refine wx_quietG (by rfl) (by rfl) (by rfl) (by rfl) (by rfl) (fun K hK => ?_); go_big_quiet_op; refine hK _ ?_; clear hK K) | (refine wx_skipG (by rfl) (by rfl) (by rfl) (fun K hK => ?_); go_simp; refine hK _ ?_; clear hK K) | (refine wx_skipN (by rfl) (by rfl) (by rfl) (fun K hK => ?_); go_simp; refine hK _ ?_; clear hK K))
                refine wx_loudG (us := []) (by rfl) (by rfl) (by rfl) (by rfl) (fun S wS hC hS hU => runs_enter (f := 20) (by go_simp <;> rfl) ?_) (fun v hv K hK => ?_)
                · refine (dsk_size w6.heap.size wS (E) d _ (hT3.dk.below hC.below)).mono ?_
                  rintro e w' ⟨rfl, rfl⟩
                  rw [hlE]
                  exact ⟨_, rfl, rfl, Kept.refl _ _, trivial⟩
                obtain rfl := hv; (go_simp; refine hK _ ?_; clear hK K)
                repeat (first | (refine wx_quietU (by rfl) (by rfl) (by rfl) (fun K hK => ?_); go_big_quiet_op; refine hK _ ?_; clear hK K) | (refine wx_quietG (by rfl) (by rfl) (by rfl) (by rfl) (by rfl) (fun K hK => ?_); go_big_quiet_op; refine hK _ ?_; clear hK K) | (refine wx_skipG (by rfl) (by rfl) (by rfl) (fun K hK => ?_); go_simp; refine hK _ ?_; clear hK K) | (refine wx_skipN (by rfl) (by rfl) (by rfl) (fun K hK => ?_); go_simp; refine hK _ ?_; clear hK K))
                refine wx_nil fun w40 hsat => ?_
                have hb40 := sat_below hsat
                clear hsat zp1 zp3 hRk hJ3
                have hT40 := hT3.below hb40
                have hb41 := hb4.trans (hb40.mono hb4.size)
                go_wp2_with fail
                go_light
                exact ⟨⟨k + 1, E, _, _, by omega, by omega, by go_num, hT40, hF2, hb41⟩, by simp [intOf]; omega⟩
              | false =>
                simp only [ho] at zp3
                refine wp_region_loud (fun _ => False) [(1, plainL [] (.bool true)), (9, plainL [] (.int .i64 (E).order.length)), (19, plainL [] (.int .i64 N))] (fun _ => Fact.none) (by kernel_rfl) (by kernel_rfl)
                  (.cons (plainL_ok _ _) (.cons (plainL_ok _ _) (.cons (plainL_ok _ _) .nil))) good_nothing sat_none (WX.out ?_)
                repeat (first | (refine wx_quietU (by rfl) (by rfl) (by rfl) (fun K hK => ?_); go_big_quiet_op; refine hK _ ?_; clear hK K) | (refine wx_quietG (by rfl) (by rfl) (by rfl) (by rfl) (by rfl) (fun K hK => ?_); go_big_quiet_op; refine hK _ ?_; clear hK K) | (refine wx_skipG (by rfl) (by rfl) (by rfl) (fun K hK => ?_); go_simp; refine hK _ ?_; clear hK K) | (refine wx_skipN (by rfl) (by rfl) (by rfl) (fun K hK => ?_); go_simp; refine hK _ ?_; clear hK K))
                refine wx_loudU (us := []) (by rfl) (by rfl) (fun S wS hC hS hU => runs_enter (f := 19) (by go_simp <;> rfl) ?_) (fun v hv K hK => ?_)
                · refine (dsk_on w6.heap.size wS (E) d _ (hT3.dk.below hC.below)).mono ?_
                  rintro e w' ⟨rfl, rfl⟩
                  rw [ho]
                  exact ⟨_, rfl, rfl, Kept.refl _ _, trivial⟩
                obtain rfl := hv; (go_simp; refine hK _ ?_; clear hK K)
                repeat (first | (refine wx_quietU (by rfl) (by rfl) (by rfl) (fun K hK => ?_); go_big_quiet_op; refine hK _ ?_; clear hK K) | (refine wx_quietG (by rfl) (by rfl) (by rfl) (by rfl) (by rfl) (fun K hK => ?_); go_big_quiet_op; refine hK _ ?_; clear hK K) | (refine wx_skipG (by rfl) (by rfl) (by rfl) (fun K hK => ?_); go_simp; refine hK _ ?_; clear hK K) | (refine wx_skipN (by rfl) (by rfl) (by rfl) (fun K hK => ?_); go_simp; refine hK _ ?_; clear hK K))
                refine wx_loudG (us := []) (by rfl) (by rfl) (by rfl) (by rfl) (fun S wS hC hS hU => runs_enter (f := 21) (by go_simp <;> rfl) ?_) (fun v hv K hK => ?_)
                · refine (dsk_waits w6.heap.size wS (E) d _ (hT3.dk.below hC.below)).mono ?_
                  rintro e w' ⟨rfl, rfl⟩
                  exact ⟨_, rfl, rfl, Kept.refl _ _, trivial⟩
                obtain rfl := hv; (go_simp; refine hK _ ?_; clear hK K)
                repeat (first | (refine wx_quietU (by rfl) (by rfl) (by rfl) (fun K hK => ?_); go_big_quiet_op; refine hK _ ?_; clear hK K) | (refine wx_quietG (by rfl) (by rfl) (by rfl) (by rfl) (by rfl) (fun K hK => ?_); go_big_quiet_op; refine hK _ ?_; clear hK K) | (refine wx_skipG (by rfl) (by rfl) (by rfl) (fun K hK => ?_); go_simp; refine hK _ ?_; clear hK K) | (refine wx_skipN (by rfl) (by rfl) (by rfl) (fun K hK => ?_); go_simp; refine hK _ ?_; clear hK K))
                refine wx_loudG (us := []) (by rfl) (by rfl) (by rfl) (by rfl) (fun S wS hC hS hU => runs_enter (f := 20) (by go_simp <;> rfl) ?_) (fun v hv K hK => ?_)
                · refine (dsk_size w6.heap.size wS (E) d _ (hT3.dk.below hC.below)).mono ?_
                  rintro e w' ⟨rfl, rfl⟩
                  rw [hlE]
                  exact ⟨_, rfl, rfl, Kept.refl _ _, trivial⟩
                obtain rfl := hv; (go_simp; refine hK _ ?_; clear hK K)
                repeat (first | (refine wx_quietU (by rfl) (by rfl) (by rfl) (fun K hK => ?_); go_big_quiet_op; refine hK _ ?_; clear hK K) | (refine wx_quietG (by rfl) (by rfl) (by rfl) (by rfl) (by rfl) (fun K hK => ?_); go_big_quiet_op; refine hK _ ?_; clear hK K) | (refine wx_skipG (by rfl) (by rfl) (by rfl) (fun K hK => ?_); go_simp; refine hK _ ?_; clear hK K) | (refine wx_skipN (by rfl) (by rfl) (by rfl) (fun K hK => ?_); go_simp; refine hK _ ?_; clear hK K))
                refine wx_nil fun w40 hsat => ?_
                have hb40 := sat_below hsat
                clear hsat zp1 zp3 hRk hJ3
                have hT40 := hT3.below hb40
                have hb41 := hb4.trans (hb40.mono hb4.size)
                go_wp2_with fail
                go_light
                exact ⟨⟨k + 1, E, _, _, by omega, by omega, by go_num, hT40, hF2, hb41⟩, by simp [intOf]; omega⟩
          · as_aux_lemma =>
            go_wp2_with (first | (refine wpList_load_mid rfl 41 (.tmp 92) rfl b (off + k * 5) rfl (acC x) _ hcell Try.underlying41 rfl hinf ?_) | (refine wpList_store_new rfl 41 (.tmp 11) (.tmp 93) rfl #[.int .i64 x.what, .int .i64 x.i, .int .u8 (x.b.toNat : Int), .int .i64 x.size, .slice x.K x.nk x.ck] rfl rfl hinf rfl (acA_one x) ?_))
            clear hcell ek hinf
            generalize wr.alloc (.cells #[.int .i64 x.what, .int .i64 x.i, .int .u8 (x.b.toNat : Int), .int .i64 x.size, .slice x.K x.nk x.ck] 41) = wa at *
            generalize wr.heap.size = g at *
            refine (full_any x.b wa).mono ?_
            rintro e w20 ⟨g2, rfl, hgl2, hgl2', ho2, hb2⟩
            have hgl := (Array.getElem?_eq_some_iff.1 hg).1
            have hgl20 : g < w20.heap.size := Nat.lt_of_lt_of_le hgl hb2.size
            have hT2 := hT1.below hb2
            have hb3 := hb1.trans (hb2.mono hb1.size)
            have hg2 := blk_below hg hb2 hgl
            have q1 := (blk_cells hg2).1 1
            have q3 := (blk_cells hg2).1 3
            simp at q1 q3
            have hS1 : ¬ ((False ∨ I g) ∨ J g) := by
              rintro ((h | h) | h)
              · exact h
              · have := hgI g h; omega
              · have := hgJ g h; omega
            have hS2 : ¬ ((False ∨ I g2) ∨ J g2) := by
              rintro ((h | h) | h)
              · exact h
              · have := hgI g2 h; omega
              · have := hgJ g2 h; omega
            have hl0 := own_sl ho2
            clear hT1 hb1 hb2 hg hK1 hg2 ho2 hgI hgJ
            go_wp2_with fail
            · have hl := hl0.take 63 (by omega)
              clear hl0
              have HLL : Hid (((fullL x.b).take 63).length = 63) := hl.len.1
              have st := fun (z : WK (fun b => (False ∨ I b) ∨ J b) w20) => bstr (sl_kept hl (wat_kept z) (fun ad had => by injection had with had; subst had; exact hS2))
              have zq1 := fun (z : WK (fun b => (False ∨ I b) ∨ J b) w20) => (wat_cell (p := ⟨g, 1, none⟩) hgl20 (fun e => hS1 e) z).trans q1
              refine wp_region_loud (fun b => (False ∨ I b) ∨ J b) [(4, factL [100] (fun v => v = .int .i64 (wrE D x.i ((fullL x.b).take 63))) (fun _ => DskF w6.heap.size (wrD D x.i ((fullL x.b).take 63)) d)), (10, factL [101] (fun v => v = .int .i64 (wrE D x.i ((fullL x.b).take 63))) (fun _ => RskF w6.heap.size (wrD D x.i ((fullL x.b).take 63)) p))]
                (addL 101 (RskF w6.heap.size D p) (addL 100 (DskF w6.heap.size D d) (fun _ => Fact.none))) (by kernel_rfl) (by kernel_rfl)
                (.cons (factL_ok ⟨_, rfl⟩ (fun _ => good_dsk _ _ _)) (.cons (factL_ok ⟨_, rfl⟩ (fun _ => good_rsk _ _ _)) .nil))
                (good_add _ (good_rsk _ _ _) (good_add _ (good_dsk _ _ _) good_nothing))
                (sat_add 101 (sat_add 100 sat_none (fun b _ h => h) (fun b hb => (hT2.dk.bd b hb).2) ⟨I, fun b hb => hb, hT2.dk⟩) (fun b h1 h2 => by
                  rcases h2 with h2 | h2
                  · exact h2
                  · exact hT2.dis b h2 h1) (fun b hb => (hT2.rk.bd b hb).2) ⟨J, fun b hb => hb, hT2.rk⟩) (WX.out ?_)
              repeat (first | (refine wx_quietU (by rfl) (by rfl) (by rfl) (fun K hK => ?_); go_big_quiet_op; refine hK _ ?_; clear hK K) | (refine wx_quietG (by rfl) (by rfl) (by rfl) (by rfl) (by rfl) (fun K hK => ?_); go_big_quiet_op; refine hK _ ?_; clear hK K) | (refine wx_skipG (by rfl) (by rfl) (by rfl) (fun K hK => ?_); go_simp; refine hK _ ?_; clear hK K) | (refine wx_skipN (by rfl) (by rfl) (by rfl) (fun K hK => ?_); go_simp; refine hK _ ?_; clear hK K))
              refine wx_loudU (us := [100]) (by rfl) (by rfl) (fun S wS hC hS hU => runs_enter (f := 17) (by go_simp <;> rfl) ?_) (fun v hv K hK => ?_)
              · obtain ⟨I1, hI1, hD1⟩ := (hU 100 (by simp) : DskF w6.heap.size D d S wS)
                have hlS := sl_kept hl hC (fun ad had => by injection had with had; subst had; exact hS2)
                refine (dsk_write w6.heap.size wS D d I1 x.i g2 0 63 64 ((fullL x.b).take 63) hD1 (Nat.le_trans hb3.size hC.size) hlS (by omega) (by have := hF.few; omega) (fun h => by
                  rcases (hS g2 (hI1 g2 h)).1 with h1 | h1
                  · exact hS2 h1
                  · omega)).mono ?_
                rintro e w' ⟨rfl, I2, hD2, ht2⟩
                refine ⟨_, rfl, rfl, ht2.1.wider hI1, I2, fun b hb => ?_, hD2⟩
                rcases ht2.2 b hb with h1 | h1
                · exact .inl (hI1 b h1)
                · exact .inr ⟨h1, (hD2.bd b hb).2⟩
              obtain rfl := hv; (go_simp; refine hK _ ?_; clear hK K)
              repeat (first | (refine wx_quietU (by rfl) (by rfl) (by rfl) (fun K hK => ?_); go_big_quiet_op; refine hK _ ?_; clear hK K) | (refine wx_quietG (by rfl) (by rfl) (by rfl) (by rfl) (by rfl) (fun K hK => ?_); go_big_quiet_op; refine hK _ ?_; clear hK K) | (refine wx_skipG (by rfl) (by rfl) (by rfl) (fun K hK => ?_); go_simp; refine hK _ ?_; clear hK K) | (refine wx_skipN (by rfl) (by rfl) (by rfl) (fun K hK => ?_); go_simp; refine hK _ ?_; clear hK K))
              refine wx_loudU (us := [101]) (by rfl) (by rfl) (fun S wS hC hS hU => runs_enter (f := 26) (by go_simp <;> rfl) ?_) (fun v hv K hK => ?_)
              · obtain ⟨J1, hJ1, hR1⟩ := (hU 101 (by simp) : RskF w6.heap.size D p S wS)
                refine (rsk_write w6.heap.size wS D p J1 x.i ((fullL x.b).take 63) hR1 (Nat.le_trans hb3.size hC.size) (by rw [HLL.out] <;> omega) (by have := hF.few; omega)).mono ?_
                rintro e w' ⟨rfl, J2, hR2, ht2⟩
                refine ⟨_, rfl, rfl, ht2.1.wider hJ1, J2, fun b hb => ?_, hR2⟩
                rcases ht2.2 b hb with h1 | h1
                · exact .inl (hJ1 b h1)
                · exact .inr ⟨h1, (hR2.bd b hb).2⟩
              obtain rfl := hv; (go_simp; refine hK _ ?_; clear hK K)
              repeat (first | (refine wx_quietU (by rfl) (by rfl) (by rfl) (fun K hK => ?_); go_big_quiet_op; refine hK _ ?_; clear hK K) | (refine wx_quietG (by rfl) (by rfl) (by rfl) (by rfl) (by rfl) (fun K hK => ?_); go_big_quiet_op; refine hK _ ?_; clear hK K) | (refine wx_skipG (by rfl) (by rfl) (by rfl) (fun K hK => ?_); go_simp; refine hK _ ?_; clear hK K) | (refine wx_skipN (by rfl) (by rfl) (by rfl) (fun K hK => ?_); go_simp; refine hK _ ?_; clear hK K))
              refine wx_nil fun w21 hsat => ?_
              obtain ⟨S1, S2, hdS, hf1, hf2⟩ := sat_get2 hsat 4 10 (by decide)
              obtain ⟨I2, hI2, hD2⟩ := (hf1 : DskF w6.heap.size (wrD D x.i ((fullL x.b).take 63)) d S1 w21)
              obtain ⟨J2, hJ2, hR2⟩ := (hf2 : RskF w6.heap.size (wrD D x.i ((fullL x.b).take 63)) p S2 w21)
              have hT3 : Two w6.heap.size w21 (wrD D x.i ((fullL x.b).take 63)) d p I2 J2 := ⟨hD2, hR2, fun b h1 h2 => hdS b (hI2 b h1) (hJ2 b h2)⟩
              have hb4 : Below w6.heap.size w6 w21 := hb3.trans (hsat.1.below_of hb3.size (fun b hb => by
                rcases hb with (h | h) | h
                · exact h.elim
                · exact (hT2.dk.bd b h).1
                · exact (hT2.rk.bd b h).1))
              have hF2 := hF.write x.i ((fullL x.b).take 63)
              clear hsat st zq1 hT2 hb3 hl q1 hD2 hR2
              go_wp2_with fail
              generalize wrD D x.i ((fullL x.b).take 63) = E at *
              obtain ⟨As3, cs3, r3, Ao3, co3, hRk, hJ3⟩ := hT3.rk
              have hpl3 := (Array.getElem?_eq_some_iff.1 hRk.blk).1
              have zp1 := fun (z : WK (fun _ => False) w21) => (wat_cell (p := ⟨p, 1, none⟩) hpl3 (fun e => e) z).trans ((blk_cells hRk.blk).1 1)
              have zp3 := fun (z : WK (fun _ => False) w21) => (wat_cell (p := ⟨p, 3, none⟩) hpl3 (fun e => e) z).trans ((blk_cells hRk.blk).1 3)
              simp at zp1 zp3
              have hlE := hF2.len
              cases ho : (E).off with
              | true =>
                simp only [ho] at zp3
                refine wp_region_loud (fun _ => False) [(1, plainL [] (.bool false)), (9, plainL [] (.int .i64 (E).order.length)), (19, plainL [] (.int .i64 N))] (fun _ => Fact.none) (by kernel_rfl) (by kernel_rfl)
                  (.cons (plainL_ok _ _) (.cons (plainL_ok _ _) (.cons (plainL_ok _ _) .nil))) good_nothing sat_none (WX.out ?_)
                repeat (first | (refine wx_quietU (by rfl) (by rfl) (by rfl) (fun K hK => ?_); go_big_quiet_op; refine hK _ ?_; clear hK K) | (refine wx_quietG (by rfl) (by rfl) (by rfl) (by rfl) (by rfl) (fun K hK => ?_); go_big_quiet_op; refine hK _ ?_; clear hK K) | (refine wx_skipG (by rfl) (by rfl) (by rfl) (fun K hK => ?_); go_simp; refine hK _ ?_; clear hK K) | (refine wx_skipN (by rfl) (by rfl) (by rfl) (fun K hK => ?_); go_simp; refine hK _ ?_; clear hK K))
                refine wx_loudU (us := []) (by rfl) (by rfl) (fun S wS hC hS hU => runs_enter (f := 19) (by go_simp <;> rfl) ?_) (fun v hv K hK => ?_)
                · refine (dsk_on w6.heap.size wS (E) d _ (hT3.dk.below hC.below)).mono ?_
                  rintro e w' ⟨rfl, rfl⟩
                  rw [ho]
                  exact ⟨_, rfl, rfl, Kept.refl _ _, trivial⟩
                obtain rfl := hv; (go_simp; refine hK _ ?_; clear hK K)
                repeat (first | (refine wx_quietU (by rfl) (by rfl) (by rfl) (fun K hK => ?_); go_big_quiet_op; refine hK _ ?_; clear hK K) | (refine wx_quietG (by rfl) (by rfl) (by rfl) (by rfl) (by rfl) (fun K hK => ?_); go_big_quiet_op; refine hK _ ?_; clear hK K) | (refine wx_skipG (by rfl) (by rfl) (by rfl) (fun K hK => ?_); go_simp; refine hK _ ?_; clear hK K) | (refine wx_skipN (by rfl) (by rfl) (by rfl) (fun K hK => ?_); go_simp; refine hK _ ?_; clear hK K))
                refine wx_loudG (us := []) (by rfl) (by rfl) (by rfl) (by rfl) (fun S wS hC hS hU => runs_enter (f := 21) (by go_simp <;> rfl) ?_) (fun v hv K hK => ?_)
                · refine (dsk_waits w6.heap.size wS (E) d _ (hT3.dk.below hC.below)).mono ?_
                  rintro e w' ⟨rfl, rfl⟩
                  exact ⟨_, rfl, rfl, Kept.refl _ _, trivial⟩
                obtain rfl := hv; (go_simp; refine hK _ ?_; clear hK K)
                repeat (first | (refine wx_quietU (by rfl) (by rfl) (by rfl) (fun K hK => ?_); go_big_quiet_op; refine hK _ ?_; clear hK K) | (refine wx_quietG (by rfl) (by rfl) (by rfl) (by rfl) (by rfl) (fun K hK => ?_); go_big_quiet_op; refine hK _ ?_; clear hK K) | (refine wx_skipG (by rfl) (by rfl) (by rfl) (fun K hK => ?_); go_simp; refine hK _ ?_; clear hK K) | (refine wx_skipN (by rfl) (by rfl) (by rfl) (fun K hK => ?_); go_simp; refine hK _ ?_; clear hK K))
                refine wx_loudG (us := []) (by rfl) (by rfl) (by rfl) (by rfl) (fun S wS hC hS hU => runs_enter (f := 20) (by go_simp <;> rfl) ?_) (fun v hv K hK => ?_)
                · refine (dsk_size w6.heap.size wS (E) d _ (hT3.dk.below hC.below)).mono ?_
                  rintro e w' ⟨rfl, rfl⟩
                  rw [hlE]
                  exact ⟨_, rfl, rfl, Kept.refl _ _, trivial⟩
                obtain rfl := hv; (go_simp; refine hK _ ?_; clear hK K)
                repeat (first | (refine wx_quietU (by rfl) (by rfl) (by rfl) (fun K hK => ?_); go_big_quiet_op; refine hK _ ?_; clear hK K) | (refine wx_quietG (by rfl) (by rfl) (by rfl) (by rfl) (by rfl) (fun K hK => ?_); go_big_quiet_op; refine hK _ ?_; clear hK K) | (refine wx_skipG (by rfl) (by rfl) (by rfl) (fun K hK => ?_); go_simp; refine hK _ ?_; clear hK K) | (refine wx_skipN (by rfl) (by rfl) (by rfl) (fun K hK => ?_); go_simp; refine hK _ ?_; clear hK K))
                refine wx_nil fun w40 hsat => ?_
                have hb40 := sat_below hsat
                clear hsat zp1 zp3 hRk hJ3
                have hT40 := hT3.below hb40
                have hb41 := hb4.trans (hb40.mono hb4.size)
                go_wp2_with fail
                go_light
                exact ⟨⟨k + 1, E, _, _, by omega, by omega, by go_num, hT40, hF2, hb41⟩, by simp [intOf]; omega⟩
              | false =>
                simp only [ho] at zp3
                refine wp_region_loud (fun _ => False) [(1, plainL [] (.bool true)), (9, plainL [] (.int .i64 (E).order.length)), (19, plainL [] (.int .i64 N))] (fun _ => Fact.none) (by kernel_rfl) (by kernel_rfl)
                  (.cons (plainL_ok _ _) (.cons (plainL_ok _ _) (.cons (plainL_ok _ _) .nil))) good_nothing sat_none (WX.out ?_)
                repeat (first | (refine wx_quietU (by rfl) (by rfl) (by rfl) (fun K hK => ?_); go_big_quiet_op; refine hK _ ?_; clear hK K) | (refine wx_quietG (by rfl) (by rfl) (by rfl) (by rfl) (by rfl) (fun K hK => ?_); go_big_quiet_op; refine hK _ ?_; clear hK K) | (refine wx_skipG (by rfl) (by rfl) (by rfl) (fun K hK => ?_); go_simp; refine hK _ ?_; clear hK K) | (refine wx_skipN (by rfl) (by rfl) (by rfl) (fun K hK => ?_); go_simp; refine hK _ ?_; clear hK K))
                refine wx_loudU (us := []) (by rfl) (by rfl) (fun S wS hC hS hU => runs_enter (f := 19) (by go_simp <;> rfl) ?_) (fun v hv K hK => ?_)
                · refine (dsk_on w6.heap.size wS (E) d _ (hT3.dk.below hC.below)).mono ?_
                  rintro e w' ⟨rfl, rfl⟩
                  rw [ho]
                  exact ⟨_, rfl, rfl, Kept.refl _ _, trivial⟩
                obtain rfl := hv; (go_simp; refine hK _ ?_; clear hK K)
                repeat (first | (refine wx_quietU (by rfl) (by rfl) (by rfl) (fun K hK => ?_); go_big_quiet_op; refine hK _ ?_; clear hK K) | (refine wx_quietG (by rfl) (by rfl) (by rfl) (by rfl) (by rfl) (fun K hK => ?_); go_big_quiet_op; refine hK _ ?_; clear hK K) | (refine wx_skipG (by rfl) (by rfl) (by rfl) (fun K hK => ?_); go_simp; refine hK _ ?_; clear hK K) | (refine wx_skipN (by rfl) (by rfl) (by rfl) (fun K hK => ?_); go_simp; refine hK _ ?_; clear hK K))
                refine wx_loudG (us := []) (by rfl) (by rfl) (by rfl) (by rfl) (fun S wS hC hS hU => runs_enter (f := 21) (by go_simp <;> rfl) ?_) (fun v hv K hK => ?_)
                · refine (dsk_waits w6.heap.size wS (E) d _ (hT3.dk.below hC.below)).mono ?_
                  rintro e w' ⟨rfl, rfl⟩
                  exact ⟨_, rfl, rfl, Kept.refl _ _, trivial⟩
                obtain rfl := hv; (go_simp; refine hK _ ?_; clear hK K)
                repeat (first | (refine wx_quietU (by rfl) (by rfl) (by rfl) (fun K hK => ?_); go_big_quiet_op; refine hK _ ?_; clear hK K) | (refine wx_quietG (by rfl) (by rfl) (by rfl) (by rfl) (by rfl) (fun K hK => ?_); go_big_quiet_op; refine hK _ ?_; clear hK K) | (refine wx_skipG (by rfl) (by rfl) (by rfl) (fun K hK => ?_); go_simp; refine hK _ ?_; clear hK K) | (refine wx_skipN (by rfl) (by rfl) (by rfl) (fun K hK => ?_); go_simp; refine hK _ ?_; clear hK K))
                refine wx_loudG (us := []) (by rfl) (by rfl) (by rfl) (by rfl) (fun S wS hC hS hU => runs_enter (f := 20) (by go_simp <;> rfl) ?_) (fun v hv K hK => ?_)
                · refine (dsk_size w6.heap.size wS (E) d _ (hT3.dk.below hC.below)).mono ?_
                  rintro e w' ⟨rfl, rfl⟩
                  rw [hlE]
                  exact ⟨_, rfl, rfl, Kept.refl _ _, trivial⟩
                obtain rfl := hv; (go_simp; refine hK _ ?_; clear hK K)
                repeat (first | (refine wx_quietU (by rfl) (by rfl) (by rfl) (fun K hK => ?_); go_big_quiet_op; refine hK _ ?_; clear hK K) | (refine wx_quietG (by rfl) (by rfl) (by rfl) (by rfl) (by rfl) (fun K hK => ?_); go_big_quiet_op; refine hK _ ?_; clear hK K) | (refine wx_skipG (by rfl) (by rfl) (by rfl) (fun K hK => ?_); go_simp; refine hK _ ?_; clear hK K) | (refine wx_skipN (by rfl) (by rfl) (by rfl) (fun K hK => ?_); go_simp; refine hK _ ?_; clear hK K))
                refine wx_nil fun w40 hsat => ?_
                have hb40 := sat_below hsat
                clear hsat zp1 zp3 hRk hJ3
                have hT40 := hT3.below hb40
                have hb41 := hb4.trans (hb40.mono hb4.size)
                go_wp2_with fail
                go_light
                exact ⟨⟨k + 1, E, _, _, by omega, by omega, by go_num, hT40, hF2, hb41⟩, by simp [intOf]; omega⟩
            · have hl := hl0
              clear hl0
              have HLL : Hid ((fullL x.b).length = 64) := hl.len.1
              have st := fun (z : WK (fun b => (False ∨ I b) ∨ J b) w20) => bstr (sl_kept hl (wat_kept z) (fun ad had => by injection had with had; subst had; exact hS2))
              have zq1 := fun (z : WK (fun b => (False ∨ I b) ∨ J b) w20) => (wat_cell (p := ⟨g, 1, none⟩) hgl20 (fun e => hS1 e) z).trans q1
              refine wp_region_loud (fun b => (False ∨ I b) ∨ J b) [(4, factL [100] (fun v => v = .int .i64 (wrE D x.i (fullL x.b))) (fun _ => DskF w6.heap.size (wrD D x.i (fullL x.b)) d)), (10, factL [101] (fun v => v = .int .i64 (wrE D x.i (fullL x.b))) (fun _ => RskF w6.heap.size (wrD D x.i (fullL x.b)) p))]
                (addL 101 (RskF w6.heap.size D p) (addL 100 (DskF w6.heap.size D d) (fun _ => Fact.none))) (by kernel_rfl) (by kernel_rfl)
                (.cons (factL_ok ⟨_, rfl⟩ (fun _ => good_dsk _ _ _)) (.cons (factL_ok ⟨_, rfl⟩ (fun _ => good_rsk _ _ _)) .nil))
                (good_add _ (good_rsk _ _ _) (good_add _ (good_dsk _ _ _) good_nothing))
                (sat_add 101 (sat_add 100 sat_none (fun b _ h => h) (fun b hb => (hT2.dk.bd b hb).2) ⟨I, fun b hb => hb, hT2.dk⟩) (fun b h1 h2 => by
                  rcases h2 with h2 | h2
                  · exact h2
                  · exact hT2.dis b h2 h1) (fun b hb => (hT2.rk.bd b hb).2) ⟨J, fun b hb => hb, hT2.rk⟩) (WX.out ?_)
              repeat (first | (refine wx_quietU (by rfl) (by rfl) (by rfl) (fun K hK => ?_); go_big_quiet_op; refine hK _ ?_; clear hK K) | (refine wx_quietG (by rfl) (by rfl) (by rfl) (by rfl) (by rfl) (fun K hK => ?_); go_big_quiet_op; refine hK _ ?_; clear hK K) | (refine wx_skipG (by rfl) (by rfl) (by rfl) (fun K hK => ?_); go_simp; refine hK _ ?_; clear hK K) | (refine wx_skipN (by rfl) (by rfl) (by rfl) (fun K hK => ?_); go_simp; refine hK _ ?_; clear hK K))
              refine wx_loudU (us := [100]) (by rfl) (by rfl) (fun S wS hC hS hU => runs_enter (f := 17) (by go_simp <;> rfl) ?_) (fun v hv K hK => ?_)
              · obtain ⟨I1, hI1, hD1⟩ := (hU 100 (by simp) : DskF w6.heap.size D d S wS)
                have hlS := sl_kept hl hC (fun ad had => by injection had with had; subst had; exact hS2)
                refine (dsk_write w6.heap.size wS D d I1 x.i g2 0 64 64 (fullL x.b) hD1 (Nat.le_trans hb3.size hC.size) hlS (by omega) (by have := hF.few; omega) (fun h => by
                  rcases (hS g2 (hI1 g2 h)).1 with h1 | h1
                  · exact hS2 h1
                  · omega)).mono ?_
                rintro e w' ⟨rfl, I2, hD2, ht2⟩
                refine ⟨_, rfl, rfl, ht2.1.wider hI1, I2, fun b hb => ?_, hD2⟩
                rcases ht2.2 b hb with h1 | h1
                · exact .inl (hI1 b h1)
                · exact .inr ⟨h1, (hD2.bd b hb).2⟩
              obtain rfl := hv; (go_simp; refine hK _ ?_; clear hK K)
              repeat (first | (refine wx_quietU (by rfl) (by rfl) (by rfl) (fun K hK => ?_); go_big_quiet_op; refine hK _ ?_; clear hK K) | (refine wx_quietG (by rfl) (by rfl) (by rfl) (by rfl) (by rfl) (fun K hK => ?_); go_big_quiet_op; refine hK _ ?_; clear hK K) | (refine wx_skipG (by rfl) (by rfl) (by rfl) (fun K hK => ?_); go_simp; refine hK _ ?_; clear hK K) | (refine wx_skipN (by rfl) (by rfl) (by rfl) (fun K hK => ?_); go_simp; refine hK _ ?_; clear hK K))
              refine wx_loudU (us := [101]) (by rfl) (by rfl) (fun S wS hC hS hU => runs_enter (f := 26) (by go_simp <;> rfl) ?_) (fun v hv K hK => ?_)
              · obtain ⟨J1, hJ1, hR1⟩ := (hU 101 (by simp) : RskF w6.heap.size D p S wS)
                refine (rsk_write w6.heap.size wS D p J1 x.i (fullL x.b) hR1 (Nat.le_trans hb3.size hC.size) (by rw [HLL.out] <;> omega) (by have := hF.few; omega)).mono ?_
                rintro e w' ⟨rfl, J2, hR2, ht2⟩
                refine ⟨_, rfl, rfl, ht2.1.wider hJ1, J2, fun b hb => ?_, hR2⟩
                rcases ht2.2 b hb with h1 | h1
                · exact .inl (hJ1 b h1)
                · exact .inr ⟨h1, (hR2.bd b hb).2⟩
              obtain rfl := hv; (go_simp; refine hK _ ?_; clear hK K)
              repeat (first | (refine wx_quietU (by rfl) (by rfl) (by rfl) (fun K hK => ?_); go_big_quiet_op; refine hK _ ?_; clear hK K) | (refine wx_quietG (by rfl) (by rfl) (by rfl) (by rfl) (by rfl) (fun K hK => ?_); go_big_quiet_op; refine hK _ ?_; clear hK K) | (refine wx_skipG (by rfl) (by rfl) (by rfl) (fun K hK => ?_); go_simp; refine hK _ ?_; clear hK K) | (refine wx_skipN (by rfl) (by rfl) (by rfl) (fun K hK => ?_); go_simp; refine hK _ ?_; clear hK K))
              refine wx_nil fun w21 hsat => ?_
              obtain ⟨S1, S2, hdS, hf1, hf2⟩ := sat_get2 hsat 4 10 (by decide)
              obtain ⟨I2, hI2, hD2⟩ := (hf1 : DskF w6.heap.size (wrD D x.i (fullL x.b)) d S1 w21)
              obtain ⟨J2, hJ2, hR2⟩ := (hf2 : RskF w6.heap.size (wrD D x.i (fullL x.b)) p S2 w21)
              have hT3 : Two w6.heap.size w21 (wrD D x.i (fullL x.b)) d p I2 J2 := ⟨hD2, hR2, fun b h1 h2 => hdS b (hI2 b h1) (hJ2 b h2)⟩
              have hb4 : Below w6.heap.size w6 w21 := hb3.trans (hsat.1.below_of hb3.size (fun b hb => by
                rcases hb with (h | h) | h
                · exact h.elim
                · exact (hT2.dk.bd b h).1
                · exact (hT2.rk.bd b h).1))
              have hF2 := hF.write x.i (fullL x.b)
              clear hsat st zq1 hT2 hb3 hl q1 hD2 hR2
              go_wp2_with fail
              generalize wrD D x.i (fullL x.b) = E at *
              obtain ⟨As3, cs3, r3, Ao3, co3, hRk, hJ3⟩ := hT3.rk
              have hpl3 := (Array.getElem?_eq_some_iff.1 hRk.blk).1
              have zp1 := fun (z : WK (fun _ => False) w21) => (wat_cell (p := ⟨p, 1, none⟩) hpl3 (fun e => e) z).trans ((blk_cells hRk.blk).1 1)
              have zp3 := fun (z : WK (fun _ => False) w21) => (wat_cell (p := ⟨p, 3, none⟩) hpl3 (fun e => e) z).trans ((blk_cells hRk.blk).1 3)
              simp at zp1 zp3
              have hlE := hF2.len
              cases ho : (E).off with
              | true =>
                simp only [ho] at zp3
                refine wp_region_loud (fun _ => False) [(1, plainL [] (.bool false)), (9, plainL [] (.int .i64 (E).order.length)), (19, plainL [] (.int .i64 N))] (fun _ => Fact.none) (by kernel_rfl) (by kernel_rfl)
                  (.cons (plainL_ok _ _) (.cons (plainL_ok _ _) (.cons (plainL_ok _ _) .nil))) good_nothing sat_none (WX.out ?_)
                repeat (first | (refine wx_quietU (by rfl) (by rfl) (by rfl) (fun K hK => ?_); go_big_quiet_op; refine hK _ ?_; clear hK K) | (refine wx_quietG (by rfl) (by rfl) (by rfl) (by rfl) (by rfl) (fun K hK => ?_); go_big_quiet_op; refine hK _ ?_; clear hK K) | (refine wx_skipG (by rfl) (by rfl) (by rfl) (fun K hK => ?_); go_simp; refine hK _ ?_; clear hK K) | (refine wx_skipN (by rfl) (by rfl) (by rfl) (fun K hK => ?_); go_simp; refine hK _ ?_; clear hK K))
                refine wx_loudU (us := []) (by rfl) (by rfl) (fun S wS hC hS hU => runs_enter (f := 19) (by go_simp <;> rfl) ?_) (fun v hv K hK => ?_)
                · refine (dsk_on w6.heap.size wS (E) d _ (hT3.dk.below hC.below)).mono ?_
                  rintro e w' ⟨rfl, rfl⟩
                  rw [ho]
                  exact ⟨_, rfl, rfl, Kept.refl _ _, trivial⟩
                obtain rfl := hv; (go_simp; refine hK _ ?_; clear hK K)
                repeat (first | (refine wx_quietU (by rfl) (by rfl) (by rfl) (fun K hK => ?_); go_big_quiet_op; refine hK _ ?_; clear hK K) | (refine wx_quietG (by rfl) (by rfl) (by rfl) (by rfl) (by rfl) (fun K hK => ?_); go_big_quiet_op; refine hK _ ?_; clear hK K) | (refine wx_skipG (by rfl) (by rfl) (by rfl) (fun K hK => ?_); go_simp; refine hK _ ?_; clear hK K) | (refine wx_skipN (by rfl) (by rfl) (by rfl) (fun K hK => ?_); go_simp; refine hK _ ?_; clear hK K))
                refine wx_loudG (us := []) (by rfl) (by rfl) (by rfl) (by rfl) (fun S wS hC hS hU => runs_enter (f := 21) (by go_simp <;> rfl) ?_) (fun v hv K hK => ?_)
                · refine (dsk_waits w6.heap.size wS (E) d _ (hT3.dk.below hC.below)).mono ?_
                  rintro e w' ⟨rfl, rfl⟩
                  exact ⟨_, rfl, rfl, Kept.refl _ _, trivial⟩
                obtain rfl := hv; (go_simp; refine hK _ ?_; clear hK K)
                repeat (first | (refine wx_quietU (by rfl) (by rfl) (by rfl) (fun K hK => ?_); go_big_quiet_op; refine hK _ ?_; clear hK K) | (refine wx_quietG (by rfl) (by rfl) (by rfl) (by rfl) (by rfl) (fun K hK => ?_); go_big_quiet_op; refine hK _ ?_; clear hK K) | (refine wx_skipG (by rfl) (by rfl) (by rfl) (fun K hK => ?_); go_simp; refine hK _ ?_; clear hK K) | (refine wx_skipN (by rfl) (by rfl) (by rfl) (fun K hK => ?_); go_simp; refine hK _ ?_; clear hK K))
                refine wx_loudG (us := []) (by rfl) (by rfl) (by rfl) (by rfl) (fun S wS hC hS hU => runs_enter (f := 20) (by go_simp <;> rfl) ?_) (fun v hv K hK => ?_)
                · refine (dsk_size w6.heap.size wS (E) d _ (hT3.dk.below hC.below)).mono ?_
                  rintro e w' ⟨rfl, rfl⟩
                  rw [hlE]
                  exact ⟨_, rfl, rfl, Kept.refl _ _, trivial⟩
                obtain rfl := hv; (go_simp; refine hK _ ?_; clear hK K)
                repeat (first | (refine wx_quietU (by rfl) (by rfl) (by rfl) (fun K hK => ?_); go_big_quiet_op; refine hK _ ?_; clear hK K) | (refine wx_quietG (by rfl) (by rfl) (by rfl) (by rfl) (by rfl) (fun K hK => ?_); go_big_quiet_op; refine hK _ ?_; clear hK K) | (refine wx_skipG (by rfl) (by rfl) (by rfl) (fun K hK => ?_); go_simp; refine hK _ ?_; clear hK K) | (refine wx_skipN (by rfl) (by rfl) (by rfl) (fun K hK => ?_); go_simp; refine hK _ ?_; clear hK K))
                refine wx_nil fun w40 hsat => ?_
                have hb40 := sat_below hsat
                clear hsat zp1 zp3 hRk hJ3
                have hT40 := hT3.below hb40
                have hb41 := hb4.trans (hb40.mono hb4.size)
                go_wp2_with fail
                go_light
                exact ⟨⟨k + 1, E, _, _, by omega, by omega, by go_num, hT40, hF2, hb41⟩, by simp [intOf]; omega⟩
              | false =>
                simp only [ho] at zp3
                refine wp_region_loud (fun _ => False) [(1, plainL [] (.bool true)), (9, plainL [] (.int .i64 (E).order.length)), (19, plainL [] (.int .i64 N))] (fun _ => Fact.none) (by kernel_rfl) (by kernel_rfl)
                  (.cons (plainL_ok _ _) (.cons (plainL_ok _ _) (.cons (plainL_ok _ _) .nil))) good_nothing sat_none (WX.out ?_)
                repeat (first | (refine wx_quietU (by rfl) (by rfl) (by rfl) (fun K hK => ?_); go_big_quiet_op; refine hK _ ?_; clear hK K) | (refine wx_quietG (by rfl) (by rfl) (by rfl) (by rfl) (by rfl) (fun K hK => ?_); go_big_quiet_op; refine hK _ ?_; clear hK K) | (refine wx_skipG (by rfl) (by rfl) (by rfl) (fun K hK => ?_); go_simp; refine hK _ ?_; clear hK K) | (refine wx_skipN (by rfl) (by rfl) (by rfl) (fun K hK => ?_); go_simp; refine hK _ ?_; clear hK K))
                refine wx_loudU (us := []) (by rfl) (by rfl) (fun S wS hC hS hU => runs_enter (f := 19) (by go_simp <;> rfl) ?_) (fun v hv K hK => ?_)
                · refine (dsk_on w6.heap.size wS (E) d _ (hT3.dk.below hC.below)).mono ?_
                  rintro e w' ⟨rfl, rfl⟩
                  rw [ho]
                  exact ⟨_, rfl, rfl, Kept.refl _ _, trivial⟩
                obtain rfl := hv; (go_simp; refine hK _ ?_; clear hK K)
                repeat (first | (refine wx_quietU (by rfl) (by rfl) (by rfl) (fun K hK => ?_); go_big_quiet_op; refine hK _ ?_; clear hK K) | (refine wx_quietG (by rfl) (by rfl) (by rfl) (by rfl) (by rfl) (fun K hK => ?_); go_big_quiet_op; refine hK _ ?_; clear hK K) | (refine wx_skipG (by rfl) (by rfl) (by rfl) (fun K hK => ?_); go_simp; refine hK _ ?_; clear hK K) | (refine wx_skipN (by rfl) (by rfl) (by rfl) (fun K hK => ?_); go_simp; refine hK _ ?_; clear hK K))
                refine wx_loudG (us := []) (by rfl) (by rfl) (by rfl) (by rfl) (fun S wS hC hS hU => runs_enter (f := 21) (by go_simp <;> rfl) ?_) (fun v hv K hK => ?_)
                · refine (dsk_waits w6.heap.size wS (E) d _ (hT3.dk.below hC.below)).mono ?_
                  rintro e w' ⟨rfl, rfl⟩
                  exact ⟨_, rfl, rfl, Kept.refl _ _, trivial⟩
                obtain rfl := hv; (go_simp; refine hK _ ?_; clear hK K)
                repeat (first | (refine wx_quietU (by rfl) (by rfl) (by rfl) (fun K hK => ?_); go_big_quiet_op; refine hK _ ?_; clear hK K) | (refine wx_quietG (by rfl) (by rfl) (by rfl) (by rfl) (by rfl) (fun K hK => ?_); go_big_quiet_op; refine hK _ ?_; clear hK K) | (refine wx_skipG (by rfl) (by rfl) (by rfl) (fun K hK => ?_); go_simp; refine hK _ ?_; clear hK K) | (refine wx_skipN (by rfl) (by rfl) (by rfl) (fun K hK => ?_); go_simp; refine hK _ ?_; clear hK K))
                refine wx_loudG (us := []) (by rfl) (by rfl) (by rfl) (by rfl) (fun S wS hC hS hU => runs_enter (f := 20) (by go_simp <;> rfl) ?_) (fun v hv K hK => ?_)
                · refine (dsk_size w6.heap.size wS (E) d _ (hT3.dk.below hC.below)).mono ?_
                  rintro e w' ⟨rfl, rfl⟩
                  rw [hlE]
                  exact ⟨_, rfl, rfl, Kept.refl _ _, trivial⟩
                obtain rfl := hv; (go_simp; refine hK _ ?_; clear hK K)
                repeat (first | (refine wx_quietU (by rfl) (by rfl) (by rfl) (fun K hK => ?_); go_big_quiet_op; refine hK _ ?_; clear hK K) | (refine wx_quietG (by rfl) (by rfl) (by rfl) (by rfl) (by rfl) (fun K hK => ?_); go_big_quiet_op; refine hK _ ?_; clear hK K) | (refine wx_skipG (by rfl) (by rfl) (by rfl) (fun K hK => ?_); go_simp; refine hK _ ?_; clear hK K) | (refine wx_skipN (by rfl) (by rfl) (by rfl) (fun K hK => ?_); go_simp; refine hK _ ?_; clear hK K))
                refine wx_nil fun w40 hsat => ?_
                have hb40 := sat_below hsat
                clear hsat zp1 zp3 hRk hJ3
                have hT40 := hT3.below hb40
                have hb41 := hb4.trans (hb40.mono hb4.size)
                go_wp2_with fail
                go_light
                exact ⟨⟨k + 1, E, _, _, by omega, by omega, by go_num, hT40, hF2, hb41⟩, by simp [intOf]; omega⟩
          · as_aux_lemma =>
            go_wp2_with (first | (refine wpList_load_mid rfl 41 (.tmp 92) rfl b (off + k * 5) rfl (acC x) _ hcell Try.underlying41 rfl hinf ?_) | (refine wpList_store_new rfl 41 (.tmp 11) (.tmp 93) rfl #[.int .i64 x.what, .int .i64 x.i, .int .u8 (x.b.toNat : Int), .int .i64 x.size, .slice x.K x.nk x.ck] rfl rfl hinf rfl (acA_one x) ?_))
            clear hcell ek hinf
            generalize wr.alloc (.cells #[.int .i64 x.what, .int .i64 x.i, .int .u8 (x.b.toNat : Int), .int .i64 x.size, .slice x.K x.nk x.ck] 41) = wa at *
            generalize wr.heap.size = g at *
            refine (full_any x.b wa).mono ?_
            rintro e w20 ⟨g2, rfl, hgl2, hgl2', ho2, hb2⟩
            have hgl := (Array.getElem?_eq_some_iff.1 hg).1
            have hgl20 : g < w20.heap.size := Nat.lt_of_lt_of_le hgl hb2.size
            have hT2 := hT1.below hb2
            have hb3 := hb1.trans (hb2.mono hb1.size)
            have hg2 := blk_below hg hb2 hgl
            have q1 := (blk_cells hg2).1 1
            have q3 := (blk_cells hg2).1 3
            simp at q1 q3
            have hS1 : ¬ ((False ∨ I g) ∨ J g) := by
              rintro ((h | h) | h)
              · exact h
              · have := hgI g h; omega
              · have := hgJ g h; omega
            have hS2 : ¬ ((False ∨ I g2) ∨ J g2) := by
              rintro ((h | h) | h)
              · exact h
              · have := hgI g2 h; omega
              · have := hgJ g2 h; omega
            have hl0 := own_sl ho2
            clear hT1 hb1 hb2 hg hK1 hg2 ho2 hgI hgJ
            go_wp2_with fail
            · have hl := hl0.take 63 (by omega)
              clear hl0
              have HLL : Hid (((fullL x.b).take 63).length = 63) := hl.len.1
              have st := fun (z : WK (fun b => (False ∨ I b) ∨ J b) w20) => bstr (sl_kept hl (wat_kept z) (fun ad had => by injection had with had; subst had; exact hS2))
              have zq1 := fun (z : WK (fun b => (False ∨ I b) ∨ J b) w20) => (wat_cell (p := ⟨g, 1, none⟩) hgl20 (fun e => hS1 e) z).trans q1
              refine wp_region_loud (fun b => (False ∨ I b) ∨ J b) [(4, factL [100] (fun v => v = .int .i64 (wrE D x.i ((fullL x.b).take 63))) (fun _ => DskF w6.heap.size (wrD D x.i ((fullL x.b).take 63)) d)), (10, factL [101] (fun v => v = .int .i64 (wrE D x.i ((fullL x.b).take 63))) (fun _ => RskF w6.heap.size (wrD D x.i ((fullL x.b).take 63)) p))]
                (addL 101 (RskF w6.heap.size D p) (addL 100 (DskF w6.heap.size D d) (fun _ => Fact.none))) (by kernel_rfl) (by kernel_rfl)
                (.cons (factL_ok ⟨_, rfl⟩ (fun _ => good_dsk _ _ _)) (.cons (factL_ok ⟨_, rfl⟩ (fun _ => good_rsk _ _ _)) .nil))
                (good_add _ (good_rsk _ _ _) (good_add _ (good_dsk _ _ _) good_nothing))
                (sat_add 101 (sat_add 100 sat_none (fun b _ h => h) (fun b hb => (hT2.dk.bd b hb).2) ⟨I, fun b hb => hb, hT2.dk⟩) (fun b h1 h2 => by
                  rcases h2 with h2 | h2
                  · exact h2
                  · exact hT2.dis b h2 h1) (fun b hb => (hT2.rk.bd b hb).2) ⟨J, fun b hb => hb, hT2.rk⟩) (WX.out ?_)
              repeat (first | (refine wx_quietU (by rfl) (by rfl) (by rfl) (fun K hK => ?_); go_big_quiet_op; refine hK _ ?_; clear hK K) | (refine wx_quietG (by rfl) (by rfl) (by rfl) (by rfl) (by rfl) (fun K hK => ?_); go_big_quiet_op; refine hK _ ?_; clear hK K) | (refine wx_skipG (by rfl) (by rfl) (by rfl) (fun K hK => ?_); go_simp; refine hK _ ?_; clear hK K) | (refine wx_skipN (by rfl) (by rfl) (by rfl) (fun K hK => ?_); go_simp; refine hK _ ?_; clear hK K))
              refine wx_loudU (us := [100]) (by rfl) (by rfl) (fun S wS hC hS hU => runs_enter (f := 17) (by go_simp <;> rfl) ?_) (fun v hv K hK => ?_)
              · obtain ⟨I1, hI1, hD1⟩ := (hU 100 (by simp) : DskF w6.heap.size D d S wS)
                have hlS := sl_kept hl hC (fun ad had => by injection had with had; subst had; exact hS2)
                refine (dsk_write w6.heap.size wS D d I1 x.i g2 0 63 64 ((fullL x.b).take 63) hD1 (Nat.le_trans hb3.size hC.size) hlS (by omega) (by have := hF.few; omega) (fun h => by
                  rcases (hS g2 (hI1 g2 h)).1 with h1 | h1
                  · exact hS2 h1
                  · omega)).mono ?_
                rintro e w' ⟨rfl, I2, hD2, ht2⟩
                refine ⟨_, rfl, rfl, ht2.1.wider hI1, I2, fun b hb => ?_, hD2⟩
                rcases ht2.2 b hb with h1 | h1
                · exact .inl (hI1 b h1)
                · exact .inr ⟨h1, (hD2.bd b hb).2⟩
              obtain rfl := hv; (go_simp; refine hK _ ?_; clear hK K)
              repeat (first | (refine wx_quietU (by rfl) (by rfl) (by rfl) (fun K hK => ?_); go_big_quiet_op; refine hK _ ?_; clear hK K) | (refine wx_quietG (by rfl) (by rfl) (by rfl) (by rfl) (by rfl) (fun K hK => ?_); go_big_quiet_op; refine hK _ ?_; clear hK K) | (refine wx_skipG (by rfl) (by rfl) (by rfl) (fun K hK => ?_); go_simp; refine hK _ ?_; clear hK K) | (refine wx_skipN (by rfl) (by rfl) (by rfl) (fun K hK => ?_); go_simp; refine hK _ ?_; clear hK K))
              refine wx_loudU (us := [101]) (by rfl) (by rfl) (fun S wS hC hS hU => runs_enter (f := 26) (by go_simp <;> rfl) ?_) (fun v hv K hK => ?_)
              · obtain ⟨J1, hJ1, hR1⟩ := (hU 101 (by simp) : RskF w6.heap.size D p S wS)
                refine (rsk_write w6.heap.size wS D p J1 x.i ((fullL x.b).take 63) hR1 (Nat.le_trans hb3.size hC.size) (by rw [HLL.out] <;> omega) (by have := hF.few; omega)).mono ?_
                rintro e w' ⟨rfl, J2, hR2, ht2⟩
                refine ⟨_, rfl, rfl, ht2.1.wider hJ1, J2, fun b hb => ?_, hR2⟩
                rcases ht2.2 b hb with h1 | h1
                · exact .inl (hJ1 b h1)
                · exact .inr ⟨h1, (hR2.bd b hb).2⟩
              obtain rfl := hv; (go_simp; refine hK _ ?_; clear hK K)
              repeat (first | (refine wx_quietU (by rfl) (by rfl) (by rfl) (fun K hK => ?_); go_big_quiet_op; refine hK _ ?_; clear hK K) | (refine wx_quietG (by rfl) (by rfl) (by rfl) (by rfl) (by rfl) (fun K hK => ?_); go_big_quiet_op; refine hK _ ?_; clear hK K) | (refine wx_skipG (by rfl) (by rfl) (by rfl) (fun K hK => ?_); go_simp; refine hK _ ?_; clear hK K) | (refine wx_skipN (by rfl) (by rfl) (by rfl) (fun K hK => ?_); go_simp; refine hK _ ?_; clear hK K))
              refine wx_nil fun w21 hsat => ?_
              obtain ⟨S1, S2, hdS, hf1, hf2⟩ := sat_get2 hsat 4 10 (by decide)
              obtain ⟨I2, hI2, hD2⟩ := (hf1 : DskF w6.heap.size (wrD D x.i ((fullL x.b).take 63)) d S1 w21)
              obtain ⟨J2, hJ2, hR2⟩ := (hf2 : RskF w6.heap.size (wrD D x.i ((fullL x.b).take 63)) p S2 w21)
              have hT3 : Two w6.heap.size w21 (wrD D x.i ((fullL x.b).take 63)) d p I2 J2 := ⟨hD2, hR2, fun b h1 h2 => hdS b (hI2 b h1) (hJ2 b h2)⟩
              have hb4 : Below w6.heap.size w6 w21 := hb3.trans (hsat.1.below_of hb3.size (fun b hb => by
                rcases hb with (h | h) | h
                · exact h.elim
                · exact (hT2.dk.bd b h).1
                · exact (hT2.rk.bd b h).1))
              have hF2 := hF.write x.i ((fullL x.b).take 63)
              clear hsat st zq1 hT2 hb3 hl q1 hD2 hR2
              go_wp2_with fail
              generalize wrD D x.i ((fullL x.b).take 63) = E at *
              obtain ⟨As3, cs3, r3, Ao3, co3, hRk, hJ3⟩ := hT3.rk
              have hpl3 := (Array.getElem?_eq_some_iff.1 hRk.blk).1
              have zp1 := fun (z : WK (fun _ => False) w21) => (wat_cell (p := ⟨p, 1, none⟩) hpl3 (fun e => e) z).trans ((blk_cells hRk.blk).1 1)
              have zp3 := fun (z : WK (fun _ => False) w21) => (wat_cell (p := ⟨p, 3, none⟩) hpl3 (fun e => e) z).trans ((blk_cells hRk.blk).1 3)
              simp at zp1 zp3
              have hlE := hF2.len
              cases ho : (E).off with
              | true =>
                simp only [ho] at zp3
                refine wp_region_loud (fun _ => False) [(1, plainL [] (.bool false)), (9, plainL [] (.int .i64 (E).order.length)), (19, plainL [] (.int .i64 N))] (fun _ => Fact.none) (by kernel_rfl) (by kernel_rfl)
                  (.cons (plainL_ok _ _) (.cons (plainL_ok _ _) (.cons (plainL_ok _ _) .nil))) good_nothing sat_none (WX.out ?_)
                repeat (first | (refine wx_quietU (by rfl) (by rfl) (by rfl) (fun K hK => ?_); go_big_quiet_op; refine hK _ ?_; clear hK K) | (refine wx_quietG (by rfl) (by rfl) (by rfl) (by rfl) (by rfl) (fun K hK => ?_); go_big_quiet_op; refine hK _ ?_; clear hK K) | (refine wx_skipG (by rfl) (by rfl) (by rfl) (fun K hK => ?_); go_simp; refine hK _ ?_; clear hK K) | (refine wx_skipN (by rfl) (by rfl) (by rfl) (fun K hK => ?_); go_simp; refine hK _ ?_; clear hK K))
                refine wx_loudU (us := []) (by rfl) (by rfl) (fun S wS hC hS hU => runs_enter (f := 19) (by go_simp <;> rfl) ?_) (fun v hv K hK => ?_)
                · refine (dsk_on w6.heap.size wS (E) d _ (hT3.dk.below hC.below)).mono ?_
                  rintro e w' ⟨rfl, rfl⟩
                  rw [ho]
                  exact ⟨_, rfl, rfl, Kept.refl _ _, trivial⟩
                obtain rfl := hv; (go_simp; refine hK _ ?_; clear hK K)
                repeat (first | (refine wx_quietU (by rfl) (by rfl) (by rfl) (fun K hK => ?_); go_big_quiet_op; refine hK _ ?_; clear hK K) | (refine wx_quietG (by rfl) (by rfl) (by rfl) (by rfl) (by rfl) (fun K hK => ?_); go_big_quiet_op; refine hK _ ?_; clear hK K) | (refine wx_skipG (by rfl) (by rfl) (by rfl) (fun K hK => ?_); go_simp; refine hK _ ?_; clear hK K) | (refine wx_skipN (by rfl) (by rfl) (by rfl) (fun K hK => ?_); go_simp; refine hK _ ?_; clear hK K))
                refine wx_loudG (us := []) (by rfl) (by rfl) (by rfl) (by rfl) (fun S wS hC hS hU => runs_enter (f := 21) (by go_simp <;> rfl) ?_) (fun v hv K hK => ?_)
                · refine (dsk_waits w6.heap.size wS (E) d _ (hT3.dk.below hC.below)).mono ?_
                  rintro e w' ⟨rfl, rfl⟩
                  exact ⟨_, rfl, rfl, Kept.refl _ _, trivial⟩
                obtain rfl := hv; (go_simp; refine hK _ ?_; clear hK K)
                repeat (first | (refine wx_quietU (by rfl) (by rfl) (by rfl) (fun K hK => ?_); go_big_quiet_op; refine hK _ ?_; clear hK K) | (refine wx_quietG (by rfl) (by rfl) (by rfl) (by rfl) (by rfl) (fun K hK => ?_); go_big_quiet_op; refine hK _ ?_; clear hK K) | (refine wx_skipG (by rfl) (by rfl) (by rfl) (fun K hK => ?_); go_simp; refine hK _ ?_; clear hK K) | (refine wx_skipN (by rfl) (by rfl) (by rfl) (fun K hK => ?_); go_simp; refine hK _ ?_; clear hK K))
                refine wx_loudG (us := []) (by rfl) (by rfl) (by rfl) (by rfl) (fun S wS hC hS hU => runs_enter (f := 20) (by go_simp <;> rfl) ?_) (fun v hv K hK => ?_)
                · refine (dsk_size w6.heap.size wS (E) d _ (hT3.dk.below hC.below)).mono ?_
                  rintro e w' ⟨rfl, rfl⟩
                  rw [hlE]
                  exact ⟨_, rfl, rfl, Kept.refl _ _, trivial⟩
                obtain rfl := hv; (go_simp; refine hK _ ?_; clear hK K)
                repeat (first | (refine wx_quietU (by rfl) (by rfl) (by rfl) (fun K hK => ?_); go_big_quiet_op; refine hK _ ?_; clear hK K) | (refine wx_quietG (by rfl) (by rfl) (by rfl) (by rfl) (by rfl) (fun K hK => ?_); go_big_quiet_op; refine hK _ ?_; clear hK K) | (refine wx_skipG (by rfl) (by rfl) (by rfl) (fun K hK => ?_); go_simp; refine hK _ ?_; clear hK K) | (refine wx_skipN (by rfl) (by rfl) (by rfl) (fun K hK => ?_); go_simp; refine hK _ ?_; clear hK K))
                refine wx_nil fun w40 hsat => ?_
                have hb40 := sat_below hsat
                clear hsat zp1 zp3 hRk hJ3
                have hT40 := hT3.below hb40
                have hb41 := hb4.trans (hb40.mono hb4.size)
                go_wp2_with fail
                go_light
                exact ⟨⟨k + 1, E, _, _, by omega, by omega, by go_num, hT40, hF2, hb41⟩, by simp [intOf]; omega⟩
              | false =>
                simp only [ho] at zp3
                refine wp_region_loud (fun _ => False) [(1, plainL [] (.bool true)), (9, plainL [] (.int .i64 (E).order.length)), (19, plainL [] (.int .i64 N))] (fun _ => Fact.none) (by kernel_rfl) (by kernel_rfl)
                  (.cons (plainL_ok _ _) (.cons (plainL_ok _ _) (.cons (plainL_ok _ _) .nil))) good_nothing sat_none (WX.out ?_)
                repeat (first | (refine wx_quietU (by rfl) (by rfl) (by rfl) (fun K hK => ?_); go_big_quiet_op; refine hK _ ?_; clear hK K) | (refine wx_quietG (by rfl) (by rfl) (by rfl) (by rfl) (by rfl) (fun K hK => ?_); go_big_quiet_op; refine hK _ ?_; clear hK K) | (refine wx_skipG (by rfl) (by rfl) (by rfl) (fun K hK => ?_); go_simp; refine hK _ ?_; clear hK K) | (refine wx_skipN (by rfl) (by rfl) (by rfl) (fun K hK => ?_); go_simp; refine hK _ ?_; clear hK K))
                refine wx_loudU (us := []) (by rfl) (by rfl) (fun S wS hC hS hU => runs_enter (f := 19) (by go_simp <;> rfl) ?_) (fun v hv K hK => ?_)
                · refine (dsk_on w6.heap.size wS (E) d _ (hT3.dk.below hC.below)).mono ?_
                  rintro e w' ⟨rfl, rfl⟩
                  rw [ho]
                  exact ⟨_, rfl, rfl, Kept.refl _ _, trivial⟩
                obtain rfl := hv; (go_simp; refine hK _ ?_; clear hK K)
                repeat (first | (refine wx_quietU (by rfl) (by rfl) (by rfl) (fun K hK => ?_); go_big_quiet_op; refine hK _ ?_; clear hK K) | (refine wx_quietG (by rfl) (by rfl) (by rfl) (by rfl) (by rfl) (fun K hK => ?_); go_big_quiet_op; refine hK _ ?_; clear hK K) | (refine wx_skipG (by rfl) (by rfl) (by rfl) (fun K hK => ?_); go_simp; refine hK _ ?_; clear hK K) | (refine wx_skipN (by rfl) (by rfl) (by rfl) (fun K hK => ?_); go_simp; refine hK _ ?_; clear hK K))
                refine wx_loudG (us := []) (by rfl) (by rfl) (by rfl) (by rfl) (fun S wS hC hS hU => runs_enter (f := 21) (by go_simp <;> rfl) ?_) (fun v hv K hK => ?_)
                · refine (dsk_waits w6.heap.size wS (E) d _ (hT3.dk.below hC.below)).mono ?_
                  rintro e w' ⟨rfl, rfl⟩
                  exact ⟨_, rfl, rfl, Kept.refl _ _, trivial⟩
                obtain rfl := hv; (go_simp; refine hK _ ?_; clear hK K)
                repeat (first | (refine wx_quietU (by rfl) (by rfl) (by rfl) (fun K hK => ?_); go_big_quiet_op; refine hK _ ?_; clear hK K) | (refine wx_quietG (by rfl) (by rfl) (by rfl) (by rfl) (by rfl) (fun K hK => ?_); go_big_quiet_op; refine hK _ ?_; clear hK K) | (refine wx_skipG (by rfl) (by rfl) (by rfl) (fun K hK => ?_); go_simp; refine hK _ ?_; clear hK K) | (refine wx_skipN (by rfl) (by rfl) (by rfl) (fun K hK => ?_); go_simp; refine hK _ ?_; clear hK K))
                refine wx_loudG (us := []) (by rfl) (by rfl) (by rfl) (by rfl) (fun S wS hC hS hU => runs_enter (f := 20) (by go_simp <;> rfl) ?_) (fun v hv K hK => ?_)
                · refine (dsk_size w6.heap.size wS (E) d _ (hT3.dk.below hC.below)).mono ?_
                  rintro e w' ⟨rfl, rfl⟩
                  rw [hlE]
                  exact ⟨_, rfl, rfl, Kept.refl _ _, trivial⟩
                obtain rfl := hv; (go_simp; refine hK _ ?_; clear hK K)
                repeat (first | (refine wx_quietU (by rfl) (by rfl) (by rfl) (fun K hK => ?_); go_big_quiet_op; refine hK _ ?_; clear hK K) | (refine wx_quietG (by rfl) (by rfl) (by rfl) (by rfl) (by rfl) (fun K hK => ?_); go_big_quiet_op; refine hK _ ?_; clear hK K) | (refine wx_skipG (by rfl) (by rfl) (by rfl) (fun K hK => ?_); go_simp; refine hK _ ?_; clear hK K) | (refine wx_skipN (by rfl) (by rfl) (by rfl) (fun K hK => ?_); go_simp; refine hK _ ?_; clear hK K))
                refine wx_nil fun w40 hsat => ?_
                have hb40 := sat_below hsat
                clear hsat zp1 zp3 hRk hJ3
                have hT40 := hT3.below hb40
                have hb41 := hb4.trans (hb40.mono hb4.size)
                go_wp2_with fail
                go_light
                exact ⟨⟨k + 1, E, _, _, by omega, by omega, by go_num, hT40, hF2, hb41⟩, by simp [intOf]; omega⟩
            · have hl := hl0
              clear hl0
              have HLL : Hid ((fullL x.b).length = 64) := hl.len.1
              have st := fun (z : WK (fun b => (False ∨ I b) ∨ J b) w20) => bstr (sl_kept hl (wat_kept z) (fun ad had => by injection had with had; subst had; exact hS2))
              have zq1 := fun (z : WK (fun b => (False ∨ I b) ∨ J b) w20) => (wat_cell (p := ⟨g, 1, none⟩) hgl20 (fun e => hS1 e) z).trans q1
              refine wp_region_loud (fun b => (False ∨ I b) ∨ J b) [(4, factL [100] (fun v => v = .int .i64 (wrE D x.i (fullL x.b))) (fun _ => DskF w6.heap.size (wrD D x.i (fullL x.b)) d)), (10, factL [101] (fun v => v = .int .i64 (wrE D x.i (fullL x.b))) (fun _ => RskF w6.heap.size (wrD D x.i (fullL x.b)) p))]
                (addL 101 (RskF w6.heap.size D p) (addL 100 (DskF w6.heap.size D d) (fun _ => Fact.none))) (by kernel_rfl) (by kernel_rfl)
                (.cons (factL_ok ⟨_, rfl⟩ (fun _ => good_dsk _ _ _)) (.cons (factL_ok ⟨_, rfl⟩ (fun _ => good_rsk _ _ _)) .nil))
                (good_add _ (good_rsk _ _ _) (good_add _ (good_dsk _ _ _) good_nothing))
                (sat_add 101 (sat_add 100 sat_none (fun b _ h => h) (fun b hb => (hT2.dk.bd b hb).2) ⟨I, fun b hb => hb, hT2.dk⟩) (fun b h1 h2 => by
                  rcases h2 with h2 | h2
                  · exact h2
                  · exact hT2.dis b h2 h1) (fun b hb => (hT2.rk.bd b hb).2) ⟨J, fun b hb => hb, hT2.rk⟩) (WX.out ?_)
              repeat (first | (refine wx_quietU (by rfl) (by rfl) (by rfl) (fun K hK => ?_); go_big_quiet_op; refine hK _ ?_; clear hK K) | (refine wx_quietG (by rfl) (by rfl) (by rfl) (by rfl) (by rfl) (fun K hK => ?_); go_big_quiet_op; refine hK _ ?_; clear hK K) | (refine wx_skipG (by rfl) (by rfl) (by rfl) (fun K hK => ?_); go_simp; refine hK _ ?_; clear hK K) | (refine wx_skipN (by rfl) (by rfl) (by rfl) (fun K hK => ?_); go_simp; refine hK _ ?_; clear hK K))
              refine wx_loudU (us := [100]) (by rfl) (by rfl) (fun S wS hC hS hU => runs_enter (f := 17) (by go_simp <;> rfl) ?_) (fun v hv K hK => ?_)
              · obtain ⟨I1, hI1, hD1⟩ := (hU 100 (by simp) : DskF w6.heap.size D d S wS)
                have hlS := sl_kept hl hC (fun ad had => by injection had with had; subst had; exact hS2)
                refine (dsk_write w6.heap.size wS D d I1 x.i g2 0 64 64 (fullL x.b) hD1 (Nat.le_trans hb3.size hC.size) hlS (by omega) (by have := hF.few; omega) (fun h => by
                  rcases (hS g2 (hI1 g2 h)).1 with h1 | h1
                  · exact hS2 h1
                  · omega)).mono ?_
                rintro e w' ⟨rfl, I2, hD2, ht2⟩
                refine ⟨_, rfl, rfl, ht2.1.wider hI1, I2, fun b hb => ?_, hD2⟩
                rcases ht2.2 b hb with h1 | h1
                · exact .inl (hI1 b h1)
                · exact .inr ⟨h1, (hD2.bd b hb).2⟩
              obtain rfl := hv; (go_simp; refine hK _ ?_; clear hK K)
              repeat (first | (refine wx_quietU (by rfl) (by rfl) (by rfl) (fun K hK => ?_); go_big_quiet_op; refine hK _ ?_; clear hK K) | (refine wx_quietG (by rfl) (by rfl) (by rfl) (by rfl) (by rfl) (fun K hK => ?_); go_big_quiet_op; refine hK _ ?_; clear hK K) | (refine wx_skipG (by rfl) (by rfl) (by rfl) (fun K hK => ?_); go_simp; refine hK _ ?_; clear hK K) | (refine wx_skipN (by rfl) (by rfl) (by rfl) (fun K hK => ?_); go_simp; refine hK _ ?_; clear hK K))
              refine wx_loudU (us := [101]) (by rfl) (by rfl) (fun S wS hC hS hU => runs_enter (f := 26) (by go_simp <;> rfl) ?_) (fun v hv K hK => ?_)
              · obtain ⟨J1, hJ1, hR1⟩ := (hU 101 (by simp) : RskF w6.heap.size D p S wS)
                refine (rsk_write w6.heap.size wS D p J1 x.i (fullL x.b) hR1 (Nat.le_trans hb3.size hC.size) (by rw [HLL.out] <;> omega) (by have := hF.few; omega)).mono ?_
                rintro e w' ⟨rfl, J2, hR2, ht2⟩
                refine ⟨_, rfl, rfl, ht2.1.wider hJ1, J2, fun b hb => ?_, hR2⟩
                rcases ht2.2 b hb with h1 | h1
                · exact .inl (hJ1 b h1)
                · exact .inr ⟨h1, (hR2.bd b hb).2⟩
              obtain rfl := hv; (go_simp; refine hK _ ?_; clear hK K)
              repeat (first | (refine wx_quietU (by rfl) (by rfl) (by rfl) (fun K hK => ?_); go_big_quiet_op; refine hK _ ?_; clear hK K) | (refine wx_quietG (by rfl) (by rfl) (by rfl) (by rfl) (by rfl) (fun K hK => ?_); go_big_quiet_op; refine hK _ ?_; clear hK K) | (refine wx_skipG (by rfl) (by rfl) (by rfl) (fun K hK => ?_); go_simp; refine hK _ ?_; clear hK K) | (refine wx_skipN (by rfl) (by rfl) (by rfl) (fun K hK => ?_); go_simp; refine hK _ ?_; clear hK K))
              refine wx_nil fun w21 hsat => ?_
              obtain ⟨S1, S2, hdS, hf1, hf2⟩ := sat_get2 hsat 4 10 (by decide)
              obtain ⟨I2, hI2, hD2⟩ := (hf1 : DskF w6.heap.size (wrD D x.i (fullL x.b)) d S1 w21)
              obtain ⟨J2, hJ2, hR2⟩ := (hf2 : RskF w6.heap.size (wrD D x.i (fullL x.b)) p S2 w21)
              have hT3 : Two w6.heap.size w21 (wrD D x.i (fullL x.b)) d p I2 J2 := ⟨hD2, hR2, fun b h1 h2 => hdS b (hI2 b h1) (hJ2 b h2)⟩
              have hb4 : Below w6.heap.size w6 w21 := hb3.trans (hsat.1.below_of hb3.size (fun b hb => by
                rcases hb with (h | h) | h
                · exact h.elim
                · exact (hT2.dk.bd b h).1
                · exact (hT2.rk.bd b h).1))
              have hF2 := hF.write x.i (fullL x.b)
              clear hsat st zq1 hT2 hb3 hl q1 hD2 hR2
              go_wp2_with fail
              generalize wrD D x.i (fullL x.b) = E at *
              obtain ⟨As3, cs3, r3, Ao3, co3, hRk, hJ3⟩ := hT3.rk
              have hpl3 := (Array.getElem?_eq_some_iff.1 hRk.blk).1
              have zp1 := fun (z : WK (fun _ => False) w21) => (wat_cell (p := ⟨p, 1, none⟩) hpl3 (fun e => e) z).trans ((blk_cells hRk.blk).1 1)
              have zp3 := fun (z : WK (fun _ => False) w21) => (wat_cell (p := ⟨p, 3, none⟩) hpl3 (fun e => e) z).trans ((blk_cells hRk.blk).1 3)
              simp at zp1 zp3
              have hlE := hF2.len
              cases ho : (E).off with
              | true =>
                simp only [ho] at zp3
                refine wp_region_loud (fun _ => False) [(1, plainL [] (.bool false)), (9, plainL [] (.int .i64 (E).order.length)), (19, plainL [] (.int .i64 N))] (fun _ => Fact.none) (by kernel_rfl) (by kernel_rfl)
                  (.cons (plainL_ok _ _) (.cons (plainL_ok _ _) (.cons (plainL_ok _ _) .nil))) good_nothing sat_none (WX.out ?_)
                repeat (first | (refine wx_quietU (by rfl) (by rfl) (by rfl) (fun K hK => ?_); go_big_quiet_op; refine hK _ ?_; clear hK K) | (refine wx_quietG (by rfl) (by rfl) (by rfl) (by rfl) (by rfl) (fun K hK => ?_); go_big_quiet_op; refine hK _ ?_; clear hK K) | (refine wx_skipG (by rfl) (by rfl) (by rfl) (fun K hK => ?_); go_simp; refine hK _ ?_; clear hK K) | (refine wx_skipN (by rfl) (by rfl) (by rfl) (fun K hK => ?_); go_simp; refine hK _ ?_; clear hK K))
                refine wx_loudU (us := []) (by rfl) (by rfl) (fun S wS hC hS hU => runs_enter (f := 19) (by go_simp <;> rfl) ?_) (fun v hv K hK => ?_)
                · refine (dsk_on w6.heap.size wS (E) d _ (hT3.dk.below hC.below)).mono ?_
                  rintro e w' ⟨rfl, rfl⟩
                  rw [ho]
                  exact ⟨_, rfl, rfl, Kept.refl _ _, trivial⟩
                obtain rfl := hv; (go_simp; refine hK _ ?_; clear hK K)
                repeat (first | (refine wx_quietU (by rfl) (by rfl) (by rfl) (fun K hK => ?_); go_big_quiet_op; refine hK _ ?_; clear hK K) | (refine wx_quietG (by rfl) (by rfl) (by rfl) (by rfl) (by rfl) (fun K hK => ?_); go_big_quiet_op; refine hK _ ?_; clear hK K) | (refine wx_skipG (by rfl) (by rfl) (by rfl) (fun K hK => ?_); go_simp; refine hK _ ?_; clear hK K) | (refine wx_skipN (by rfl) (by rfl) (by rfl) (fun K hK => ?_); go_simp; refine hK _ ?_; clear hK K))
                refine wx_loudG (us := []) (by rfl) (by rfl) (by rfl) (by rfl) (fun S wS hC hS hU => runs_enter (f := 21) (by go_simp <;> rfl) ?_) (fun v hv K hK => ?_)
                · refine (dsk_waits w6.heap.size wS (E) d _ (hT3.dk.below hC.below)).mono ?_
                  rintro e w' ⟨rfl, rfl⟩
                  exact ⟨_, rfl, rfl, Kept.refl _ _, trivial⟩
                obtain rfl := hv; (go_simp; refine hK _ ?_; clear hK K)
                repeat (first | (refine wx_quietU (by rfl) (by rfl) (by rfl) (fun K hK => ?_); go_big_quiet_op; refine hK _ ?_; clear hK K) | (refine wx_quietG (by rfl) (by rfl) (by rfl) (by rfl) (by rfl) (fun K hK => ?_); go_big_quiet_op; refine hK _ ?_; clear hK K) | (refine wx_skipG (by rfl) (by rfl) (by rfl) (fun K hK => ?_); go_simp; refine hK _ ?_; clear hK K) | (refine wx_skipN (by rfl) (by rfl) (by rfl) (fun K hK => ?_); go_simp; refine hK _ ?_; clear hK K))
                refine wx_loudG (us := []) (by rfl) (by rfl) (by rfl) (by rfl) (fun S wS hC hS hU => runs_enter (f := 20) (by go_simp <;> rfl) ?_) (fun v hv K hK => ?_)
                · refine (dsk_size w6.heap.size wS (E) d _ (hT3.dk.below hC.below)).mono ?_
                  rintro e w' ⟨rfl, rfl⟩
                  rw [hlE]
                  exact ⟨_, rfl, rfl, Kept.refl _ _, trivial⟩
                obtain rfl := hv; (go_simp; refine hK _ ?_; clear hK K)
                repeat (first | (refine wx_quietU (by rfl) (by rfl) (by rfl) (fun K hK => ?_); go_big_quiet_op; refine hK _ ?_; clear hK K) | (refine wx_quietG (by rfl) (by rfl) (by rfl) (by rfl) (by rfl) (fun K hK => ?_); go_big_quiet_op; refine hK _ ?_; clear hK K) | (refine wx_skipG (by rfl) (by rfl) (by rfl) (fun K hK => ?_); go_simp; refine hK _ ?_; clear hK K) | (refine wx_skipN (by rfl) (by rfl) (by rfl) (fun K hK => ?_); go_simp; refine hK _ ?_; clear hK K))
                refine wx_nil fun w40 hsat => ?_
                have hb40 := sat_below hsat
                clear hsat zp1 zp3 hRk hJ3
                have hT40 := hT3.below hb40
                have hb41 := hb4.trans (hb40.mono hb4.size)
                go_wp2_with fail
                go_light
                exact ⟨⟨k + 1, E, _, _, by omega, by omega, by go_num, hT40, hF2, hb41⟩, by simp [intOf]; omega⟩
              | false =>
                simp only [ho] at zp3
                refine wp_region_loud (fun _ => False) [(1, plainL [] (.bool true)), (9, plainL [] (.int .i64 (E).order.length)), (19, plainL [] (.int .i64 N))] (fun _ => Fact.none) (by kernel_rfl) (by kernel_rfl)
                  (.cons (plainL_ok _ _) (.cons (plainL_ok _ _) (.cons (plainL_ok _ _) .nil))) good_nothing sat_none (WX.out ?_)
                repeat (first | (refine wx_quietU (by rfl) (by rfl) (by rfl) (fun K hK => ?_); go_big_quiet_op; refine hK _ ?_; clear hK K) | (refine wx_quietG (by rfl) (by rfl) (by rfl) (by rfl) (by rfl) (fun K hK => ?_); go_big_quiet_op; refine hK _ ?_; clear hK K) | (refine wx_skipG (by rfl) (by rfl) (by rfl) (fun K hK => ?_); go_simp; refine hK _ ?_; clear hK K) | (refine wx_skipN (by rfl) (by rfl) (by rfl) (fun K hK => ?_); go_simp; refine hK _ ?_; clear hK K))
                refine wx_loudU (us := []) (by rfl) (by rfl) (fun S wS hC hS hU => runs_enter (f := 19) (by go_simp <;> rfl) ?_) (fun v hv K hK => ?_)
                · refine (dsk_on w6.heap.size wS (E) d _ (hT3.dk.below hC.below)).mono ?_
                  rintro e w' ⟨rfl, rfl⟩
                  rw [ho]
                  exact ⟨_, rfl, rfl, Kept.refl _ _, trivial⟩
                obtain rfl := hv; (go_simp; refine hK _ ?_; clear hK K)
                repeat (first | (refine wx_quietU (by rfl) (by rfl) (by rfl) (fun K hK => ?_); go_big_quiet_op; refine hK _ ?_; clear hK K) | (refine wx_quietG (by rfl) (by rfl) (by rfl) (by rfl) (by rfl) (fun K hK => ?_); go_big_quiet_op; refine hK _ ?_; clear hK K) | (refine wx_skipG (by rfl) (by rfl) (by rfl) (fun K hK => ?_); go_simp; refine hK _ ?_; clear hK K) | (refine wx_skipN (by rfl) (by rfl) (by rfl) (fun K hK => ?_); go_simp; refine hK _ ?_; clear hK K))
                refine wx_loudG (us := []) (by rfl) (by rfl) (by rfl) (by rfl) (fun S wS hC hS hU => runs_enter (f := 21) (by go_simp <;> rfl) ?_) (fun v hv K hK => ?_)
                · refine (dsk_waits w6.heap.size wS (E) d _ (hT3.dk.below hC.below)).mono ?_
                  rintro e w' ⟨rfl, rfl⟩
                  exact ⟨_, rfl, rfl, Kept.refl _ _, trivial⟩
                obtain rfl := hv; (go_simp; refine hK _ ?_; clear hK K)
                repeat (first | (refine wx_quietU (by rfl) (by rfl) (by rfl) (fun K hK => ?_); go_big_quiet_op; refine hK _ ?_; clear hK K) | (refine wx_quietG (by rfl) (by rfl) (by rfl) (by rfl) (by rfl) (fun K hK => ?_); go_big_quiet_op; refine hK _ ?_; clear hK K) | (refine wx_skipG (by rfl) (by rfl) (by rfl) (fun K hK => ?_); go_simp; refine hK _ ?_; clear hK K) | (refine wx_skipN (by rfl) (by rfl) (by rfl) (fun K hK => ?_); go_simp; refine hK _ ?_; clear hK K))
                refine wx_loudG (us := []) (by rfl) (by rfl) (by rfl) (by rfl) (fun S wS hC hS hU => runs_enter (f := 20) (by go_simp <;> rfl) ?_) (fun v hv K hK => ?_)
                · refine (dsk_size w6.heap.size wS (E) d _ (hT3.dk.below hC.below)).mono ?_
                  rintro e w' ⟨rfl, rfl⟩
                  rw [hlE]
                  exact ⟨_, rfl, rfl, Kept.refl _ _, trivial⟩
                obtain rfl := hv; (go_simp; refine hK _ ?_; clear hK K)
                repeat (first | (refine wx_quietU (by rfl) (by rfl) (by rfl) (fun K hK => ?_); go_big_quiet_op; refine hK _ ?_; clear hK K) | (refine wx_quietG (by rfl) (by rfl) (by rfl) (by rfl) (by rfl) (fun K hK => ?_); go_big_quiet_op; refine hK _ ?_; clear hK K) | (refine wx_skipG (by rfl) (by rfl) (by rfl) (fun K hK => ?_); go_simp; refine hK _ ?_; clear hK K) | (refine wx_skipN (by rfl) (by rfl) (by rfl) (fun K hK => ?_); go_simp; refine hK _ ?_; clear hK K))
                refine wx_nil fun w40 hsat => ?_
                have hb40 := sat_below hsat
                clear hsat zp1 zp3 hRk hJ3
                have hT40 := hT3.below hb40
                have hb41 := hb4.trans (hb40.mono hb4.size)
                go_wp2_with fail
                go_light
                exact ⟨⟨k + 1, E, _, _, by omega, by omega, by go_num, hT40, hF2, hb41⟩, by simp [intOf]; omega⟩
          · as_aux_lemma =>
            go_wp2_with (first | (refine wpList_load_mid rfl 41 (.tmp 92) rfl b (off + k * 5) rfl (acC x) _ hcell Try.underlying41 rfl hinf ?_) | (refine wpList_store_new rfl 41 (.tmp 11) (.tmp 93) rfl #[.int .i64 x.what, .int .i64 x.i, .int .u8 (x.b.toNat : Int), .int .i64 x.size, .slice x.K x.nk x.ck] rfl rfl hinf rfl (acA_one x) ?_))
            clear hcell ek hinf
            generalize wr.alloc (.cells #[.int .i64 x.what, .int .i64 x.i, .int .u8 (x.b.toNat : Int), .int .i64 x.size, .slice x.K x.nk x.ck] 41) = wa at *
            generalize wr.heap.size = g at *
            refine (dsk_flush w6.heap.size wa D d I hT1.dk hb1.size hF.ok).mono ?_
            rintro e w20 ⟨rfl, I2, hD2, ht2⟩
            obtain ⟨hR1, hdis⟩ := hT1.left hD2 ht2
            have hb2 := hb1.trans (ht2.1.below_of hb1.size (fun b hb => (hT1.dk.bd b hb).1))
            clear hT1 hb1 hg hK1 hgI hgJ ht2
            go_wp2_with fail
            refine (rsk_flush w6.heap.size w20 D p J hR1 hb2.size hF.ok hF.has).mono ?_
            rintro e w21 ⟨rfl, J2, hR2, ht3⟩
            obtain ⟨hD3, hdis3⟩ := Two.right hD2 hdis hR2 ht3
            have hT3 : Two w6.heap.size w21 (flD D) d p I2 J2 := ⟨hD3, hR2, hdis3⟩
            have hb4 := hb2.trans (ht3.1.below_of hb2.size (fun b hb => (hR1.bd b hb).1))
            have hF2 : Fit (flD D) N (k + 1) := hF.flush.more (by omega)
            clear hD2 hR1 hR2 hD3 hdis hdis3 hb2 ht3
            go_wp2_with fail
            generalize flD D = E at *
            obtain ⟨As3, cs3, r3, Ao3, co3, hRk, hJ3⟩ := hT3.rk
            have hpl3 := (Array.getElem?_eq_some_iff.1 hRk.blk).1
            have zp1 := fun (z : WK (fun _ => False) w21) => (wat_cell (p := ⟨p, 1, none⟩) hpl3 (fun e => e) z).trans ((blk_cells hRk.blk).1 1)
            have zp3 := fun (z : WK (fun _ => False) w21) => (wat_cell (p := ⟨p, 3, none⟩) hpl3 (fun e => e) z).trans ((blk_cells hRk.blk).1 3)
            simp at zp1 zp3
            have hlE := hF2.len
            cases ho : (E).off with
            | true =>
              simp only [ho] at zp3
              refine wp_region_loud (fun _ => False) [(1, plainL [] (.bool false)), (9, plainL [] (.int .i64 (E).order.length)), (19, plainL [] (.int .i64 N))] (fun _ => Fact.none) (by kernel_rfl) (by kernel_rfl)
                (.cons (plainL_ok _ _) (.cons (plainL_ok _ _) (.cons (plainL_ok _ _) .nil))) good_nothing sat_none (WX.out ?_)
              repeat (first | (refine wx_quietU (by rfl) (by rfl) (by rfl) (fun K hK => ?_); go_big_quiet_op; refine hK _ ?_; clear hK K) | (refine wx_quietG (by rfl) (by rfl) (by rfl) (by rfl) (by rfl) (fun K hK => ?_); go_big_quiet_op; refine hK _ ?_; clear hK K) | (refine wx_skipG (by rfl) (by rfl) (by rfl) (fun K hK => ?_); go_simp; refine hK _ ?_; clear hK K) | (refine wx_skipN (by rfl) (by rfl) (by rfl) (fun K hK => ?_); go_simp; refine hK _ ?_; clear hK K))
              refine wx_loudU (us := []) (by rfl) (by rfl) (fun S wS hC hS hU => runs_enter (f := 19) (by go_simp <;> rfl) ?_) (fun v hv K hK => ?_)
              · refine (dsk_on w6.heap.size wS (E) d _ (hT3.dk.below hC.below)).mono ?_
                rintro e w' ⟨rfl, rfl⟩
                rw [ho]
                exact ⟨_, rfl, rfl, Kept.refl _ _, trivial⟩
              obtain rfl := hv; (go_simp; refine hK _ ?_; clear hK K)
              repeat (first | (refine wx_quietU (by rfl) (by rfl) (by rfl) (fun K hK => ?_); go_big_quiet_op; refine hK _ ?_; clear hK K) | (refine wx_quietG (by rfl) (by rfl) (by rfl) (by rfl) (by rfl) (fun K hK => ?_); go_big_quiet_op; refine hK _ ?_; clear hK K) | (refine wx_skipG (by rfl) (by rfl) (by rfl) (fun K hK => ?_); go_simp; refine hK _ ?_; clear hK K) | (refine wx_skipN (by rfl) (by rfl) (by rfl) (fun K hK => ?_); go_simp; refine hK _ ?_; clear hK K))
              refine wx_loudG (us := []) (by rfl) (by rfl) (by rfl) (by rfl) (fun S wS hC hS hU => runs_enter (f := 21) (by go_simp <;> rfl) ?_) (fun v hv K hK => ?_)
              · refine (dsk_waits w6.heap.size wS (E) d _ (hT3.dk.below hC.below)).mono ?_
                rintro e w' ⟨rfl, rfl⟩
                exact ⟨_, rfl, rfl, Kept.refl _ _, trivial⟩
              obtain rfl := hv; (go_simp; refine hK _ ?_; clear hK K)
              repeat (first | (refine wx_quietU (by rfl) (by rfl) (by rfl) (fun K hK => ?_); go_big_quiet_op; refine hK _ ?_; clear hK K) | (refine wx_quietG (by rfl) (by rfl) (by rfl) (by rfl) (by rfl) (fun K hK => ?_); go_big_quiet_op; refine hK _ ?_; clear hK K) | (refine wx_skipG (by rfl) (by rfl) (by rfl) (fun K hK => ?_); go_simp; refine hK _ ?_; clear hK K) | (refine wx_skipN (by rfl) (by rfl) (by rfl) (fun K hK => ?_); go_simp; refine hK _ ?_; clear hK K))
              refine wx_loudG (us := []) (by rfl) (by rfl) (by rfl) (by rfl) (fun S wS hC hS hU => runs_enter (f := 20) (by go_simp <;> rfl) ?_) (fun v hv K hK => ?_)
              · refine (dsk_size w6.heap.size wS (E) d _ (hT3.dk.below hC.below)).mono ?_
                rintro e w' ⟨rfl, rfl⟩
                rw [hlE]
                exact ⟨_, rfl, rfl, Kept.refl _ _, trivial⟩
              obtain rfl := hv; (go_simp; refine hK _ ?_; clear hK K)
              repeat (first | (refine wx_quietU (by rfl) (by rfl) (by rfl) (fun K hK => ?_); go_big_quiet_op; refine hK _ ?_; clear hK K) | (refine wx_quietG (by rfl) (by rfl) (by rfl) (by rfl) (by rfl) (fun K hK => ?_); go_big_quiet_op; refine hK _ ?_; clear hK K) | (refine wx_skipG (by rfl) (by rfl) (by rfl) (fun K hK => ?_); go_simp; refine hK _ ?_; clear hK K) | (refine wx_skipN (by rfl) (by rfl) (by rfl) (fun K hK => ?_); go_simp; refine hK _ ?_; clear hK K))
              refine wx_nil fun w40 hsat => ?_
              have hb40 := sat_below hsat
              clear hsat zp1 zp3 hRk hJ3
              have hT40 := hT3.below hb40
              have hb41 := hb4.trans (hb40.mono hb4.size)
              go_wp2_with fail
              go_light
              exact ⟨⟨k + 1, E, _, _, by omega, by omega, by go_num, hT40, hF2, hb41⟩, by simp [intOf]; omega⟩
            | false =>
              simp only [ho] at zp3
              refine wp_region_loud (fun _ => False) [(1, plainL [] (.bool true)), (9, plainL [] (.int .i64 (E).order.length)), (19, plainL [] (.int .i64 N))] (fun _ => Fact.none) (by kernel_rfl) (by kernel_rfl)
                (.cons (plainL_ok _ _) (.cons (plainL_ok _ _) (.cons (plainL_ok _ _) .nil))) good_nothing sat_none (WX.out ?_)
              repeat (first | (refine wx_quietU (by rfl) (by rfl) (by rfl) (fun K hK => ?_); go_big_quiet_op; refine hK _ ?_; clear hK K) | (refine wx_quietG (by rfl) (by rfl) (by rfl) (by rfl) (by rfl) (fun K hK => ?_); go_big_quiet_op; refine hK _ ?_; clear hK K) | (refine wx_skipG (by rfl) (by rfl) (by rfl) (fun K hK => ?_); go_simp; refine hK _ ?_; clear hK K) | (refine wx_skipN (by rfl) (by rfl) (by rfl) (fun K hK => ?_); go_simp; refine hK _ ?_; clear hK K))
              refine wx_loudU (us := []) (by rfl) (by rfl) (fun S wS hC hS hU => runs_enter (f := 19) (by go_simp <;> rfl) ?_) (fun v hv K hK => ?_)
              · refine (dsk_on w6.heap.size wS (E) d _ (hT3.dk.below hC.below)).mono ?_
                rintro e w' ⟨rfl, rfl⟩
                rw [ho]
                exact ⟨_, rfl, rfl, Kept.refl _ _, trivial⟩
              obtain rfl := hv; (go_simp; refine hK _ ?_; clear hK K)
              repeat (first | (refine wx_quietU (by rfl) (by rfl) (by rfl) (fun K hK => ?_); go_big_quiet_op; refine hK _ ?_; clear hK K) | (refine wx_quietG (by rfl) (by rfl) (by rfl) (by rfl) (by rfl) (fun K hK => ?_); go_big_quiet_op; refine hK _ ?_; clear hK K) | (refine wx_skipG (by rfl) (by rfl) (by rfl) (fun K hK => ?_); go_simp; refine hK _ ?_; clear hK K) | (refine wx_skipN (by rfl) (by rfl) (by rfl) (fun K hK => ?_); go_simp; refine hK _ ?_; clear hK K))
              refine wx_loudG (us := []) (by rfl) (by rfl) (by rfl) (by rfl) (fun S wS hC hS hU => runs_enter (f := 21) (by go_simp <;> rfl) ?_) (fun v hv K hK => ?_)
              · refine (dsk_waits w6.heap.size wS (E) d _ (hT3.dk.below hC.below)).mono ?_
                rintro e w' ⟨rfl, rfl⟩
                exact ⟨_, rfl, rfl, Kept.refl _ _, trivial⟩
              obtain rfl := hv; (go_simp; refine hK _ ?_; clear hK K)
              repeat (first | (refine wx_quietU (by rfl) (by rfl) (by rfl) (fun K hK => ?_); go_big_quiet_op; refine hK _ ?_; clear hK K) | (refine wx_quietG (by rfl) (by rfl) (by rfl) (by rfl) (by rfl) (fun K hK => ?_); go_big_quiet_op; refine hK _ ?_; clear hK K) | (refine wx_skipG (by rfl) (by rfl) (by rfl) (fun K hK => ?_); go_simp; refine hK _ ?_; clear hK K) | (refine wx_skipN (by rfl) (by rfl) (by rfl) (fun K hK => ?_); go_simp; refine hK _ ?_; clear hK K))
              refine wx_loudG (us := []) (by rfl) (by rfl) (by rfl) (by rfl) (fun S wS hC hS hU => runs_enter (f := 20) (by go_simp <;> rfl) ?_) (fun v hv K hK => ?_)
              · refine (dsk_size w6.heap.size wS (E) d _ (hT3.dk.below hC.below)).mono ?_
                rintro e w' ⟨rfl, rfl⟩
                rw [hlE]
                exact ⟨_, rfl, rfl, Kept.refl _ _, trivial⟩
              obtain rfl := hv; (go_simp; refine hK _ ?_; clear hK K)
              repeat (first | (refine wx_quietU (by rfl) (by rfl) (by rfl) (fun K hK => ?_); go_big_quiet_op; refine hK _ ?_; clear hK K) | (refine wx_quietG (by rfl) (by rfl) (by rfl) (by rfl) (by rfl) (fun K hK => ?_); go_big_quiet_op; refine hK _ ?_; clear hK K) | (refine wx_skipG (by rfl) (by rfl) (by rfl) (fun K hK => ?_); go_simp; refine hK _ ?_; clear hK K) | (refine wx_skipN (by rfl) (by rfl) (by rfl) (fun K hK => ?_); go_simp; refine hK _ ?_; clear hK K))
              refine wx_nil fun w40 hsat => ?_
              have hb40 := sat_below hsat
              clear hsat zp1 zp3 hRk hJ3
              have hT40 := hT3.below hb40
              have hb41 := hb4.trans (hb40.mono hb4.size)
              go_wp2_with fail
              go_light
              exact ⟨⟨k + 1, E, _, _, by omega, by omega, by go_num, hT40, hF2, hb41⟩, by simp [intOf]; omega⟩
          · as_aux_lemma =>
            go_wp2_with (first | (refine wpList_load_mid rfl 41 (.tmp 92) rfl b (off + k * 5) rfl (acC x) _ hcell Try.underlying41 rfl hinf ?_) | (refine wpList_store_new rfl 41 (.tmp 11) (.tmp 93) rfl #[.int .i64 x.what, .int .i64 x.i, .int .u8 (x.b.toNat : Int), .int .i64 x.size, .slice x.K x.nk x.ck] rfl rfl hinf rfl (acA_one x) ?_))
            clear hcell ek hinf
            generalize wr.alloc (.cells #[.int .i64 x.what, .int .i64 x.i, .int .u8 (x.b.toNat : Int), .int .i64 x.size, .slice x.K x.nk x.ck] 41) = wa at *
            generalize wr.heap.size = g at *
            refine (dsk_arm w6.heap.size wa D d I x.size hT1.dk hx3.2).mono ?_
            rintro e w20 ⟨rfl, I2, hD2, ht2⟩
            obtain ⟨hR1, hdis⟩ := hT1.left hD2 ht2
            have hb2 := hb1.trans (ht2.1.below_of hb1.size (fun b hb => (hT1.dk.bd b hb).1))
            have hg2 := blk_kept hg ht2.1 (fun h => by have := hgI g h; omega)
            have q3 := (blk_cells hg2).1 3
            simp at q3
            obtain ⟨As3, cs3, r3, Ao3, co3, hRk, hJ3⟩ := hR1
            have hRk0 := hRk
            obtain ⟨c9, f9⟩ := blk_cells hRk.blk
            have u3 := c9 3
            have u4 := c9 4
            simp at u3 u4
            have hF2 : Fit (armD D x.size) N (k + 1) := (hF.arm x.size).more (by omega)
            clear hT1 hb1 hg hK1 hgI hgJ ht2 hg2 c9
            cases ho5 : D.off with
            | true =>
              rw [ho5] at u3
              have hE : armD D x.size = D := by unfold armD; rw [if_pos ho5]
              rw [hE] at hD2 hF2
              have hT3 : Two w6.heap.size w20 D d p I2 J := ⟨hD2, ⟨As3, cs3, r3, Ao3, co3, hRk0, hJ3⟩, hdis⟩
              clear hD2 hRk0 hRk hJ3 hdis hE
              go_wp2_with fail
              obtain ⟨As3, cs3, r3, Ao3, co3, hRk, hJ3⟩ := hT3.rk
              have hpl3 := (Array.getElem?_eq_some_iff.1 hRk.blk).1
              have zp1 := fun (z : WK (fun _ => False) w20) => (wat_cell (p := ⟨p, 1, none⟩) hpl3 (fun e => e) z).trans ((blk_cells hRk.blk).1 1)
              have zp3 := fun (z : WK (fun _ => False) w20) => (wat_cell (p := ⟨p, 3, none⟩) hpl3 (fun e => e) z).trans ((blk_cells hRk.blk).1 3)
              simp at zp1 zp3
              have hlE := hF2.len
              cases ho : (D).off with
              | true =>
                simp only [ho] at zp3
                refine wp_region_loud (fun _ => False) [(1, plainL [] (.bool false)), (9, plainL [] (.int .i64 (D).order.length)), (19, plainL [] (.int .i64 N))] (fun _ => Fact.none) (by kernel_rfl) (by kernel_rfl)
                  (.cons (plainL_ok _ _) (.cons (plainL_ok _ _) (.cons (plainL_ok _ _) .nil))) good_nothing sat_none (WX.out ?_)
                repeat (first | (refine wx_quietU (by rfl) (by rfl) (by rfl) (fun K hK => ?_); go_big_quiet_op; refine hK _ ?_; clear hK K) | (refine wx_quietG (by rfl) (by rfl) (by rfl) (by rfl) (by rfl) (fun K hK => ?_); go_big_quiet_op; refine hK _ ?_; clear hK K) | (refine wx_skipG (by rfl) (by rfl) (by rfl) (fun K hK => ?_); go_simp; refine hK _ ?_; clear hK K) | (refine wx_skipN (by rfl) (by rfl) (by rfl) (fun K hK => ?_); go_simp; refine hK _ ?_; clear hK K))
                refine wx_loudU (us := []) (by rfl) (by rfl) (fun S wS hC hS hU => runs_enter (f := 19) (by go_simp <;> rfl) ?_) (fun v hv K hK => ?_)
                · refine (dsk_on w6.heap.size wS (D) d _ (hT3.dk.below hC.below)).mono ?_
                  rintro e w' ⟨rfl, rfl⟩
                  rw [ho]
                  exact ⟨_, rfl, rfl, Kept.refl _ _, trivial⟩
                obtain rfl := hv; (go_simp; refine hK _ ?_; clear hK K)
                repeat (first | (refine wx_quietU (by rfl) (by rfl) (by rfl) (fun K hK => ?_); go_big_quiet_op; refine hK _ ?_; clear hK K) | (refine wx_quietG (by rfl) (by rfl) (by rfl) (by rfl) (by rfl) (fun K hK => ?_); go_big_quiet_op; refine hK _ ?_; clear hK K) | (refine wx_skipG (by rfl) (by rfl) (by rfl) (fun K hK => ?_); go_simp; refine hK _ ?_; clear hK K) | (refine wx_skipN (by rfl) (by rfl) (by rfl) (fun K hK => ?_); go_simp; refine hK _ ?_; clear hK K))
                refine wx_loudG (us := []) (by rfl) (by rfl) (by rfl) (by rfl) (fun S wS hC hS hU => runs_enter (f := 21) (by go_simp <;> rfl) ?_) (fun v hv K hK => ?_)
                · refine (dsk_waits w6.heap.size wS (D) d _ (hT3.dk.below hC.below)).mono ?_
                  rintro e w' ⟨rfl, rfl⟩
                  exact ⟨_, rfl, rfl, Kept.refl _ _, trivial⟩
                obtain rfl := hv; (go_simp; refine hK _ ?_; clear hK K)
                repeat (first | (refine wx_quietU (by rfl) (by rfl) (by rfl) (fun K hK => ?_); go_big_quiet_op; refine hK _ ?_; clear hK K) | (refine wx_quietG (by rfl) (by rfl) (by rfl) (by rfl) (by rfl) (fun K hK => ?_); go_big_quiet_op; refine hK _ ?_; clear hK K) | (refine wx_skipG (by rfl) (by rfl) (by rfl) (fun K hK => ?_); go_simp; refine hK _ ?_; clear hK K) | (refine wx_skipN (by rfl) (by rfl) (by rfl) (fun K hK => ?_); go_simp; refine hK _ ?_; clear hK K))
                refine wx_loudG (us := []) (by rfl) (by rfl) (by rfl) (by rfl) (fun S wS hC hS hU => runs_enter (f := 20) (by go_simp <;> rfl) ?_) (fun v hv K hK => ?_)
                · refine (dsk_size w6.heap.size wS (D) d _ (hT3.dk.below hC.below)).mono ?_
                  rintro e w' ⟨rfl, rfl⟩
                  rw [hlE]
                  exact ⟨_, rfl, rfl, Kept.refl _ _, trivial⟩
                obtain rfl := hv; (go_simp; refine hK _ ?_; clear hK K)
                repeat (first | (refine wx_quietU (by rfl) (by rfl) (by rfl) (fun K hK => ?_); go_big_quiet_op; refine hK _ ?_; clear hK K) | (refine wx_quietG (by rfl) (by rfl) (by rfl) (by rfl) (by rfl) (fun K hK => ?_); go_big_quiet_op; refine hK _ ?_; clear hK K) | (refine wx_skipG (by rfl) (by rfl) (by rfl) (fun K hK => ?_); go_simp; refine hK _ ?_; clear hK K) | (refine wx_skipN (by rfl) (by rfl) (by rfl) (fun K hK => ?_); go_simp; refine hK _ ?_; clear hK K))
                refine wx_nil fun w40 hsat => ?_
                have hb40 := sat_below hsat
                clear hsat zp1 zp3 hRk hJ3
                have hT40 := hT3.below hb40
                have hb41 := hb2.trans (hb40.mono hb2.size)
                go_wp2_with fail
                go_light
                exact ⟨⟨k + 1, D, _, _, by omega, by omega, by go_num, hT40, hF2, hb41⟩, by simp [intOf]; omega⟩
              | false =>
                simp only [ho] at zp3
                refine wp_region_loud (fun _ => False) [(1, plainL [] (.bool true)), (9, plainL [] (.int .i64 (D).order.length)), (19, plainL [] (.int .i64 N))] (fun _ => Fact.none) (by kernel_rfl) (by kernel_rfl)
                  (.cons (plainL_ok _ _) (.cons (plainL_ok _ _) (.cons (plainL_ok _ _) .nil))) good_nothing sat_none (WX.out ?_)
                repeat (first | (refine wx_quietU (by rfl) (by rfl) (by rfl) (fun K hK => ?_); go_big_quiet_op; refine hK _ ?_; clear hK K) | (refine wx_quietG (by rfl) (by rfl) (by rfl) (by rfl) (by rfl) (fun K hK => ?_); go_big_quiet_op; refine hK _ ?_; clear hK K) | (refine wx_skipG (by rfl) (by rfl) (by rfl) (fun K hK => ?_); go_simp; refine hK _ ?_; clear hK K) | (refine wx_skipN (by rfl) (by rfl) (by rfl) (fun K hK => ?_); go_simp; refine hK _ ?_; clear hK K))
                refine wx_loudU (us := []) (by rfl) (by rfl) (fun S wS hC hS hU => runs_enter (f := 19) (by go_simp <;> rfl) ?_) (fun v hv K hK => ?_)
                · refine (dsk_on w6.heap.size wS (D) d _ (hT3.dk.below hC.below)).mono ?_
                  rintro e w' ⟨rfl, rfl⟩
                  rw [ho]
                  exact ⟨_, rfl, rfl, Kept.refl _ _, trivial⟩
                obtain rfl := hv; (go_simp; refine hK _ ?_; clear hK K)
                repeat (first | (refine wx_quietU (by rfl) (by rfl) (by rfl) (fun K hK => ?_); go_big_quiet_op; refine hK _ ?_; clear hK K) | (refine wx_quietG (by rfl) (by rfl) (by rfl) (by rfl) (by rfl) (fun K hK => ?_); go_big_quiet_op; refine hK _ ?_; clear hK K) | (refine wx_skipG (by rfl) (by rfl) (by rfl) (fun K hK => ?_); go_simp; refine hK _ ?_; clear hK K) | (refine wx_skipN (by rfl) (by rfl) (by rfl) (fun K hK => ?_); go_simp; refine hK _ ?_; clear hK K))
                refine wx_loudG (us := []) (by rfl) (by rfl) (by rfl) (by rfl) (fun S wS hC hS hU => runs_enter (f := 21) (by go_simp <;> rfl) ?_) (fun v hv K hK => ?_)
                · refine (dsk_waits w6.heap.size wS (D) d _ (hT3.dk.below hC.below)).mono ?_
                  rintro e w' ⟨rfl, rfl⟩
                  exact ⟨_, rfl, rfl, Kept.refl _ _, trivial⟩
                obtain rfl := hv; (go_simp; refine hK _ ?_; clear hK K)
                repeat (first | (refine wx_quietU (by rfl) (by rfl) (by rfl) (fun K hK => ?_); go_big_quiet_op; refine hK _ ?_; clear hK K) | (refine wx_quietG (by rfl) (by rfl) (by rfl) (by rfl) (by rfl) (fun K hK => ?_); go_big_quiet_op; refine hK _ ?_; clear hK K) | (refine wx_skipG (by rfl) (by rfl) (by rfl) (fun K hK => ?_); go_simp; refine hK _ ?_; clear hK K) | (refine wx_skipN (by rfl) (by rfl) (by rfl) (fun K hK => ?_); go_simp; refine hK _ ?_; clear hK K))
                refine wx_loudG (us := []) (by rfl) (by rfl) (by rfl) (by rfl) (fun S wS hC hS hU => runs_enter (f := 20) (by go_simp <;> rfl) ?_) (fun v hv K hK => ?_)
                · refine (dsk_size w6.heap.size wS (D) d _ (hT3.dk.below hC.below)).mono ?_
                  rintro e w' ⟨rfl, rfl⟩
                  rw [hlE]
                  exact ⟨_, rfl, rfl, Kept.refl _ _, trivial⟩
                obtain rfl := hv; (go_simp; refine hK _ ?_; clear hK K)
                repeat (first | (refine wx_quietU (by rfl) (by rfl) (by rfl) (fun K hK => ?_); go_big_quiet_op; refine hK _ ?_; clear hK K) | (refine wx_quietG (by rfl) (by rfl) (by rfl) (by rfl) (by rfl) (fun K hK => ?_); go_big_quiet_op; refine hK _ ?_; clear hK K) | (refine wx_skipG (by rfl) (by rfl) (by rfl) (fun K hK => ?_); go_simp; refine hK _ ?_; clear hK K) | (refine wx_skipN (by rfl) (by rfl) (by rfl) (fun K hK => ?_); go_simp; refine hK _ ?_; clear hK K))
                refine wx_nil fun w40 hsat => ?_
                have hb40 := sat_below hsat
                clear hsat zp1 zp3 hRk hJ3
                have hT40 := hT3.below hb40
                have hb41 := hb2.trans (hb40.mono hb2.size)
                go_wp2_with fail
                go_light
                exact ⟨⟨k + 1, D, _, _, by omega, by omega, by go_num, hT40, hF2, hb41⟩, by simp [intOf]; omega⟩
            | false =>
              rw [ho5] at u3
              have hE : armD D x.size = { D with armed := max x.size (-1) } := by unfold armD; rw [if_neg (by rw [ho5]; exact Bool.false_ne_true)]
              have hk5 := (Kept.refl (fun b => b = p) w20).setCell (p := ⟨p, 4, none⟩) (.inl rfl) (.int .i64 (max x.size (-1)))
              have hb5 := blk_set hRk.blk 4 (.int .i64 (max x.size (-1)))
              simp at hb5
              have hRk5 := hRk.setp (D' := { D with armed := max x.size (-1) }) hk5 hb5 rfl rfl rfl (by simp only []; omega)
              have hDk5 := hD2.kept hk5 (fun b hb e => hdis b hb ((hJ3 b).2 (.inl e)))
              rw [hE] at hDk5 hF2
              have hT3 : Two w6.heap.size (w20.setCell ⟨p, 4, none⟩ (.int .i64 (max x.size (-1)))) { D with armed := max x.size (-1) } d p I2 J := ⟨hDk5, ⟨As3, cs3, r3, Ao3, co3, hRk5, hJ3⟩, hdis⟩
              have hb6 := hb2.trans (hk5.below_of hb2.size (fun b hb => by rw [hb]; exact hRk.bp))
              clear hD2 hRk0 hRk hJ3 hdis hb5 hRk5 hDk5 hE hk5 hb2
              go_wp2_with fail
              generalize w20.setCell ⟨p, 4, none⟩ (.int .i64 (max x.size (-1))) = w21 at *
              clear u3 u4 f9 q3
              generalize ({ D with armed := max x.size (-1) } : Dk) = E at *
              obtain ⟨As3, cs3, r3, Ao3, co3, hRk, hJ3⟩ := hT3.rk
              have hpl3 := (Array.getElem?_eq_some_iff.1 hRk.blk).1
              have zp1 := fun (z : WK (fun _ => False) w21) => (wat_cell (p := ⟨p, 1, none⟩) hpl3 (fun e => e) z).trans ((blk_cells hRk.blk).1 1)
              have zp3 := fun (z : WK (fun _ => False) w21) => (wat_cell (p := ⟨p, 3, none⟩) hpl3 (fun e => e) z).trans ((blk_cells hRk.blk).1 3)
              simp at zp1 zp3
              have hlE := hF2.len
              cases ho : (E).off with
              | true =>
                simp only [ho] at zp3
                refine wp_region_loud (fun _ => False) [(1, plainL [] (.bool false)), (9, plainL [] (.int .i64 (E).order.length)), (19, plainL [] (.int .i64 N))] (fun _ => Fact.none) (by kernel_rfl) (by kernel_rfl)
                  (.cons (plainL_ok _ _) (.cons (plainL_ok _ _) (.cons (plainL_ok _ _) .nil))) good_nothing sat_none (WX.out ?_)
                repeat (first | (refine wx_quietU (by rfl) (by rfl) (by rfl) (fun K hK => ?_); go_big_quiet_op; refine hK _ ?_; clear hK K) | (refine wx_quietG (by rfl) (by rfl) (by rfl) (by rfl) (by rfl) (fun K hK => ?_); go_big_quiet_op; refine hK _ ?_; clear hK K) | (refine wx_skipG (by rfl) (by rfl) (by rfl) (fun K hK => ?_); go_simp; refine hK _ ?_; clear hK K) | (refine wx_skipN (by rfl) (by rfl) (by rfl) (fun K hK => ?_); go_simp; refine hK _ ?_; clear hK K))
                refine wx_loudU (us := []) (by rfl) (by rfl) (fun S wS hC hS hU => runs_enter (f := 19) (by go_simp <;> rfl) ?_) (fun v hv K hK => ?_)
                · refine (dsk_on w6.heap.size wS (E) d _ (hT3.dk.below hC.below)).mono ?_
                  rintro e w' ⟨rfl, rfl⟩
                  rw [ho]
                  exact ⟨_, rfl, rfl, Kept.refl _ _, trivial⟩
                obtain rfl := hv; (go_simp; refine hK _ ?_; clear hK K)
                repeat (first | (refine wx_quietU (by rfl) (by rfl) (by rfl) (fun K hK => ?_); go_big_quiet_op; refine hK _ ?_; clear hK K) | (refine wx_quietG (by rfl) (by rfl) (by rfl) (by rfl) (by rfl) (fun K hK => ?_); go_big_quiet_op; refine hK _ ?_; clear hK K) | (refine wx_skipG (by rfl) (by rfl) (by rfl) (fun K hK => ?_); go_simp; refine hK _ ?_; clear hK K) | (refine wx_skipN (by rfl) (by rfl) (by rfl) (fun K hK => ?_); go_simp; refine hK _ ?_; clear hK K))
                refine wx_loudG (us := []) (by rfl) (by rfl) (by rfl) (by rfl) (fun S wS hC hS hU => runs_enter (f := 21) (by go_simp <;> rfl) ?_) (fun v hv K hK => ?_)
                · refine (dsk_waits w6.heap.size wS (E) d _ (hT3.dk.below hC.below)).mono ?_
                  rintro e w' ⟨rfl, rfl⟩
                  exact ⟨_, rfl, rfl, Kept.refl _ _, trivial⟩
                obtain rfl := hv; (go_simp; refine hK _ ?_; clear hK K)
                repeat (first | (refine wx_quietU (by rfl) (by rfl) (by rfl) (fun K hK => ?_); go_big_quiet_op; refine hK _ ?_; clear hK K) | (refine wx_quietG (by rfl) (by rfl) (by rfl) (by rfl) (by rfl) (fun K hK => ?_); go_big_quiet_op; refine hK _ ?_; clear hK K) | (refine wx_skipG (by rfl) (by rfl) (by rfl) (fun K hK => ?_); go_simp; refine hK _ ?_; clear hK K) | (refine wx_skipN (by rfl) (by rfl) (by rfl) (fun K hK => ?_); go_simp; refine hK _ ?_; clear hK K))
                refine wx_loudG (us := []) (by rfl) (by rfl) (by rfl) (by rfl) (fun S wS hC hS hU => runs_enter (f := 20) (by go_simp <;> rfl) ?_) (fun v hv K hK => ?_)
                · refine (dsk_size w6.heap.size wS (E) d _ (hT3.dk.below hC.below)).mono ?_
                  rintro e w' ⟨rfl, rfl⟩
                  rw [hlE]
                  exact ⟨_, rfl, rfl, Kept.refl _ _, trivial⟩
                obtain rfl := hv; (go_simp; refine hK _ ?_; clear hK K)
                repeat (first | (refine wx_quietU (by rfl) (by rfl) (by rfl) (fun K hK => ?_); go_big_quiet_op; refine hK _ ?_; clear hK K) | (refine wx_quietG (by rfl) (by rfl) (by rfl) (by rfl) (by rfl) (fun K hK => ?_); go_big_quiet_op; refine hK _ ?_; clear hK K) | (refine wx_skipG (by rfl) (by rfl) (by rfl) (fun K hK => ?_); go_simp; refine hK _ ?_; clear hK K) | (refine wx_skipN (by rfl) (by rfl) (by rfl) (fun K hK => ?_); go_simp; refine hK _ ?_; clear hK K))
                refine wx_nil fun w40 hsat => ?_
                have hb40 := sat_below hsat
                clear hsat zp1 zp3 hRk hJ3
                have hT40 := hT3.below hb40
                have hb41 := hb6.trans (hb40.mono hb6.size)
                go_wp2_with fail
                go_light
                exact ⟨⟨k + 1, E, _, _, by omega, by omega, by go_num, hT40, hF2, hb41⟩, by simp [intOf]; omega⟩
              | false =>
                simp only [ho] at zp3
                refine wp_region_loud (fun _ => False) [(1, plainL [] (.bool true)), (9, plainL [] (.int .i64 (E).order.length)), (19, plainL [] (.int .i64 N))] (fun _ => Fact.none) (by kernel_rfl) (by kernel_rfl)
                  (.cons (plainL_ok _ _) (.cons (plainL_ok _ _) (.cons (plainL_ok _ _) .nil))) good_nothing sat_none (WX.out ?_)
                repeat (first | (refine wx_quietU (by rfl) (by rfl) (by rfl) (fun K hK => ?_); go_big_quiet_op; refine hK _ ?_; clear hK K) | (refine wx_quietG (by rfl) (by rfl) (by rfl) (by rfl) (by rfl) (fun K hK => ?_); go_big_quiet_op; refine hK _ ?_; clear hK K) | (refine wx_skipG (by rfl) (by rfl) (by rfl) (fun K hK => ?_); go_simp; refine hK _ ?_; clear hK K) | (refine wx_skipN (by rfl) (by rfl) (by rfl) (fun K hK => ?_); go_simp; refine hK _ ?_; clear hK K))
                refine wx_loudU (us := []) (by rfl) (by rfl) (fun S wS hC hS hU => runs_enter (f := 19) (by go_simp <;> rfl) ?_) (fun v hv K hK => ?_)
                · refine (dsk_on w6.heap.size wS (E) d _ (hT3.dk.below hC.below)).mono ?_
                  rintro e w' ⟨rfl, rfl⟩
                  rw [ho]
                  exact ⟨_, rfl, rfl, Kept.refl _ _, trivial⟩
                obtain rfl := hv; (go_simp; refine hK _ ?_; clear hK K)
                repeat (first | (refine wx_quietU (by rfl) (by rfl) (by rfl) (fun K hK => ?_); go_big_quiet_op; refine hK _ ?_; clear hK K) | (refine wx_quietG (by rfl) (by rfl) (by rfl) (by rfl) (by rfl) (fun K hK => ?_); go_big_quiet_op; refine hK _ ?_; clear hK K) | (refine wx_skipG (by rfl) (by rfl) (by rfl) (fun K hK => ?_); go_simp; refine hK _ ?_; clear hK K) | (refine wx_skipN (by rfl) (by rfl) (by rfl) (fun K hK => ?_); go_simp; refine hK _ ?_; clear hK K))
                refine wx_loudG (us := []) (by rfl) (by rfl) (by rfl) (by rfl) (fun S wS hC hS hU => runs_enter (f := 21) (by go_simp <;> rfl) ?_) (fun v hv K hK => ?_)
                · refine (dsk_waits w6.heap.size wS (E) d _ (hT3.dk.below hC.below)).mono ?_
                  rintro e w' ⟨rfl, rfl⟩
                  exact ⟨_, rfl, rfl, Kept.refl _ _, trivial⟩
                obtain rfl := hv; (go_simp; refine hK _ ?_; clear hK K)
                repeat (first | (refine wx_quietU (by rfl) (by rfl) (by rfl) (fun K hK => ?_); go_big_quiet_op; refine hK _ ?_; clear hK K) | (refine wx_quietG (by rfl) (by rfl) (by rfl) (by rfl) (by rfl) (fun K hK => ?_); go_big_quiet_op; refine hK _ ?_; clear hK K) | (refine wx_skipG (by rfl) (by rfl) (by rfl) (fun K hK => ?_); go_simp; refine hK _ ?_; clear hK K) | (refine wx_skipN (by rfl) (by rfl) (by rfl) (fun K hK => ?_); go_simp; refine hK _ ?_; clear hK K))
                refine wx_loudG (us := []) (by rfl) (by rfl) (by rfl) (by rfl) (fun S wS hC hS hU => runs_enter (f := 20) (by go_simp <;> rfl) ?_) (fun v hv K hK => ?_)
                · refine (dsk_size w6.heap.size wS (E) d _ (hT3.dk.below hC.below)).mono ?_
                  rintro e w' ⟨rfl, rfl⟩
                  rw [hlE]
                  exact ⟨_, rfl, rfl, Kept.refl _ _, trivial⟩
                obtain rfl := hv; (go_simp; refine hK _ ?_; clear hK K)
                repeat (first | (refine wx_quietU (by rfl) (by rfl) (by rfl) (fun K hK => ?_); go_big_quiet_op; refine hK _ ?_; clear hK K) | (refine wx_quietG (by rfl) (by rfl) (by rfl) (by rfl) (by rfl) (fun K hK => ?_); go_big_quiet_op; refine hK _ ?_; clear hK K) | (refine wx_skipG (by rfl) (by rfl) (by rfl) (fun K hK => ?_); go_simp; refine hK _ ?_; clear hK K) | (refine wx_skipN (by rfl) (by rfl) (by rfl) (fun K hK => ?_); go_simp; refine hK _ ?_; clear hK K))
                refine wx_nil fun w40 hsat => ?_
                have hb40 := sat_below hsat
                clear hsat zp1 zp3 hRk hJ3
                have hT40 := hT3.below hb40
                have hb41 := hb6.trans (hb40.mono hb6.size)
                go_wp2_with fail
                go_light
                exact ⟨⟨k + 1, E, _, _, by omega, by omega, by go_num, hT40, hF2, hb41⟩, by simp [intOf]; omega⟩
          · as_aux_lemma =>
            go_wp2_with (first | (refine wpList_load_mid rfl 41 (.tmp 92) rfl b (off + k * 5) rfl (acC x) _ hcell Try.underlying41 rfl hinf ?_) | (refine wpList_store_new rfl 41 (.tmp 11) (.tmp 93) rfl #[.int .i64 x.what, .int .i64 x.i, .int .u8 (x.b.toNat : Int), .int .i64 x.size, .slice x.K x.nk x.ck] rfl rfl hinf rfl (acA_one x) ?_))
            clear hcell ek hinf
            generalize wr.alloc (.cells #[.int .i64 x.what, .int .i64 x.i, .int .u8 (x.b.toNat : Int), .int .i64 x.size, .slice x.K x.nk x.ck] 41) = wa at *
            generalize wr.heap.size = g at *
            refine (dsk_crash w6.heap.size wa D d I x.K x.nk x.ck x.kl hT1.dk hb1.size hF.ok hK1 hKlt).mono ?_
            rintro e w20 ⟨rfl, I2, hD2, ht2⟩
            obtain ⟨hR1, hdis⟩ := hT1.left hD2 ht2
            have hb2 := hb1.trans (ht2.1.below_of hb1.size (fun b hb => (hT1.dk.bd b hb).1))
            have hg2 := blk_kept hg ht2.1 (fun h => by have := hgI g h; omega)
            have q4 := (blk_cells hg2).1 4
            simp at q4
            have hK2 := sl_keptN hK1 ht2.1 (fun h0 ad had h => by
              have := hKlt h0 ad had
              have := (hT1.dk.bd _ h).1
              omega)
            clear hT1 hb1 hg hK1 hgI hgJ ht2 hg2
            go_wp2_with fail
            refine (rsk_crash w6.heap.size w20 D p J x.K x.nk x.ck x.kl hR1 hb2.size hF.ok hF.has hK2 hKlt).mono ?_
            rintro e w21 ⟨rfl, J2, hR2, ht3⟩
            obtain ⟨hD3, hdis3⟩ := Two.right hD2 hdis hR2 ht3
            have hT3 : Two w6.heap.size w21 (crashD D x.kl) d p I2 J2 := ⟨hD3, hR2, hdis3⟩
            have hb4 := hb2.trans (ht3.1.below_of hb2.size (fun b hb => (hR1.bd b hb).1))
            have hF2 : Fit (crashD D x.kl) N (k + 1) := (hF.crash x.kl).more (by omega)
            clear hD2 hR1 hR2 hD3 hdis hdis3 hb2 ht3 hK2 q4
            go_wp2_with fail
            generalize crashD D x.kl = E at *
            obtain ⟨As3, cs3, r3, Ao3, co3, hRk, hJ3⟩ := hT3.rk
            have hpl3 := (Array.getElem?_eq_some_iff.1 hRk.blk).1
            have zp1 := fun (z : WK (fun _ => False) w21) => (wat_cell (p := ⟨p, 1, none⟩) hpl3 (fun e => e) z).trans ((blk_cells hRk.blk).1 1)
            have zp3 := fun (z : WK (fun _ => False) w21) => (wat_cell (p := ⟨p, 3, none⟩) hpl3 (fun e => e) z).trans ((blk_cells hRk.blk).1 3)
            simp at zp1 zp3
            have hlE := hF2.len
            cases ho : (E).off with
            | true =>
              simp only [ho] at zp3
              refine wp_region_loud (fun _ => False) [(1, plainL [] (.bool false)), (9, plainL [] (.int .i64 (E).order.length)), (19, plainL [] (.int .i64 N))] (fun _ => Fact.none) (by kernel_rfl) (by kernel_rfl)
                (.cons (plainL_ok _ _) (.cons (plainL_ok _ _) (.cons (plainL_ok _ _) .nil))) good_nothing sat_none (WX.out ?_)
              repeat (first | (refine wx_quietU (by rfl) (by rfl) (by rfl) (fun K hK => ?_); go_big_quiet_op; refine hK _ ?_; clear hK K) | (refine wx_quietG (by rfl) (by rfl) (by rfl) (by rfl) (by rfl) (fun K hK => ?_); go_big_quiet_op; refine hK _ ?_; clear hK K) | (refine wx_skipG (by rfl) (by rfl) (by rfl) (fun K hK => ?_); go_simp; refine hK _ ?_; clear hK K) | (refine wx_skipN (by rfl) (by rfl) (by rfl) (fun K hK => ?_); go_simp; refine hK _ ?_; clear hK K))
              refine wx_loudU (us := []) (by rfl) (by rfl) (fun S wS hC hS hU => runs_enter (f := 19) (by go_simp <;> rfl) ?_) (fun v hv K hK => ?_)
              · refine (dsk_on w6.heap.size wS (E) d _ (hT3.dk.below hC.below)).mono ?_
                rintro e w' ⟨rfl, rfl⟩
                rw [ho]
                exact ⟨_, rfl, rfl, Kept.refl _ _, trivial⟩
              obtain rfl := hv; (go_simp; refine hK _ ?_; clear hK K)
              repeat (first | (refine wx_quietU (by rfl) (by rfl) (by rfl) (fun K hK => ?_); go_big_quiet_op; refine hK _ ?_; clear hK K) | (refine wx_quietG (by rfl) (by rfl) (by rfl) (by rfl) (by rfl) (fun K hK => ?_); go_big_quiet_op; refine hK _ ?_; clear hK K) | (refine wx_skipG (by rfl) (by rfl) (by rfl) (fun K hK => ?_); go_simp; refine hK _ ?_; clear hK K) | (refine wx_skipN (by rfl) (by rfl) (by rfl) (fun K hK => ?_); go_simp; refine hK _ ?_; clear hK K))
              refine wx_loudG (us := []) (by rfl) (by rfl) (by rfl) (by rfl) (fun S wS hC hS hU => runs_enter (f := 21) (by go_simp <;> rfl) ?_) (fun v hv K hK => ?_)
              · refine (dsk_waits w6.heap.size wS (E) d _ (hT3.dk.below hC.below)).mono ?_
                rintro e w' ⟨rfl, rfl⟩
                exact ⟨_, rfl, rfl, Kept.refl _ _, trivial⟩
              obtain rfl := hv; (go_simp; refine hK _ ?_; clear hK K)
              repeat (first | (refine wx_quietU (by rfl) (by rfl) (by rfl) (fun K hK => ?_); go_big_quiet_op; refine hK _ ?_; clear hK K) | (refine wx_quietG (by rfl) (by rfl) (by rfl) (by rfl) (by rfl) (fun K hK => ?_); go_big_quiet_op; refine hK _ ?_; clear hK K) | (refine wx_skipG (by rfl) (by rfl) (by rfl) (fun K hK => ?_); go_simp; refine hK _ ?_; clear hK K) | (refine wx_skipN (by rfl) (by rfl) (by rfl) (fun K hK => ?_); go_simp; refine hK _ ?_; clear hK K))
              refine wx_loudG (us := []) (by rfl) (by rfl) (by rfl) (by rfl) (fun S wS hC hS hU => runs_enter (f := 20) (by go_simp <;> rfl) ?_) (fun v hv K hK => ?_)
              · refine (dsk_size w6.heap.size wS (E) d _ (hT3.dk.below hC.below)).mono ?_
                rintro e w' ⟨rfl, rfl⟩
                rw [hlE]
                exact ⟨_, rfl, rfl, Kept.refl _ _, trivial⟩
              obtain rfl := hv; (go_simp; refine hK _ ?_; clear hK K)
              repeat (first | (refine wx_quietU (by rfl) (by rfl) (by rfl) (fun K hK => ?_); go_big_quiet_op; refine hK _ ?_; clear hK K) | (refine wx_quietG (by rfl) (by rfl) (by rfl) (by rfl) (by rfl) (fun K hK => ?_); go_big_quiet_op; refine hK _ ?_; clear hK K) | (refine wx_skipG (by rfl) (by rfl) (by rfl) (fun K hK => ?_); go_simp; refine hK _ ?_; clear hK K) | (refine wx_skipN (by rfl) (by rfl) (by rfl) (fun K hK => ?_); go_simp; refine hK _ ?_; clear hK K))
              refine wx_nil fun w40 hsat => ?_
              have hb40 := sat_below hsat
              clear hsat zp1 zp3 hRk hJ3
              have hT40 := hT3.below hb40
              have hb41 := hb4.trans (hb40.mono hb4.size)
              go_wp2_with fail
              go_light
              exact ⟨⟨k + 1, E, _, _, by omega, by omega, by go_num, hT40, hF2, hb41⟩, by simp [intOf]; omega⟩
            | false =>
              simp only [ho] at zp3
              refine wp_region_loud (fun _ => False) [(1, plainL [] (.bool true)), (9, plainL [] (.int .i64 (E).order.length)), (19, plainL [] (.int .i64 N))] (fun _ => Fact.none) (by kernel_rfl) (by kernel_rfl)
                (.cons (plainL_ok _ _) (.cons (plainL_ok _ _) (.cons (plainL_ok _ _) .nil))) good_nothing sat_none (WX.out ?_)
              repeat (first | (refine wx_quietU (by rfl) (by rfl) (by rfl) (fun K hK => ?_); go_big_quiet_op; refine hK _ ?_; clear hK K) | (refine wx_quietG (by rfl) (by rfl) (by rfl) (by rfl) (by rfl) (fun K hK => ?_); go_big_quiet_op; refine hK _ ?_; clear hK K) | (refine wx_skipG (by rfl) (by rfl) (by rfl) (fun K hK => ?_); go_simp; refine hK _ ?_; clear hK K) | (refine wx_skipN (by rfl) (by rfl) (by rfl) (fun K hK => ?_); go_simp; refine hK _ ?_; clear hK K))
              refine wx_loudU (us := []) (by rfl) (by rfl) (fun S wS hC hS hU => runs_enter (f := 19) (by go_simp <;> rfl) ?_) (fun v hv K hK => ?_)
              · refine (dsk_on w6.heap.size wS (E) d _ (hT3.dk.below hC.below)).mono ?_
                rintro e w' ⟨rfl, rfl⟩
                rw [ho]
                exact ⟨_, rfl, rfl, Kept.refl _ _, trivial⟩
              obtain rfl := hv; (go_simp; refine hK _ ?_; clear hK K)
              repeat (first | (refine wx_quietU (by rfl) (by rfl) (by rfl) (fun K hK => ?_); go_big_quiet_op; refine hK _ ?_; clear hK K) | (refine wx_quietG (by rfl) (by rfl) (by rfl) (by rfl) (by rfl) (fun K hK => ?_); go_big_quiet_op; refine hK _ ?_; clear hK K) | (refine wx_skipG (by rfl) (by rfl) (by rfl) (fun K hK => ?_); go_simp; refine hK _ ?_; clear hK K) | (refine wx_skipN (by rfl) (by rfl) (by rfl) (fun K hK => ?_); go_simp; refine hK _ ?_; clear hK K))
              refine wx_loudG (us := []) (by rfl) (by rfl) (by rfl) (by rfl) (fun S wS hC hS hU => runs_enter (f := 21) (by go_simp <;> rfl) ?_) (fun v hv K hK => ?_)
              · refine (dsk_waits w6.heap.size wS (E) d _ (hT3.dk.below hC.below)).mono ?_
                rintro e w' ⟨rfl, rfl⟩
                exact ⟨_, rfl, rfl, Kept.refl _ _, trivial⟩
              obtain rfl := hv; (go_simp; refine hK _ ?_; clear hK K)
              repeat (first | (refine wx_quietU (by rfl) (by rfl) (by rfl) (fun K hK => ?_); go_big_quiet_op; refine hK _ ?_; clear hK K) | (refine wx_quietG (by rfl) (by rfl) (by rfl) (by rfl) (by rfl) (fun K hK => ?_); go_big_quiet_op; refine hK _ ?_; clear hK K) | (refine wx_skipG (by rfl) (by rfl) (by rfl) (fun K hK => ?_); go_simp; refine hK _ ?_; clear hK K) | (refine wx_skipN (by rfl) (by rfl) (by rfl) (fun K hK => ?_); go_simp; refine hK _ ?_; clear hK K))
              refine wx_loudG (us := []) (by rfl) (by rfl) (by rfl) (by rfl) (fun S wS hC hS hU => runs_enter (f := 20) (by go_simp <;> rfl) ?_) (fun v hv K hK => ?_)
              · refine (dsk_size w6.heap.size wS (E) d _ (hT3.dk.below hC.below)).mono ?_
                rintro e w' ⟨rfl, rfl⟩
                rw [hlE]
                exact ⟨_, rfl, rfl, Kept.refl _ _, trivial⟩
              obtain rfl := hv; (go_simp; refine hK _ ?_; clear hK K)
              repeat (first | (refine wx_quietU (by rfl) (by rfl) (by rfl) (fun K hK => ?_); go_big_quiet_op; refine hK _ ?_; clear hK K) | (refine wx_quietG (by rfl) (by rfl) (by rfl) (by rfl) (by rfl) (fun K hK => ?_); go_big_quiet_op; refine hK _ ?_; clear hK K) | (refine wx_skipG (by rfl) (by rfl) (by rfl) (fun K hK => ?_); go_simp; refine hK _ ?_; clear hK K) | (refine wx_skipN (by rfl) (by rfl) (by rfl) (fun K hK => ?_); go_simp; refine hK _ ?_; clear hK K))
              refine wx_nil fun w40 hsat => ?_
              have hb40 := sat_below hsat
              clear hsat zp1 zp3 hRk hJ3
              have hT40 := hT3.below hb40
              have hb41 := hb4.trans (hb40.mono hb4.size)
              go_wp2_with fail
              go_light
              exact ⟨⟨k + 1, E, _, _, by omega, by omega, by go_num, hT40, hF2, hb41⟩, by simp [intOf]; omega⟩
        · as_aux_lemma =>
          go_wp2_with fail
          refine (dsk_crash w6.heap.size wr D d I none 0 0 [] hT.dk hb.size hF.ok (sl_nil wr 1) (fun h => by omega)).mono ?_
          rintro e w20 ⟨rfl, I2, hD2, ht2⟩
          obtain ⟨hR1, hdis⟩ := hT.left hD2 ht2
          have hb2 := hb.trans (ht2.1.below_of hb.size (fun b hb => (hT.dk.bd b hb).1))
          have hFc := hF.crash []
          have hlen := hF.len
          have hst : (crashD D []).stay = D.stay := by
            show (crashTo D [] _).stay = _
            rw [← crashTo_end D [] 0 D.order.length (Nat.zero_le _) (Nat.zero_le _)]
            rfl
          have hrd : ∀ j : Nat, j < N → mayE (crashD D []) j = 0 ∧ readE (crashD D []) j = D.stay.getD j zero64 := by
            intro j hj
            have h1 : mayE (crashD D []) (j : Int) = 0 := by
              unfold mayE
              rw [if_neg (by simp [crashD]), if_neg (by rw [hst, hlen]; omega)]
            refine ⟨h1, ?_⟩
            unfold readE
            rw [if_pos h1]
            unfold readB
            rw [hst]
            rfl
          have HRD := hid hrd
          clear hT hb ht2 hst hrd hF hFc
          go_wp2_with fail
          go_loopw [19] (fun i wr2 => ∃ j : Nat, j ≤ N ∧ i = .int .i64 j ∧ Below w20.heap.size w20 wr2) (fun i _ => N - (intOf i).toNat)
          case atStart => exact ⟨0, Nat.zero_le _, rfl, Below.refl _ _⟩
          case round =>
            obtain ⟨j, hj, rfl, hbj⟩ := hrel
            by_cases hjn : j < N
            · obtain ⟨hm0, hrd⟩ := HRD.out j hjn
              have hDj := hD2.below hbj
              have hRj := hR1.below hbj
              go_wp2_with fail
              refine (dsk_read w6.heap.size _ (crashD D []) d I2 j hDj).mono ?_
              rintro e w22 ⟨A1, n1, c1, rfl, hs1, hb22⟩
              rw [hrd] at hs1
              rw [hm0]
              obtain ⟨As3, cs3, r3, Ao3, co3, hRk, hJ3⟩ := hRj.below hb22
              obtain ⟨bs, os, hAs, hbs, ps⟩ := STd_cell (own_sl hRk.stay) (by omega : j < D.stay.length)
              have hcap3 := own_lens hRk.stay
              subst hAs
              have hpl3 := (Array.getElem?_eq_some_iff.1 hRk.blk).1
              have zp0 := fun (z : WK (fun _ => False) w22) => (wat_cell (p := ⟨p, 0, none⟩) hpl3 (fun e => e) z).trans ((blk_cells hRk.blk).1 0)
              have zps := fun (z : WK (fun _ => False) w22) => (wat_cell (p := ⟨bs, os + j, none⟩) hbs (fun e => e) z).trans ps
              have zst := fun (z : WK (fun _ => False) w22) => bstr (sl_kept hs1 (wat_kept z) (fun _ _ e => e))
              simp at zp0
              rw [hlen] at hcap3
              simp only [hlen] at zp0
              have hb23 := hbj.trans (hb22.mono hbj.size)
              clear hDj hRj hRk hJ3 hs1 hb22 ps hrd hm0
              generalize D.stay.getD j zero64 = v at *
              have qs : ((S8 v).toList == (S8 v).toList) = true := by simp
              go_wp2_with fail
              refine wp_region_loud (fun _ => False) [] (fun _ => Fact.none) (by kernel_rfl) (by kernel_rfl) .nil good_nothing sat_none (WX.out ?_)
              repeat (first | (refine wx_quietU (by rfl) (by rfl) (by rfl) (fun K hK => ?_); go_big_quiet_op; refine hK _ ?_; clear hK K) | (refine wx_quietG (by rfl) (by rfl) (by rfl) (by rfl) (by rfl) (fun K hK => ?_); go_big_quiet_op; refine hK _ ?_; clear hK K) | (refine wx_skipG (by rfl) (by rfl) (by rfl) (fun K hK => ?_); go_simp; refine hK _ ?_; clear hK K) | (refine wx_skipN (by rfl) (by rfl) (by rfl) (fun K hK => ?_); go_simp; refine hK _ ?_; clear hK K))
              refine wx_nil fun w24 hsat => ?_
              have hb24 := sat_below hsat
              have hb25 := hb23.trans (hb24.mono hb23.size)
              clear hsat zp0 zps zst qs hb23 hb24
              go_wp2_with fail
              go_light
              exact ⟨⟨j + 1, by omega, by go_num, hb25⟩, by simp [intOf]; omega⟩
            · obtain rfl : j = N := by omega
              have hb6 := hb2.trans (hbj.mono hb2.size)
              go_wp2_with fail
              go_ret
              exact ⟨rfl, hb6⟩
      · as_aux_lemma =>
        go_wp2_with fail
        refine (dsk_crash w6.heap.size wr D d I none 0 0 [] hT.dk hb.size hF.ok (sl_nil wr 1) (fun h => by omega)).mono ?_
        rintro e w20 ⟨rfl, I2, hD2, ht2⟩
        obtain ⟨hR1, hdis⟩ := hT.left hD2 ht2
        have hb2 := hb.trans (ht2.1.below_of hb.size (fun b hb => (hT.dk.bd b hb).1))
        have hFc := hF.crash []
        have hlen := hF.len
        have hst : (crashD D []).stay = D.stay := by
          show (crashTo D [] _).stay = _
          rw [← crashTo_end D [] 0 D.order.length (Nat.zero_le _) (Nat.zero_le _)]
          rfl
        have hrd : ∀ j : Nat, j < N → mayE (crashD D []) j = 0 ∧ readE (crashD D []) j = D.stay.getD j zero64 := by
          intro j hj
          have h1 : mayE (crashD D []) (j : Int) = 0 := by
            unfold mayE
            rw [if_neg (by simp [crashD]), if_neg (by rw [hst, hlen]; omega)]
          refine ⟨h1, ?_⟩
          unfold readE
          rw [if_pos h1]
          unfold readB
          rw [hst]
          rfl
        have HRD := hid hrd
        clear hT hb ht2 hst hrd hF hFc
        go_wp2_with fail
        go_loopw [19] (fun i wr2 => ∃ j : Nat, j ≤ N ∧ i = .int .i64 j ∧ Below w20.heap.size w20 wr2) (fun i _ => N - (intOf i).toNat)
        case atStart => exact ⟨0, Nat.zero_le _, rfl, Below.refl _ _⟩
        case round =>
          obtain ⟨j, hj, rfl, hbj⟩ := hrel
          by_cases hjn : j < N
          · obtain ⟨hm0, hrd⟩ := HRD.out j hjn
            have hDj := hD2.below hbj
            have hRj := hR1.below hbj
            go_wp2_with fail
            refine (dsk_read w6.heap.size _ (crashD D []) d I2 j hDj).mono ?_
            rintro e w22 ⟨A1, n1, c1, rfl, hs1, hb22⟩
            rw [hrd] at hs1
            rw [hm0]
            obtain ⟨As3, cs3, r3, Ao3, co3, hRk, hJ3⟩ := hRj.below hb22
            obtain ⟨bs, os, hAs, hbs, ps⟩ := STd_cell (own_sl hRk.stay) (by omega : j < D.stay.length)
            have hcap3 := own_lens hRk.stay
            subst hAs
            have hpl3 := (Array.getElem?_eq_some_iff.1 hRk.blk).1
            have zp0 := fun (z : WK (fun _ => False) w22) => (wat_cell (p := ⟨p, 0, none⟩) hpl3 (fun e => e) z).trans ((blk_cells hRk.blk).1 0)
            have zps := fun (z : WK (fun _ => False) w22) => (wat_cell (p := ⟨bs, os + j, none⟩) hbs (fun e => e) z).trans ps
            have zst := fun (z : WK (fun _ => False) w22) => bstr (sl_kept hs1 (wat_kept z) (fun _ _ e => e))
            simp at zp0
            rw [hlen] at hcap3
            simp only [hlen] at zp0
            have hb23 := hbj.trans (hb22.mono hbj.size)
            clear hDj hRj hRk hJ3 hs1 hb22 ps hrd hm0
            generalize D.stay.getD j zero64 = v at *
            have qs : ((S8 v).toList == (S8 v).toList) = true := by simp
            go_wp2_with fail
            refine wp_region_loud (fun _ => False) [] (fun _ => Fact.none) (by kernel_rfl) (by kernel_rfl) .nil good_nothing sat_none (WX.out ?_)
            repeat (first | (refine wx_quietU (by rfl) (by rfl) (by rfl) (fun K hK => ?_); go_big_quiet_op; refine hK _ ?_; clear hK K) | (refine wx_quietG (by rfl) (by rfl) (by rfl) (by rfl) (by rfl) (fun K hK => ?_); go_big_quiet_op; refine hK _ ?_; clear hK K) | (refine wx_skipG (by rfl) (by rfl) (by rfl) (fun K hK => ?_); go_simp; refine hK _ ?_; clear hK K) | (refine wx_skipN (by rfl) (by rfl) (by rfl) (fun K hK => ?_); go_simp; refine hK _ ?_; clear hK K))
            refine wx_nil fun w24 hsat => ?_
            have hb24 := sat_below hsat
            have hb25 := hb23.trans (hb24.mono hb23.size)
            clear hsat zp0 zps zst qs hb23 hb24
            go_wp2_with fail
            go_light
            exact ⟨⟨j + 1, by omega, by go_num, hb25⟩, by simp [intOf]; omega⟩
          · obtain rfl : j = N := by omega
            have hb6 := hb2.trans (hbj.mono hb2.size)
            go_wp2_with fail
            go_ret
            exact ⟨rfl, hb6⟩
end Go.Proofs.Ytfhlidlmipleaaa
