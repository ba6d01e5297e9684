/-
  The law's waits.
-/
import Derived.Test.YtfhlidlmipleaaaDk8
import Derived.Test.YtfhlidlmipleaaaStr
namespace Go.Proofs.Ytfhlidlmipleaaa
set_option linter.unusedVariables false
set_option linter.unusedSimpArgs false
open Go Go.RowKit

theorem full_num (n : Nat) (c : UInt8) (h : c.toNat = n) (w : World) : Calls Try.prog 25 #[.int .u8 (n : Int)] w fun e w' => ∃ g, e = .returned (.slice (some ⟨g, 0, none⟩) 64 64) ∧ w.heap.size ≤ g ∧ g < w'.heap.size ∧
      w'.ownsRow w.heap.size 5 1 (.slice (some ⟨g, 0, none⟩) 64 64) 64 (B8 (fullL c)) ∧ Below w.heap.size w w' := by
  subst h
  exact full_any c w
/-- its blocks are there -/
theorem DkAt.lts {base : Nat} {w : World} {D : Dk} {d gs cs r : Nat} {Ao : Option Addr} {co : Nat} (h : DkAt base w D d gs cs r Ao co) : d < w.heap.size ∧ gs < w.heap.size ∧ r < w.heap.size ∧ (∀ g, Value.ownBlock (.slice Ao D.order.length co) = some g → g < w.heap.size) := by
  obtain ⟨es, clk, hm, _⟩ := h.map
  exact ⟨(Array.getElem?_eq_some_iff.1 h.blk).1, (h.stay.lt gs rfl).2, (Array.getElem?_eq_some_iff.1 hm).1, fun g hg => (h.ord.lt g hg).2⟩
theorem DkAt.ges {base : Nat} {w : World} {D : Dk} {d gs cs r : Nat} {Ao : Option Addr} {co : Nat} (h : DkAt base w D d gs cs r Ao co) : base ≤ d ∧ base ≤ gs ∧ base ≤ r ∧ (∀ g, Value.ownBlock (.slice Ao D.order.length co) = some g → base ≤ g) :=
  ⟨h.bd, (h.stay.lt gs rfl).1, h.br, fun g hg => (h.ord.lt g hg).1⟩
theorem fresh_nb {base : Nat} {w : World} {D : Dk} {d gs cs r : Nat} {Ao : Option Addr} {co g : Nat} (h : DkAt base w D d gs cs r Ao co) (hg : w.heap.size ≤ g) : ¬ (g = d ∨ g = r ∨ Value.ownBlock (.slice Ao D.order.length co) = some g) := by
  obtain ⟨h1, h2, h3, h4⟩ := h.lts
  rintro (e | e | e)
  · omega
  · omega
  · have := h4 g e; omega
theorem write_below {base : Nat} {w w' : World} {D : Dk} {d gs cs r : Nat} {Ao : Option Addr} {co : Nat} (h : DkAt base w D d gs cs r Ao co) (hbase : base ≤ w.heap.size) (hk : Kept (fun x => x = d ∨ x = r ∨ Value.ownBlock (.slice Ao D.order.length co) = some x) w w') : Below base w w' := by
  obtain ⟨h1, h2, h3, h4⟩ := h.ges
  refine hk.below_of hbase (fun b hb => ?_)
  rcases hb with e | e | e
  · omega
  · omega
  · exact h4 b e
def dk1 : Dk := laidD (newD 2) 0 (fullL 1)
def dk2 : Dk := laidD dk1 0 (fullL 2)
def dk3 : Dk := crashD dk2 [true]
theorem dk_facts : dk1.order = [0] ∧ dk2.order = [0] ∧ dk2.stay.length = 2 ∧ dk3.order.length = 0 ∧ dk3.off = false ∧ dk3.stay.length = 2 ∧ readB dk3 0 = fullL 2 := by
  refine ⟨?_, ?_, ?_, ?_, ?_, ?_, ?_⟩ <;> rfl
set_option maxRecDepth 100000 in
set_option maxHeartbeats 1600000 in
theorem waitsLaw_any (w : World) : Calls Try.prog 16 #[] w fun e w' => e = .returned (.bool true) ∧ Below w.heap.size w w' := by
  go_enter Try.func16, Try.ntmps16
  go_wp2_with fail
  refine (newDisk_any 2 w (by omega) (by omega)).mono ?_
  rintro e w1 ⟨d, gs, cs, r, rfl, h1, _, hb1⟩
  go_wp2_with fail
  refine (full_num 1 1 rfl w1).mono ?_
  rintro e w2 ⟨g1, rfl, hg1, hg1', ho1, hb2⟩
  have h2 := h1.below hb2
  have hbw2 := hb1.trans (hb2.mono hb1.size)
  have hn1 := fresh_nb h1 hg1
  clear h1 hb1 hb2
  go_wp2_with fail
  refine (write_new w.heap.size w2 (newD 2) d gs cs r none 0 0 g1 0 64 (fullL 1) h2 hbw2.size rfl rfl (own_sl ho1) (by simp [newD]) rfl hn1).mono ?_
  rintro e w3 ⟨rfl, Ao, co, h3, hk3, _⟩
  have hbw3 := hbw2.trans ((write_below h2 hbw2.size hk3).mono (Nat.le_refl _))
  clear h2 hk3 ho1 hn1 hbw2
  go_wp2_with fail
  refine (full_num 2 2 rfl w3).mono ?_
  rintro e w4 ⟨g2, rfl, hg2, hg2', ho2, hb4⟩
  have h4 := h3.below hb4
  have hbw4 := hbw3.trans (hb4.mono hbw3.size)
  have hn2 := fresh_nb h3 hg2
  clear h3 hb4 hbw3
  go_wp2_with fail
  refine (write_new w.heap.size w4 dk1 d gs cs r Ao co 0 g2 0 64 (fullL 2) h4 hbw4.size rfl rfl (own_sl ho2) (by rw [dk_facts.1]; simp) rfl hn2).mono ?_
  rintro e w5 ⟨rfl, Ao2, co2, h5, hk5, _⟩
  have hbw5 := hbw4.trans ((write_below h4 hbw4.size hk5).mono (Nat.le_refl _))
  clear h4 hk5 ho2 hn2 hbw4
  go_wp2_with fail
  refine (waits_any w.heap.size w5 dk2 d gs cs r Ao2 co2 h5).mono ?_
  rintro e w6 ⟨rfl, rfl⟩
  rw [dk_facts.2.1]
  have hba := (Below.refl w6.heap.size w6).alloc (Nat.le_refl _) (.cells #[.bool true] 4)
  have h7 := h5.below hba
  have hbw7 := hbw5.trans (hba.mono hbw5.size)
  have hkb : Sl (w6.alloc (.cells #[.bool true] 4)) 1 (.slice (some ⟨w6.heap.size, 0, none⟩) 1 1) (BO [true]) := own_sl (own_made w6 0 4 1 1 #[.bool true] (BO [true]) (Nat.zero_le _) rfl rfl (by omega) (by omega))
  have hl5 := h5.lts
  clear h5 hba hbw5
  go_wp2_with fail
  refine (crash_any w.heap.size _ dk2 d gs cs r Ao2 co2 (some ⟨w6.heap.size, 0, none⟩) 1 1 [true] h7 hbw7.size (by rw [dk_facts.2.1, dk_facts.2.2.1]; simp) hkb (fun _ ad had => by injection had with had; subst had; have := hl5.2.1; simp only []; omega)).mono ?_
  rintro e w8 ⟨rfl, r8, h8, hk8⟩
  have hbw8 := hbw7.trans (hk8.below_of hbw7.size (fun b hb => by rcases hb with e | e <;> rw [e]; exact h7.ges.2.1; exact h7.ges.1))
  clear h7 hk8 hkb hbw7 hl5
  go_wp2_with fail
  refine (read_any w.heap.size w8 dk3 d gs cs r8 none 0 0 h8 (by rw [dk_facts.2.2.2.2.2.1]; omega) rfl).mono ?_
  rintro e w9 ⟨g9, rfl, hg9, hg9', hs9, hb9⟩
  rw [dk_facts.2.2.2.2.2.2] at hs9
  have h9 := h8.below hb9
  have hbw9 := hbw8.trans (hb9.mono hbw8.size)
  clear h8 hb9 hbw8
  go_wp2_with fail
  have qs : ((S8 (fullL 2)).toList == (S8 (fullL 2)).toList) = true := by simp
  refine wp_region_loud (fun _ => False)
    [(20, plainL [] (.int .i64 0)), (25, plainL [] (.string (S8 (fullL 2)))), (26, rowL [] w9.heap.size 5 1 64 (B8 (fullL 2))), (27, plainL [26] (.string (S8 (fullL 2))))]
    (fun _ => Fact.none) (by kernel_rfl) (by kernel_rfl)
    (.cons (plainL_ok _ _) (.cons (plainL_ok _ _) (.cons (rowL_ok _ _ _ _ _ _) (.cons (plainL_ok _ _) .nil)))) good_nothing sat_none (WX.out ?_)
  repeat (first | (refine wx_quietU (by rfl) (by rfl) (by rfl) (fun K hK => ?_); go_big_quiet_op; refine hK _ ?_; clear hK K) | (refine wx_quietG (by rfl) (by rfl) (by rfl) (by rfl) (by rfl) (fun K hK => ?_); go_big_quiet_op; refine hK _ ?_; clear hK K) | (refine wx_skipG (by rfl) (by rfl) (by rfl) (fun K hK => ?_); go_simp; refine hK _ ?_; clear hK K) | (refine wx_skipN (by rfl) (by rfl) (by rfl) (fun K hK => ?_); go_simp; refine hK _ ?_; clear hK K))
  refine wx_loudG (us := []) (by rfl) (by rfl) (by rfl) (by rfl) (fun S wS hC hS hU => runs_enter (f := 21) (by go_simp <;> rfl) ?_) (fun v hv K hK => ?_)
  · refine (waits_any w.heap.size wS dk3 d gs cs r8 none 0 (h9.below hC.below)).mono ?_
    rintro e w' ⟨rfl, rfl⟩
    exact ⟨_, rfl, rfl, Kept.refl _ _, trivial⟩
  obtain rfl := hv; (go_simp; refine hK _ ?_; clear hK K)
  repeat (first | (refine wx_quietU (by rfl) (by rfl) (by rfl) (fun K hK => ?_); go_big_quiet_op; refine hK _ ?_; clear hK K) | (refine wx_quietG (by rfl) (by rfl) (by rfl) (by rfl) (by rfl) (fun K hK => ?_); go_big_quiet_op; refine hK _ ?_; clear hK K) | (refine wx_skipG (by rfl) (by rfl) (by rfl) (fun K hK => ?_); go_simp; refine hK _ ?_; clear hK K) | (refine wx_skipN (by rfl) (by rfl) (by rfl) (fun K hK => ?_); go_simp; refine hK _ ?_; clear hK K))
  refine wx_loudG (us := []) (by rfl) (by rfl) (by rfl) (by rfl) (fun S wS hC hS hU => ?_) (fun v hv K hK => ?_)
  · have st := bstr (hs9.below hC.below)
    exact runs_value (by go_simp <;> rfl) ⟨rfl, Kept.refl _ _, trivial⟩
  obtain rfl := hv; (go_simp; refine hK _ ?_; clear hK K)
  repeat (first | (refine wx_quietU (by rfl) (by rfl) (by rfl) (fun K hK => ?_); go_big_quiet_op; refine hK _ ?_; clear hK K) | (refine wx_quietG (by rfl) (by rfl) (by rfl) (by rfl) (by rfl) (fun K hK => ?_); go_big_quiet_op; refine hK _ ?_; clear hK K) | (refine wx_skipG (by rfl) (by rfl) (by rfl) (fun K hK => ?_); go_simp; refine hK _ ?_; clear hK K) | (refine wx_skipN (by rfl) (by rfl) (by rfl) (fun K hK => ?_); go_simp; refine hK _ ?_; clear hK K))
  refine wx_loudG (us := []) (by rfl) (by rfl) (by rfl) (by rfl) (fun S wS hC hS hU => runs_enter (f := 25) (by go_simp <;> rfl) ?_) (fun v hv K hK => ?_)
  · refine (full_num 2 2 rfl wS).mono ?_
    rintro e w' ⟨g, rfl, _, _, ho, hb⟩
    exact ⟨_, rfl, ⟨_, _, rfl⟩, Kept.of_below hb, own_fresh ho hC.size⟩
  obtain ⟨A7, c7, rfl⟩ := hv; (go_simp; refine hK _ ?_; clear hK K)
  repeat (first | (refine wx_quietU (by rfl) (by rfl) (by rfl) (fun K hK => ?_); go_big_quiet_op; refine hK _ ?_; clear hK K) | (refine wx_quietG (by rfl) (by rfl) (by rfl) (by rfl) (by rfl) (fun K hK => ?_); go_big_quiet_op; refine hK _ ?_; clear hK K) | (refine wx_skipG (by rfl) (by rfl) (by rfl) (fun K hK => ?_); go_simp; refine hK _ ?_; clear hK K) | (refine wx_skipN (by rfl) (by rfl) (by rfl) (fun K hK => ?_); go_simp; refine hK _ ?_; clear hK K))
  refine wx_loudG (us := [26]) (by rfl) (by rfl) (by rfl) (by rfl) (fun S wS hC hS hU => ?_) (fun v hv K hK => ?_)
  · have k26 : OwnF w9.heap.size 5 1 64 (B8 (fullL 2)) (.slice A7 64 c7) S wS := hU 26 (by simp)
    have st := bstr (own_sl k26.2)
    exact runs_value (by go_simp <;> rfl) ⟨rfl, Kept.refl _ _, trivial⟩
  obtain rfl := hv; (go_simp; refine hK _ ?_; clear hK K)
  repeat (first | (refine wx_quietU (by rfl) (by rfl) (by rfl) (fun K hK => ?_); go_big_quiet_op; refine hK _ ?_; clear hK K) | (refine wx_quietG (by rfl) (by rfl) (by rfl) (by rfl) (by rfl) (fun K hK => ?_); go_big_quiet_op; refine hK _ ?_; clear hK K) | (refine wx_skipG (by rfl) (by rfl) (by rfl) (fun K hK => ?_); go_simp; refine hK _ ?_; clear hK K) | (refine wx_skipN (by rfl) (by rfl) (by rfl) (fun K hK => ?_); go_simp; refine hK _ ?_; clear hK K))
  refine wx_nil fun w10 hsat => ?_
  have hb10 := sat_below hsat
  have hbw10 := hbw9.trans (hb10.mono hbw9.size)
  clear hsat qs
  go_wp2_with fail
  go_ret
  exact ⟨rfl, hbw10⟩
end Go.Proofs.Ytfhlidlmipleaaa
