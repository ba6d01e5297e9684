/-
  Contracts of the reference's Flush and Crash.
-/
import Derived.Test.YtfhlidlmipleaaaDkG
namespace Go.Proofs.Ytfhlidlmipleaaa
set_option linter.unusedVariables false
set_option linter.unusedSimpArgs false
open Go Go.RowKit

theorem crashTo_wait (D : Dk) (kl : List Bool) (k : Nat) : (crashTo D kl k).wait = D.wait := by
  induction k with
  | zero => rfl
  | succ k ih => unfold crashTo; split <;> simp [keepD, ih]
theorem crashTo_more (D : Dk) (kl : List Bool) (m k : Nat) (h : kl.length ≤ k) : crashTo D kl (k + m) = crashTo D kl k := by
  induction m with
  | zero => rfl
  | succ m ih =>
    show crashTo D kl (k + m + 1) = _
    rw [crashTo, if_neg, ih]
    rw [List.getD_eq_getElem?_getD, List.getElem?_eq_none (by omega)]
    simp
theorem crashTo_end (D : Dk) (kl : List Bool) (k n : Nat) (h : kl.length ≤ k) (hk : k ≤ n) : crashTo D kl k = crashTo D kl n := by
  obtain ⟨m, rfl⟩ : ∃ m, n = k + m := ⟨n - k, by omega⟩
  exact (crashTo_more D kl m k h).symm
theorem STd_set (l : List (List UInt8)) (k : Nat) (v : List UInt8) : (STd l).set k (.string (S8 v)) = STd (l.set k v) := by simp [STd, List.map_set]
/-- the texts' row, as a region's fact -/
def TxF (base : Nat) (n cs : Nat) (As : Option Addr) (xs : List Value) : Fact := OwnF base 9 1 n xs (.slice As n cs)
section
variable {base : Nat} {w w' : World} {D : Dk} {p : Nat} {As : Option Addr} {cs r : Nat} {Ao : Option Addr} {co : Nat}
theorem RkAt.sets {g : Nat} (h : RkAt base w D p (some ⟨g, 0, none⟩) cs r Ao co) (hk : Kept (fun b => b = g) w w') (S' : List (List UInt8)) (hlen : S'.length = D.stay.length)
    (ho : w'.ownsRow base 9 1 (.slice (some ⟨g, 0, none⟩) D.stay.length cs) D.stay.length (STd S')) : RkAt base w' { D with stay := S' } p (some ⟨g, 0, none⟩) cs r Ao co := by
  obtain ⟨es, clk, hm, he⟩ := h.map
  have hsp : g ≠ p := fun e => h.sp (by rw [e]; rfl)
  have hsr : g ≠ r := fun e => h.sr (by rw [e]; rfl)
  refine ⟨?_, by rw [hlen]; exact ho, ⟨es, clk, blk_kept hm hk (fun e => hsr e.symm), he⟩, ownsRow_kept h.ord hk (fun x hx e => h.os x hx (by rw [e]; rfl)), by rw [hlen]; exact h.sp, h.pr, by rw [hlen]; exact h.sr, h.op, by rw [hlen]; exact h.os, h.orr, h.bp, h.br, h.arm⟩
  have := blk_kept h.blk hk (fun e => hsp e.symm)
  rw [this]
  unfold rkC
  rw [hlen]
end
/-- its order and its map made anew -/
theorem RkAt.fresh {base : Nat} {w W : World} {D D' : Dk} {p : Nat} {As : Option Addr} {cs r : Nat} {Ao : Option Addr} {co n : Nat} (h : RkAt base w D p As cs r Ao co) (hk : Kept (fun b => b = p) w W) (hs : D'.stay = D.stay) (hw : D'.wait = []) (ho : D'.order = [])
    (hb : W.heap[p]? = some (.cells (rkC D' As cs n none 0) 51 (0, 0))) (hm : W.heap[n]? = some (.map #[] 0)) (hn : w.heap.size ≤ n) (hbase : base ≤ w.heap.size) (ha : -1 ≤ D'.armed ∧ D'.armed ≤ 9223372036854775807) : RkAt base W D' p As cs n none 0 := by
  have hpl := (Array.getElem?_eq_some_iff.1 h.blk).1
  refine ⟨hb, by rw [hs]; exact ownsRow_kept h.stay hk (fun g hg e => h.sp (by rw [hg, e])), ⟨#[], 0, hm, by rw [hw]; rfl⟩, by rw [ho]; exact own_nilE _ _ _ _, by rw [hs]; exact h.sp, by omega, ?_, by simp [Value.ownBlock], by simp [Value.ownBlock], by simp [Value.ownBlock], h.bp, by omega, ha⟩
  rw [hs]
  intro e
  have := (h.stay.lt n e).2
  omega
theorem mkMapS (w : World) : (Instr.makeMap 49 none).run Try.prog w = .ok (.map (some w.heap.size)) (w.alloc (.map #[] 0)) := by
  simp [Instr.makeMap, run_underlying Try.underlying49, go_sem]
set_option maxRecDepth 100000 in
set_option maxHeartbeats 1600000 in
theorem refFlush_off (base : Nat) (w : World) (D : Dk) (p : Nat) (As : Option Addr) (cs r : Nat) (Ao : Option Addr) (co : Nat) (h : RkAt base w D p As cs r Ao co) (ho : D.off = true) :
    Calls Try.prog 27 #[.pointer (some ⟨p, 0, none⟩)] w fun e w' => e = .returned (.int .i64 2) ∧ w' = w := by
  have q3 := (blk_cells h.blk).1 3
  simp [ho] at q3
  go_enter Try.func27, Try.ntmps27
  go_wp2_with fail
  go_ret
  exact ⟨rfl, rfl⟩
set_option maxRecDepth 100000 in
set_option maxHeartbeats 1600000 in
theorem refFlush_stop (base : Nat) (w : World) (D : Dk) (p : Nat) (As : Option Addr) (cs r : Nat) (Ao : Option Addr) (co : Nat) (h : RkAt base w D p As cs r Ao co) (ho : D.off = false) (hs : (stepD D).2 = 2) :
    Calls Try.prog 27 #[.pointer (some ⟨p, 0, none⟩)] w fun e w' => e = .returned (.int .i64 2) ∧ RkAt base w' (stepD D).1 p As cs r Ao co ∧ Kept (fun b => b = p) w w' := by
  have q3 := (blk_cells h.blk).1 3
  simp [ho] at q3
  have HS := hid hs
  clear hs
  go_enter Try.func27, Try.ntmps27
  go_wp2_with fail
  refine (goes_any base w D p As cs r Ao co h).mono ?_
  rintro e w1 ⟨rfl, h3, hk3⟩
  rw [HS.out]
  go_wp2_with fail
  go_ret
  exact ⟨rfl, h3, hk3⟩
set_option maxRecDepth 100000 in
set_option maxHeartbeats 3200000 in
theorem refFlush_ok (base : Nat) (w : World) (D0 D : Dk) (p : Nat) (As : Option Addr) (cs r : Nat) (Ao : Option Addr) (co : Nat) (h : RkAt base w D0 p As cs r Ao co) (hbase : base ≤ w.heap.size) (hoff : D0.off = false) (hs : stepD D0 = (D, 0))
    (hO : ∀ x ∈ D.order, 0 ≤ x ∧ x < D.stay.length) (hW : ∀ x ∈ D.order, (lookW D.wait x).isSome = true) :
    Calls Try.prog 27 #[.pointer (some ⟨p, 0, none⟩)] w fun e w' => e = .returned (.int .i64 0) ∧ ∃ r', RkAt base w' (flushD D) p As cs r' none 0 ∧ Kept (fun x => Value.ownBlock (.slice As D.stay.length cs) = some x ∨ x = p) w w' ∧ w.heap.size ≤ r' := by
  have q3 := (blk_cells h.blk).1 3
  simp [hoff] at q3
  have HS := hid hs
  clear hs
  go_enter Try.func27, Try.ntmps27
  go_wp2_with fail
  refine (goes_any base w D0 p As cs r Ao co h).mono ?_
  rintro e w1 ⟨rfl, h1, hk1⟩
  rw [HS.out] at h1
  rw [HS.out]
  change RkAt base w1 D p As cs r Ao co at h1
  rw [show decide ((D, (0 : Int)).2 ≠ 0) = false from rfl]
  have hco := own_lens h1.ord
  clear h q3
  go_wp2_with fail
  obtain ⟨kl, hkl⟩ : ∃ kl, List.replicate D.order.length true = kl := ⟨_, rfl⟩
  have hkt : ∀ k, k < D.order.length → kl.getD k false = true := by rw [← hkl]; exact rep_true _
  go_loopw [3] (fun i wr => ∃ k : Nat, k ≤ D.order.length ∧ i = .int .i64 k ∧ RkAt base wr (crashTo D kl k) p As cs r Ao co ∧ Kept (fun x => Value.ownBlock (.slice As D.stay.length cs) = some x) w1 wr) (fun i _ => D.order.length - (intOf i).toNat)
  case atStart => exact ⟨0, Nat.zero_le _, rfl, h1, Kept.refl _ _⟩
  case round =>
    obtain ⟨k, hk, rfl, hE, hkr⟩ := hrel
    have q1 := (blk_cells hE.blk).1 1
    simp at q1
    rw [crashTo_order] at q1
    by_cases hlt : k < D.order.length
    · have hx : 0 ≤ D.order.getD k 0 ∧ D.order.getD k 0 < D.stay.length := by
        rw [List.getD_eq_getElem?_getD, List.getElem?_eq_getElem hlt]
        exact hO _ (List.getElem_mem hlt)
      have hWx : (lookW D.wait (D.order.getD k 0)).isSome = true := by
        rw [List.getD_eq_getElem?_getD, List.getElem?_eq_getElem hlt]
        exact hW _ (List.getElem_mem hlt)
      obtain ⟨x, hxe⟩ := Int.eq_ofNat_of_zero_le hx.1
      rw [hxe] at hWx hx
      have HT : Hid (crashTo D kl (k + 1) = keepD (crashTo D kl k) (x : Int)) := by show _ = _; rw [crashTo, if_pos (hkt k hlt), hxe]
      clear hkl hkt
      have hcap := own_lens hE.stay
      have hlenE := crashTo_stay D kl k
      obtain ⟨gs, rfl, hg1, hg2⟩ := own_some hE.stay (by omega)
      have hsp : gs ≠ p := fun e => hE.sp (by rw [e]; rfl)
      have hsr : gs ≠ r := fun e => hE.sr (by rw [e]; rfl)
      obtain ⟨es, clk, hmap, he⟩ := hE.map
      have hpl := (Array.getElem?_eq_some_iff.1 hE.blk).1
      have hrl := (Array.getElem?_eq_some_iff.1 hmap).1
      obtain ⟨tv, hv⟩ : ∃ tv, lookW (crashTo D kl k).wait (x : Int) = some tv := by
        rw [crashTo_wait]
        exact Option.isSome_iff_exists.1 hWx
      have hord := hE.ord
      rw [crashTo_order] at hord
      obtain ⟨go', hAo, ho1, ho2⟩ := own_some hord (by omega)
      have hos : go' ≠ gs := fun e => hE.os gs (by rw [crashTo_order, hAo, e]; rfl) rfl
      subst hAo
      have p0 := II_cell hord hlt
      rw [hxe] at p0
      have zd0 := fun (z : WK (fun b => b = gs) wr) => (wat_cell (p := ⟨p, 0, none⟩) hpl (fun e => hsp e.symm) z).trans ((blk_cells hE.blk).1 0)
      have zd1 := fun (z : WK (fun b => b = gs) wr) => (wat_cell (p := ⟨p, 1, none⟩) hpl (fun e => hsp e.symm) z).trans ((blk_cells hE.blk).1 1)
      have zd2 := fun (z : WK (fun b => b = gs) wr) => (wat_cell (p := ⟨p, 2, none⟩) hpl (fun e => hsp e.symm) z).trans ((blk_cells hE.blk).1 2)
      have zo := fun (z : WK (fun b => b = gs) wr) => (wat_cell (p := ⟨go', k, none⟩) ho2 (fun e => hos e) z).trans p0
      have zl := fun (z : WK (fun b => b = gs) wr) => ilook (P := Try.prog) (w := wat z) false Try.underlying49 Try.underlying3 (z := .string ⟨#[]⟩) (Try.zeroValue9 (wat z)) (((wat_kept z).block r hrl (fun e => hsr e.symm)).trans hmap) he (x : Int)
      simp only [Bool.false_eq_true, if_false, sv_look, hv, Option.getD_some] at zl
      have HV : Hid (keepD (crashTo D kl k) (x : Int) = { crashTo D kl k with stay := (crashTo D kl k).stay.set x tv }) := by
        show _ = _
        unfold keepD
        rw [hv]
        rfl
      have hst := hE.stay
      rw [hlenE] at hst hcap
      simp at zd0 zd1 zd2
      simp only [crashTo_order] at zd1
      simp only [hlenE] at zd0
      clear hv
      clear hWx hxe h1
      go_wp2_with fail
      refine wp_region_loud (fun b => b = gs)
        [(24, keepL [100] (TxF base D.stay.length cs (some ⟨gs, 0, none⟩) (STd ((crashTo D kl k).stay.set x tv))))]
        (labelled 100 (TxF base D.stay.length cs (some ⟨gs, 0, none⟩) (STd (crashTo D kl k).stay))) (by kernel_rfl) (by kernel_rfl)
        (.cons (keepL_ok _ (good_own _ _ _ _ _ _)) .nil) (good_one 100 (good_own _ _ _ _ _ _)) (sat_one 100 _ (fun g hg => by rw [hg]; exact hg2) ⟨fun g hg => by simp [Value.ownBlock] at hg; exact hg.symm, hst⟩) (WX.out ?_)
      repeat (first | (refine wx_quietU (by rfl) (by rfl) (by rfl) (fun K hK => ?_); go_big_quiet_op; refine hK _ ?_; clear hK K) | (refine wx_quietG (by rfl) (by rfl) (by rfl) (by rfl) (by rfl) (fun K hK => ?_); go_big_quiet_op; refine hK _ ?_; clear hK K) | (refine wx_skipG (by rfl) (by rfl) (by rfl) (fun K hK => ?_); go_simp; refine hK _ ?_; clear hK K) | (refine wx_skipN (by rfl) (by rfl) (by rfl) (fun K hK => ?_); go_simp; refine hK _ ?_; clear hK K))
      refine wx_loudU (us := [100]) (by rfl) (by rfl) (fun S wS hC hS hU => ?_) (fun v hv K hK => ?_)
      · have k100 : TxF base D.stay.length cs (some ⟨gs, 0, none⟩) (STd (crashTo D kl k).stay) S wS := hU 100 (by simp)
        obtain ⟨u0, f0⟩ := own_cell k100.2 x (by omega)
        rw [List.getElem?_eq_getElem (by rw [k100.2.1]; omega)] at u0
        have hset := (k100.2.stored x (.string (S8 tv))).1
        rw [STd_set] at hset
        refine runs_skip (by go_simp <;> rfl) ⟨trivial, (Kept.refl _ _).setCell (.inl (k100.1 gs rfl)) _, fun g hg => Or.inl (k100.1 g hg), hset⟩
      (go_simp; refine hK _ ?_; clear hK K)
      repeat (first | (refine wx_quietU (by rfl) (by rfl) (by rfl) (fun K hK => ?_); go_big_quiet_op; refine hK _ ?_; clear hK K) | (refine wx_quietG (by rfl) (by rfl) (by rfl) (by rfl) (by rfl) (fun K hK => ?_); go_big_quiet_op; refine hK _ ?_; clear hK K) | (refine wx_skipG (by rfl) (by rfl) (by rfl) (fun K hK => ?_); go_simp; refine hK _ ?_; clear hK K) | (refine wx_skipN (by rfl) (by rfl) (by rfl) (fun K hK => ?_); go_simp; refine hK _ ?_; clear hK K))
      refine wx_nil fun w4 hsat => ?_
      have hk4 := hsat.1
      obtain ⟨S4, _, hm5⟩ := sat_get hsat 24
      have hm6 : TxF base D.stay.length cs (some ⟨gs, 0, none⟩) (STd ((crashTo D kl k).stay.set x tv)) S4 w4 := hm5
      have h4 := hE.sets hk4 ((crashTo D kl k).stay.set x tv) (by simp) (by rw [hlenE]; exact hm6.2)
      clear hsat zd0 zd1 zd2 zl zo hm5 hE hmap he hm6 hst hord p0
      have hk5 := hkr.then (S' := fun b => b = gs) hk4 (fun b _ hb => by rw [hb]; rfl)
      clear hkr hk4 q1
      go_wp2_with fail
      go_light
      exact ⟨⟨k + 1, by omega, by go_num, by rw [HT.out, HV.out]; exact h4, hk5⟩, by simp [intOf]; omega⟩
    · obtain rfl : k = D.order.length := by omega
      obtain ⟨c1, f1⟩ := blk_cells hE.blk
      have u1 := c1 1
      have u2 := c1 2
      simp at u1 u2
      rw [crashTo_order] at u1
      obtain ⟨c2, f2⟩ := blk_cells (hE.below ((Below.refl wr.heap.size wr).alloc (Nat.le_refl _) (.map #[] 0))).blk
      have v1 := c2 1
      have v2 := c2 2
      simp at v1 v2
      rw [crashTo_order] at v1
      have hmm := mkMapS wr
      have hkp : Kept (fun b => b = p) wr (((wr.alloc (.map #[] 0)).setCell ⟨p, 1, none⟩ (.slice none 0 0)).setCell ⟨p, 2, none⟩ (.map (some wr.heap.size))) := (((Kept.refl (fun b => b = p) wr).alloc _).setCell (p := ⟨p, 1, none⟩) (.inl rfl) _).setCell (p := ⟨p, 2, none⟩) (.inl rfl) _
      have hb := blk_set (blk_set (blk_alloc hE.blk (.map #[] 0)) 1 (.slice none 0 0)) 2 (.map (some wr.heap.size))
      simp at hb
      have hpn : wr.heap.size ≠ p := by have := (Array.getElem?_eq_some_iff.1 hE.blk).1; omega
      have hm : (((wr.alloc (.map #[] 0)).setCell ⟨p, 1, none⟩ (.slice none 0 0)).setCell ⟨p, 2, none⟩ (.map (some wr.heap.size))).heap[wr.heap.size]? = some (.map #[] 0) := (Below.heap_setCell _ _ _ _ hpn).trans ((Below.heap_setCell _ _ _ _ hpn).trans (heap_alloc_new wr _))
      have hsz1 := hk1.size
      have hsz2 := hkr.size
      have hD := hE.fresh (D' := { crashTo D kl D.order.length with wait := [], order := [] }) (n := wr.heap.size) hkp rfl rfl rfl hb hm (Nat.le_refl _) (by omega) hE.arm
      have hkk : Kept (fun x => Value.ownBlock (.slice As D.stay.length cs) = some x ∨ x = p) w (((wr.alloc (.map #[] 0)).setCell ⟨p, 1, none⟩ (.slice none 0 0)).setCell ⟨p, 2, none⟩ (.map (some wr.heap.size))) := ((hk1.wider (fun b hb => Or.inr hb)).then (S' := fun x => Value.ownBlock (.slice As D.stay.length cs) = some x) hkr (fun b _ hb => .inl hb)).then (S' := fun b => b = p) hkp (fun b _ hb => .inr hb)
      have HF : Hid (flushD D = { crashTo D kl D.order.length with wait := [], order := [] }) := by show _ = _; unfold flushD; rw [hkl]
      clear c1 c2 hkl hkt hb hm hkp hE hkr hk1
      go_wp2_with fail
      go_ret
      refine ⟨rfl, wr.heap.size, by rw [HF.out]; exact hD, hkk, by omega⟩
set_option maxRecDepth 100000 in
set_option maxHeartbeats 3200000 in
theorem refCrash_any (base : Nat) (w : World) (D : Dk) (p : Nat) (As : Option Addr) (cs r : Nat) (Ao : Option Addr) (co : Nat) (K : Option Addr) (nk ck : Nat) (kl : List Bool) (h : RkAt base w D p As cs r Ao co) (hbase : base ≤ w.heap.size)
    (hO : ∀ x ∈ D.order, 0 ≤ x ∧ x < D.stay.length) (hW : ∀ x ∈ D.order, (lookW D.wait x).isSome = true) (hK : Sl w 1 (.slice K nk ck) (BO kl)) (hKn : 0 < nk → ∀ ad, K = some ad → ad.block < base) :
    Calls Try.prog 28 #[.pointer (some ⟨p, 0, none⟩), .slice K nk ck] w fun e w' => e = .returned (.tuple #[]) ∧ ∃ r', RkAt base w' (crashD D kl) p As cs r' none 0 ∧ Kept (fun x => Value.ownBlock (.slice As D.stay.length cs) = some x ∨ x = p) w w' ∧ w.heap.size ≤ r' := by
  have hco := own_lens h.ord
  have hklen : kl.length = nk := by
    obtain ⟨A', n', c', he, hl, _⟩ := hK
    injection he with h1 h2 h3
    subst h2
    simpa [BO] using hl
  have hnkc : nk ≤ ck ∧ ck ≤ 9223372036854775807 := by
    obtain ⟨A', n', c', he, _, h2, h3, _⟩ := hK
    injection he with h4 h5 h6
    subst h4; subst h5; subst h6
    exact ⟨h2, by simpa [maxLen] using h3⟩
  have HKL := hid hklen
  clear hklen
  go_enter Try.func28, Try.ntmps28
  go_wp2_with fail
  go_loopw [4] (fun i wr => ∃ k : Nat, k ≤ D.order.length ∧ k ≤ nk ∧ i = .int .i64 k ∧ RkAt base wr (crashTo D kl k) p As cs r Ao co ∧ Kept (fun x => Value.ownBlock (.slice As D.stay.length cs) = some x) w wr) (fun i _ => D.order.length - (intOf i).toNat)
  case atStart => exact ⟨0, Nat.zero_le _, Nat.zero_le _, rfl, h, Kept.refl _ _⟩
  case round =>
    obtain ⟨k, hk, hk2, rfl, hE, hkr⟩ := hrel
    have q1 := (blk_cells hE.blk).1 1
    simp at q1
    rw [crashTo_order] at q1
    by_cases hlt : k < D.order.length
    · by_cases hkn : k < nk
      · obtain ⟨bk, ok, rfl, hbk, s0⟩ := BO_cell (sl_kept hK hkr (fun ad had e => by
          have h1 := hKn (by omega) ad had
          have h2 := (h.stay.lt _ e).1
          omega)) hkn
        have hx : 0 ≤ D.order.getD k 0 ∧ D.order.getD k 0 < D.stay.length := by
          rw [List.getD_eq_getElem?_getD, List.getElem?_eq_getElem hlt]
          exact hO _ (List.getElem_mem hlt)
        have hWx : (lookW D.wait (D.order.getD k 0)).isSome = true := by
          rw [List.getD_eq_getElem?_getD, List.getElem?_eq_getElem hlt]
          exact hW _ (List.getElem_mem hlt)
        obtain ⟨x, hxe⟩ := Int.eq_ofNat_of_zero_le hx.1
        rw [hxe] at hWx hx
        cases hkv : kl.getD k false with
        | true =>
          rw [hkv] at s0
          have HT : Hid (crashTo D kl (k + 1) = keepD (crashTo D kl k) (x : Int)) := by show _ = _; rw [crashTo, if_pos hkv, hxe]
          have hcap := own_lens hE.stay
          have hlenE := crashTo_stay D kl k
          obtain ⟨gs, rfl, hg1, hg2⟩ := own_some hE.stay (by omega)
          have hsp : gs ≠ p := fun e => hE.sp (by rw [e]; rfl)
          have hsr : gs ≠ r := fun e => hE.sr (by rw [e]; rfl)
          obtain ⟨es, clk, hmap, he⟩ := hE.map
          have hpl := (Array.getElem?_eq_some_iff.1 hE.blk).1
          have hrl := (Array.getElem?_eq_some_iff.1 hmap).1
          obtain ⟨tv, hv⟩ : ∃ tv, lookW (crashTo D kl k).wait (x : Int) = some tv := by
            rw [crashTo_wait]
            exact Option.isSome_iff_exists.1 hWx
          have hord := hE.ord
          rw [crashTo_order] at hord
          obtain ⟨go', hAo, ho1, ho2⟩ := own_some hord (by omega)
          have hos : go' ≠ gs := fun e => hE.os gs (by rw [crashTo_order, hAo, e]; rfl) rfl
          subst hAo
          have p0 := II_cell hord hlt
          rw [hxe] at p0
          have zd0 := fun (z : WK (fun b => b = gs) wr) => (wat_cell (p := ⟨p, 0, none⟩) hpl (fun e => hsp e.symm) z).trans ((blk_cells hE.blk).1 0)
          have zd1 := fun (z : WK (fun b => b = gs) wr) => (wat_cell (p := ⟨p, 1, none⟩) hpl (fun e => hsp e.symm) z).trans ((blk_cells hE.blk).1 1)
          have zd2 := fun (z : WK (fun b => b = gs) wr) => (wat_cell (p := ⟨p, 2, none⟩) hpl (fun e => hsp e.symm) z).trans ((blk_cells hE.blk).1 2)
          have zo := fun (z : WK (fun b => b = gs) wr) => (wat_cell (p := ⟨go', k, none⟩) ho2 (fun e => hos e) z).trans p0
          have zl := fun (z : WK (fun b => b = gs) wr) => ilook (P := Try.prog) (w := wat z) false Try.underlying49 Try.underlying3 (z := .string ⟨#[]⟩) (Try.zeroValue9 (wat z)) (((wat_kept z).block r hrl (fun e => hsr e.symm)).trans hmap) he (x : Int)
          simp only [Bool.false_eq_true, if_false, sv_look, hv, Option.getD_some] at zl
          have HV : Hid (keepD (crashTo D kl k) (x : Int) = { crashTo D kl k with stay := (crashTo D kl k).stay.set x tv }) := by
            show _ = _
            unfold keepD
            rw [hv]
            rfl
          have hst := hE.stay
          rw [hlenE] at hst hcap
          simp at zd0 zd1 zd2
          simp only [crashTo_order] at zd1
          simp only [hlenE] at zd0
          clear hv
          clear hWx hxe h hkv
          go_wp2_with fail
          refine wp_region_loud (fun b => b = gs)
            [(24, keepL [100] (TxF base D.stay.length cs (some ⟨gs, 0, none⟩) (STd ((crashTo D kl k).stay.set x tv))))]
            (labelled 100 (TxF base D.stay.length cs (some ⟨gs, 0, none⟩) (STd (crashTo D kl k).stay))) (by kernel_rfl) (by kernel_rfl)
            (.cons (keepL_ok _ (good_own _ _ _ _ _ _)) .nil) (good_one 100 (good_own _ _ _ _ _ _)) (sat_one 100 _ (fun g hg => by rw [hg]; exact hg2) ⟨fun g hg => by simp [Value.ownBlock] at hg; exact hg.symm, hst⟩) (WX.out ?_)
          repeat (first | (refine wx_quietU (by rfl) (by rfl) (by rfl) (fun K hK => ?_); go_big_quiet_op; refine hK _ ?_; clear hK K) | (refine wx_quietG (by rfl) (by rfl) (by rfl) (by rfl) (by rfl) (fun K hK => ?_); go_big_quiet_op; refine hK _ ?_; clear hK K) | (refine wx_skipG (by rfl) (by rfl) (by rfl) (fun K hK => ?_); go_simp; refine hK _ ?_; clear hK K) | (refine wx_skipN (by rfl) (by rfl) (by rfl) (fun K hK => ?_); go_simp; refine hK _ ?_; clear hK K))
          refine wx_loudU (us := [100]) (by rfl) (by rfl) (fun S wS hC hS hU => ?_) (fun v hv K hK => ?_)
          · have k100 : TxF base D.stay.length cs (some ⟨gs, 0, none⟩) (STd (crashTo D kl k).stay) S wS := hU 100 (by simp)
            obtain ⟨u0, f0⟩ := own_cell k100.2 x (by omega)
            rw [List.getElem?_eq_getElem (by rw [k100.2.1]; omega)] at u0
            have hset := (k100.2.stored x (.string (S8 tv))).1
            rw [STd_set] at hset
            refine runs_skip (by go_simp <;> rfl) ⟨trivial, (Kept.refl _ _).setCell (.inl (k100.1 gs rfl)) _, fun g hg => Or.inl (k100.1 g hg), hset⟩
          (go_simp; refine hK _ ?_; clear hK K)
          repeat (first | (refine wx_quietU (by rfl) (by rfl) (by rfl) (fun K hK => ?_); go_big_quiet_op; refine hK _ ?_; clear hK K) | (refine wx_quietG (by rfl) (by rfl) (by rfl) (by rfl) (by rfl) (fun K hK => ?_); go_big_quiet_op; refine hK _ ?_; clear hK K) | (refine wx_skipG (by rfl) (by rfl) (by rfl) (fun K hK => ?_); go_simp; refine hK _ ?_; clear hK K) | (refine wx_skipN (by rfl) (by rfl) (by rfl) (fun K hK => ?_); go_simp; refine hK _ ?_; clear hK K))
          refine wx_nil fun w4 hsat => ?_
          have hk4 := hsat.1
          obtain ⟨S4, _, hm5⟩ := sat_get hsat 24
          have hm6 : TxF base D.stay.length cs (some ⟨gs, 0, none⟩) (STd ((crashTo D kl k).stay.set x tv)) S4 w4 := hm5
          have h4 := hE.sets hk4 ((crashTo D kl k).stay.set x tv) (by simp) (by rw [hlenE]; exact hm6.2)
          clear hsat zd0 zd1 zd2 zl zo hm5 hE hmap he hm6 hst hord p0
          have hk5 := hkr.then (S' := fun b => b = gs) hk4 (fun b _ hb => by rw [hb]; rfl)
          clear hkr hk4 q1 s0
          go_wp2_with fail
          go_light
          exact ⟨⟨k + 1, by omega, by omega, by go_num, by rw [HT.out, HV.out]; exact h4, hk5⟩, by simp [intOf]; omega⟩
        | false =>
          rw [hkv] at s0
          clear hWx hxe h
          have HT : Hid (crashTo D kl (k + 1) = crashTo D kl k) := by show _ = _; rw [crashTo, if_neg (by rw [hkv]; exact Bool.false_ne_true)]
          clear hkv
          go_wp2_with fail
          go_light
          exact ⟨⟨k + 1, by omega, by omega, by go_num, by rw [HT.out]; exact hE, hkr⟩, by simp [intOf]; omega⟩
      ·
        have hEe : crashTo D kl k = crashTo D kl D.order.length := (crashTo_end D kl k D.order.length (Nat.le_trans (Nat.le_of_eq HKL.out) (Nat.le_of_not_lt hkn)) hk)
        rw [hEe] at hE
        obtain ⟨c1, f1⟩ := blk_cells hE.blk
        have u1 := c1 1
        have u2 := c1 2
        have u3 := c1 3
        have u4 := c1 4
        simp at u1 u2 u3 u4
        rw [crashTo_order] at u1
        obtain ⟨c2, f2⟩ := blk_cells (hE.below ((Below.refl wr.heap.size wr).alloc (Nat.le_refl _) (.map #[] 0))).blk
        have v1 := c2 1
        have v2 := c2 2
        have v3 := c2 3
        have v4 := c2 4
        simp at v1 v2 v3 v4
        rw [crashTo_order] at v1
        have hmm := mkMapS wr
        have hkp : Kept (fun b => b = p) wr (((((wr.alloc (.map #[] 0)).setCell ⟨p, 1, none⟩ (.slice none 0 0)).setCell ⟨p, 2, none⟩ (.map (some wr.heap.size))).setCell ⟨p, 3, none⟩ (.bool false)).setCell ⟨p, 4, none⟩ (.int .i64 (-1))) := (((((Kept.refl (fun b => b = p) wr).alloc _).setCell (p := ⟨p, 1, none⟩) (.inl rfl) _).setCell (p := ⟨p, 2, none⟩) (.inl rfl) _).setCell (p := ⟨p, 3, none⟩) (.inl rfl) _).setCell (p := ⟨p, 4, none⟩) (.inl rfl) _
        have hb := blk_set (blk_set (blk_set (blk_set (blk_alloc hE.blk (.map #[] 0)) 1 (.slice none 0 0)) 2 (.map (some wr.heap.size))) 3 (.bool false)) 4 (.int .i64 (-1))
        simp at hb
        have hpn : wr.heap.size ≠ p := by have := (Array.getElem?_eq_some_iff.1 hE.blk).1; omega
        have hm : (((((wr.alloc (.map #[] 0)).setCell ⟨p, 1, none⟩ (.slice none 0 0)).setCell ⟨p, 2, none⟩ (.map (some wr.heap.size))).setCell ⟨p, 3, none⟩ (.bool false)).setCell ⟨p, 4, none⟩ (.int .i64 (-1))).heap[wr.heap.size]? = some (.map #[] 0) := (Below.heap_setCell _ _ _ _ hpn).trans ((Below.heap_setCell _ _ _ _ hpn).trans ((Below.heap_setCell _ _ _ _ hpn).trans ((Below.heap_setCell _ _ _ _ hpn).trans (heap_alloc_new wr _))))
        have hsz2 := hkr.size
        have hD := hE.fresh (D' := crashD D kl) (n := wr.heap.size) hkp rfl rfl rfl hb hm (Nat.le_refl _) (by omega) (by simp [crashD])
        have hkk : Kept (fun x => Value.ownBlock (.slice As D.stay.length cs) = some x ∨ x = p) w (((((wr.alloc (.map #[] 0)).setCell ⟨p, 1, none⟩ (.slice none 0 0)).setCell ⟨p, 2, none⟩ (.map (some wr.heap.size))).setCell ⟨p, 3, none⟩ (.bool false)).setCell ⟨p, 4, none⟩ (.int .i64 (-1))) := (hkr.wider (fun b hb => .inl hb)).then (S' := fun b => b = p) hkp (fun b _ hb => .inr hb)
        clear c1 c2 hb hm hkp hE hkr hEe
        go_wp2_with fail
        refine bodyPost_end (v := .tuple #[]) (by simp [results, Try.results28, go_sem]) rfl ⟨rfl, wr.heap.size, hD, hkk, by omega⟩
    ·
      have hEe : crashTo D kl k = crashTo D kl D.order.length := (by rw [show k = D.order.length by omega])
      rw [hEe] at hE
      obtain ⟨c1, f1⟩ := blk_cells hE.blk
      have u1 := c1 1
      have u2 := c1 2
      have u3 := c1 3
      have u4 := c1 4
      simp at u1 u2 u3 u4
      rw [crashTo_order] at u1
      obtain ⟨c2, f2⟩ := blk_cells (hE.below ((Below.refl wr.heap.size wr).alloc (Nat.le_refl _) (.map #[] 0))).blk
      have v1 := c2 1
      have v2 := c2 2
      have v3 := c2 3
      have v4 := c2 4
      simp at v1 v2 v3 v4
      rw [crashTo_order] at v1
      have hmm := mkMapS wr
      have hkp : Kept (fun b => b = p) wr (((((wr.alloc (.map #[] 0)).setCell ⟨p, 1, none⟩ (.slice none 0 0)).setCell ⟨p, 2, none⟩ (.map (some wr.heap.size))).setCell ⟨p, 3, none⟩ (.bool false)).setCell ⟨p, 4, none⟩ (.int .i64 (-1))) := (((((Kept.refl (fun b => b = p) wr).alloc _).setCell (p := ⟨p, 1, none⟩) (.inl rfl) _).setCell (p := ⟨p, 2, none⟩) (.inl rfl) _).setCell (p := ⟨p, 3, none⟩) (.inl rfl) _).setCell (p := ⟨p, 4, none⟩) (.inl rfl) _
      have hb := blk_set (blk_set (blk_set (blk_set (blk_alloc hE.blk (.map #[] 0)) 1 (.slice none 0 0)) 2 (.map (some wr.heap.size))) 3 (.bool false)) 4 (.int .i64 (-1))
      simp at hb
      have hpn : wr.heap.size ≠ p := by have := (Array.getElem?_eq_some_iff.1 hE.blk).1; omega
      have hm : (((((wr.alloc (.map #[] 0)).setCell ⟨p, 1, none⟩ (.slice none 0 0)).setCell ⟨p, 2, none⟩ (.map (some wr.heap.size))).setCell ⟨p, 3, none⟩ (.bool false)).setCell ⟨p, 4, none⟩ (.int .i64 (-1))).heap[wr.heap.size]? = some (.map #[] 0) := (Below.heap_setCell _ _ _ _ hpn).trans ((Below.heap_setCell _ _ _ _ hpn).trans ((Below.heap_setCell _ _ _ _ hpn).trans ((Below.heap_setCell _ _ _ _ hpn).trans (heap_alloc_new wr _))))
      have hsz2 := hkr.size
      have hD := hE.fresh (D' := crashD D kl) (n := wr.heap.size) hkp rfl rfl rfl hb hm (Nat.le_refl _) (by omega) (by simp [crashD])
      have hkk : Kept (fun x => Value.ownBlock (.slice As D.stay.length cs) = some x ∨ x = p) w (((((wr.alloc (.map #[] 0)).setCell ⟨p, 1, none⟩ (.slice none 0 0)).setCell ⟨p, 2, none⟩ (.map (some wr.heap.size))).setCell ⟨p, 3, none⟩ (.bool false)).setCell ⟨p, 4, none⟩ (.int .i64 (-1))) := (hkr.wider (fun b hb => .inl hb)).then (S' := fun b => b = p) hkp (fun b _ hb => .inr hb)
      clear c1 c2 hb hm hkp hE hkr hEe
      go_wp2_with fail
      refine bodyPost_end (v := .tuple #[]) (by simp [results, Try.results28, go_sem]) rfl ⟨rfl, wr.heap.size, hD, hkk, by omega⟩
end Go.Proofs.Ytfhlidlmipleaaa
