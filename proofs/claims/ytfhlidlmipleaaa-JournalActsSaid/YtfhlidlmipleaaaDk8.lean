/-
  Contract of disk's Crash.
-/
import Derived.Test.YtfhlidlmipleaaaDk7
namespace Go.Proofs.Ytfhlidlmipleaaa
set_option linter.unusedVariables false
set_option linter.unusedSimpArgs false
open Go Go.RowKit

def BO (l : List Bool) : List Value := l.map Value.bool
theorem BO_cell {w : World} {A : Option Addr} {n c : Nat} {l : List Bool} (h : Sl w 1 (.slice A n c) (BO l)) {k : Nat} (hk : k < n) : ∃ b off, A = some ⟨b, off, none⟩ ∧ b < w.heap.size ∧ w.cell? ⟨b, off + k, none⟩ = some (.bool (l.getD k false)) := by
  obtain ⟨A', n', c', he, hl, _, _, hr⟩ := h
  injection he with h1 h2 h3
  subst h1; subst h2; subst h3
  obtain ⟨b, off, rfl, hlt, hc⟩ := hr (by omega)
  simp [BO] at hl
  refine ⟨b, off, rfl, hlt, (hc k (by omega)).trans ?_⟩
  simp [BO, List.getD_eq_getElem?_getD, List.getElem?_eq_getElem (show k < l.length by omega)]
theorem II_cell {w : World} {base g n c : Nat} {e : TypeId} {l : List Int} (h : w.ownsRow base e 1 (.slice (some ⟨g, 0, none⟩) n c) n (II l)) {k : Nat} (hk : k < n) : w.cell? ⟨g, k, none⟩ = some (.int .i64 (l.getD k 0)) := by
  have hl := h.1
  simp [II] at hl
  rw [(own_cell h k (by omega)).1]
  simp [II, List.getD_eq_getElem?_getD, List.getElem?_eq_getElem (show k < l.length by omega)]
def crashTo (D : Dk) (kl : List Bool) : Nat → Dk
  | 0 => D
  | k + 1 => if kl.getD k false = true then keepD (crashTo D kl k) (D.order.getD k 0) else crashTo D kl k
theorem crashTo_order (D : Dk) (kl : List Bool) (k : Nat) : (crashTo D kl k).order = D.order := by
  induction k with
  | zero => rfl
  | succ k ih => unfold crashTo; split <;> simp [keepD, ih]
theorem crashTo_stay (D : Dk) (kl : List Bool) (k : Nat) : (crashTo D kl k).stay.length = D.stay.length := by
  induction k with
  | zero => rfl
  | succ k ih => unfold crashTo; split <;> simp [keepD, ih]
def crashD (D : Dk) (kl : List Bool) : Dk := { crashTo D kl D.order.length with wait := [], order := [], off := false, armed := -1 }
set_option maxRecDepth 100000 in
set_option maxHeartbeats 1600000 in
theorem crash_new (base : Nat) (w : World) (D : Dk) (d gs cs r : Nat) (Ao : Option Addr) (co : Nat) (K : Option Addr) (nk ck : Nat) (kl : List Bool) (h : DkAt base w D d gs cs r Ao co) (hbase : base ≤ w.heap.size)
    (hO : ∀ x ∈ D.order, 0 ≤ x ∧ x < D.stay.length) (hK : Sl w 1 (.slice K nk ck) (BO kl)) (hKn : 0 < nk → ∀ ad, K = some ad → ad.block ≠ gs) :
    Calls Try.prog 14 #[.pointer (some ⟨d, 0, none⟩), .slice K nk ck] w fun e w' => e = .returned (.tuple #[]) ∧ ∃ r', DkAt base w' (crashD D kl) d gs cs r' none 0 ∧ Kept (fun x => x = gs ∨ x = d) w w' ∧ w.heap.size ≤ r' := by
  have hcap := own_lens h.ord
  have hklen : kl.length = nk := by
    obtain ⟨A', n', c', he, hl, _⟩ := hK
    injection he with h1 h2 h3
    subst h2
    simpa [BO] using hl
  obtain ⟨hcd, _⟩ := blk_cells h.blk
  have q2 := hcd 2
  simp at q2
  go_enter Try.func14, Try.ntmps14
  go_wp2_with fail
  go_loopw [13] (fun i wr => ∃ k : Nat, k ≤ D.order.length ∧ i = .int .i64 k ∧ DkAt base wr (crashTo D kl k) d gs cs r Ao co ∧ Kept (fun x => x = gs) w wr) (fun i _ => D.order.length - (intOf i).toNat)
  case atStart => exact ⟨0, Nat.zero_le _, rfl, h, Kept.refl _ _⟩
  case round =>
    obtain ⟨k, hk, rfl, hE, hkr⟩ := hrel
    clear hcd q2
    by_cases hlt : k < D.order.length
    · have hord := hE.ord
      rw [crashTo_order] at hord
      obtain ⟨go', rfl, _, _⟩ := own_some hord (by omega)
      have p0 := II_cell hord hlt
      have hx : 0 ≤ D.order.getD k 0 ∧ D.order.getD k 0 < D.stay.length := by
        rw [List.getD_eq_getElem?_getD, List.getElem?_eq_getElem hlt]
        exact hO _ (List.getElem_mem hlt)
      have HX : Hid (∀ y, D.order.getD k 0 = y → crashTo D kl (k + 1) = if kl.getD k false = true then keepD (crashTo D kl k) y else crashTo D kl k) := fun y hy => by rw [crashTo, hy]
      obtain ⟨x, hxe⟩ := Int.eq_ofNat_of_zero_le hx.1
      rw [hxe] at p0 hx
      have HX2 := hid (HX.out _ hxe)
      clear hxe HX hord
      by_cases hkn : k < nk
      · obtain ⟨bk, ok, rfl, hbk, s0⟩ := BO_cell (sl_kept hK hkr (fun ad had => hKn (by omega) ad had)) hkn
        cases hkv : kl.getD k false with
        | true =>
          rw [hkv] at s0
          have HT : Hid (crashTo D kl (k + 1) = keepD (crashTo D kl k) x) := by show _ = _; rw [HX2.out, if_pos hkv]
          clear hkv HX2
          go_wp2_with fail
          refine (keep_any base wr (crashTo D kl k) d gs cs r _ co x hE (by rw [crashTo_stay]; omega)).mono ?_
          rintro e w2 ⟨rfl, h2, hk2⟩
          have hk3 := hkr.then (S' := fun b => b = gs) hk2 (fun b _ hb => hb)
          clear p0 s0 hE hkr hk2
          go_wp2_with fail
          go_light
          exact ⟨⟨k + 1, by omega, by go_num, by rw [HT.out]; exact h2, hk3⟩, by simp [intOf]; omega⟩
        | false =>
          rw [hkv] at s0
          clear HX2
          have HT : Hid (crashTo D kl (k + 1) = crashTo D kl k) := by show _ = _; rw [crashTo, if_neg (by rw [hkv]; exact Bool.false_ne_true)]
          clear hkv
          go_wp2_with fail
          go_light
          exact ⟨⟨k + 1, by omega, by go_num, by rw [HT.out]; exact hE, hkr⟩, by simp [intOf]; omega⟩
      · have hkv : kl.getD k false = false := by rw [List.getD_eq_getElem?_getD, List.getElem?_eq_none (by omega)]; rfl
        clear HX2
        have HT : Hid (crashTo D kl (k + 1) = crashTo D kl k) := by show _ = _; rw [crashTo, if_neg (by rw [hkv]; exact Bool.false_ne_true)]
        clear hkv
        go_wp2_with fail
        go_light
        exact ⟨⟨k + 1, by omega, by go_num, by rw [HT.out]; exact hE, hkr⟩, by simp [intOf]; omega⟩
    · obtain rfl : k = D.order.length := by omega
      go_wp2_with fail
      refine (clear_any base wr _ d gs cs r Ao co hE (by have := hkr.size; omega)).mono ?_
      rintro e w2 ⟨rfl, h2, hk2⟩
      obtain ⟨hc2, hf2⟩ := blk_cells h2.blk
      have p3 := hc2 3
      have p4 := hc2 4
      simp at p3 p4
      have hk := ((Kept.refl (fun b => b = d) w2).setCell (p := ⟨d, 3, none⟩) (.inl rfl) (.bool false)).setCell (p := ⟨d, 4, none⟩) (.inl rfl) (.int .i64 (-1))
      have hb := blk_set (blk_set h2.blk 3 (.bool false)) 4 (.int .i64 (-1))
      simp at hb
      have hD := h2.setd (D' := crashD D kl) hk hb rfl rfl rfl (by simp [crashD])
      have hkk : Kept (fun x => x = gs ∨ x = d) w ((w2.setCell ⟨d, 3, none⟩ (.bool false)).setCell ⟨d, 4, none⟩ (.int .i64 (-1))) := ((hkr.wider (fun b hb => Or.inl hb)).then (S' := fun b => b = d) hk2 (fun b _ hb => .inr hb)).then (S' := fun b => b = d) hk (fun b _ hb => .inr hb)
      have hwr := hkr.size
      clear hb hc2 h2 hk2 hE hkr
      go_wp2_with fail
      refine bodyPost_end (v := .tuple #[]) (by simp [results, Try.results14, go_sem]) rfl ⟨rfl, _, hD, hkk, hwr⟩
theorem crash_any (base : Nat) (w : World) (D : Dk) (d gs cs r : Nat) (Ao : Option Addr) (co : Nat) (K : Option Addr) (nk ck : Nat) (kl : List Bool) (h : DkAt base w D d gs cs r Ao co) (hbase : base ≤ w.heap.size)
    (hO : ∀ x ∈ D.order, 0 ≤ x ∧ x < D.stay.length) (hK : Sl w 1 (.slice K nk ck) (BO kl)) (hKn : 0 < nk → ∀ ad, K = some ad → ad.block ≠ gs) :
    Calls Try.prog 14 #[.pointer (some ⟨d, 0, none⟩), .slice K nk ck] w fun e w' => e = .returned (.tuple #[]) ∧ ∃ r', DkAt base w' (crashD D kl) d gs cs r' none 0 ∧ Kept (fun x => x = gs ∨ x = d) w w' :=
  (crash_new base w D d gs cs r Ao co K nk ck kl h hbase hO hK hKn).mono fun _ _ ⟨h1, r', h2, h3, _⟩ => ⟨h1, r', h2, h3⟩
end Go.Proofs.Ytfhlidlmipleaaa
