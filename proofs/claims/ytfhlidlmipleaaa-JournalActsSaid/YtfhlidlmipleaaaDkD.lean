/-
  Contracts of disk's Flush and Arm.
-/
import Derived.Test.YtfhlidlmipleaaaDkC
namespace Go.Proofs.Ytfhlidlmipleaaa
set_option linter.unusedVariables false
set_option linter.unusedSimpArgs false
open Go Go.RowKit

def armD (D : Dk) (i : Int) : Dk := if D.off = true then D else { D with armed := max i (-1) }
set_option maxRecDepth 100000 in
set_option maxHeartbeats 800000 in
theorem arm_any (base : Nat) (w : World) (D : Dk) (d gs cs r : Nat) (Ao : Option Addr) (co : Nat) (i : Int) (h : DkAt base w D d gs cs r Ao co) (hi : i ≤ 9223372036854775807) :
    Calls Try.prog 13 #[.pointer (some ⟨d, 0, none⟩), .int .i64 i] w fun e w' => e = .returned (.tuple #[]) ∧ DkAt base w' (armD D i) d gs cs r Ao co ∧ Kept (fun b => b = d) w w' := by
  obtain ⟨hc, hf⟩ := blk_cells h.blk
  have q3 := hc 3
  have q4 := hc 4
  simp at q3 q4
  obtain ⟨o, ho⟩ : ∃ o, D.off = o := ⟨_, rfl⟩
  rw [ho] at q3
  cases o with
  | true =>
    have HA : Hid (armD D i = D) := by show _ = _; unfold armD; rw [if_pos ho]
    clear hc ho
    go_enter Try.func13, Try.ntmps13
    go_wp2_with fail
    refine bodyPost_end (v := .tuple #[]) (by simp [results, Try.results13, go_sem]) rfl ⟨rfl, by rw [HA.out]; exact h, Kept.refl _ _⟩
  | false =>
    have HA : Hid (armD D i = { D with armed := max i (-1) }) := by show _ = _; unfold armD; rw [if_neg (by rw [ho]; exact Bool.false_ne_true)]
    have hk := (Kept.refl (fun b => b = d) w).setCell (p := ⟨d, 4, none⟩) (.inl rfl) (.int .i64 (max i (-1)))
    have hb := blk_set h.blk 4 (.int .i64 (max i (-1)))
    simp at hb
    have hD := h.setd (D' := { D with armed := max i (-1) }) hk hb rfl rfl rfl (by simp only []; omega)
    clear hb hc ho
    go_enter Try.func13, Try.ntmps13
    go_wp2_with fail
    refine bodyPost_end (v := .tuple #[]) (by simp [results, Try.results13, go_sem]) rfl ⟨rfl, by rw [HA.out]; exact hD, hk⟩
/-- a flush that goes through -/
def flushD (D : Dk) : Dk := { crashTo D (List.replicate D.order.length true) D.order.length with wait := [], order := [] }
theorem rep_true (n k : Nat) (h : k < n) : (List.replicate n true).getD k false = true := by
  rw [List.getD_eq_getElem?_getD, List.getElem?_replicate, if_pos h]; rfl
set_option maxRecDepth 100000 in
set_option maxHeartbeats 1600000 in
theorem flush_ok (base : Nat) (w : World) (D : Dk) (d gs cs r : Nat) (Ao : Option Addr) (co : Nat) (h : DkAt base w D d gs cs r Ao co) (hbase : base ≤ w.heap.size) (hoff : D.off = false) (hs : (stepD D).2 = 0)
    (hO : ∀ x ∈ D.order, 0 ≤ x ∧ x < D.stay.length) :
    Calls Try.prog 18 #[.pointer (some ⟨d, 0, none⟩)] w fun e w' => e = .returned (.int .i64 0) ∧ ∃ r', DkAt base w' (flushD (stepD D).1) d gs cs r' none 0 ∧ Kept (fun x => x = gs ∨ x = d) w w' ∧ w.heap.size ≤ r' := by
  obtain ⟨hcd, _⟩ := blk_cells h.blk
  have q3 := hcd 3
  simp [hoff] at q3
  have hso : (stepD D).1.order = D.order ∧ (stepD D).1.stay = D.stay := by unfold stepD; split; exact ⟨rfl, rfl⟩; split <;> exact ⟨rfl, rfl⟩
  have HS := hid hs
  clear hcd hs hoff
  go_enter Try.func18, Try.ntmps18
  go_wp2_with fail
  refine (step_any base w D d gs cs r Ao co h).mono ?_
  rintro e w1 ⟨rfl, h1, hk1⟩
  rw [HS.out]
  rw [← hso.1, ← hso.2] at hO
  clear hso h HS q3
  obtain ⟨E, he0⟩ : ∃ E, (stepD D).1 = E := ⟨_, rfl⟩
  rw [he0] at h1 hO
  have HE0 := hid he0
  clear he0
  have hcap := own_lens h1.ord
  obtain ⟨hce, _⟩ := blk_cells h1.blk
  have q2 := hce 2
  simp at q2
  clear hce
  go_wp2_with fail
  go_loopw [22] (fun i wr => ∃ k : Nat, k ≤ E.order.length ∧ i = .int .i64 k ∧ DkAt base wr (crashTo E (List.replicate E.order.length true) k) d gs cs r Ao co ∧ Kept (fun x => x = gs) w1 wr) (fun i _ => E.order.length - (intOf i).toNat)
  case atStart => exact ⟨0, Nat.zero_le _, rfl, h1, Kept.refl _ _⟩
  case round =>
    obtain ⟨k, hk, rfl, hE, hkr⟩ := hrel
    clear q2
    by_cases hlt : k < E.order.length
    · have hord := hE.ord
      rw [crashTo_order] at hord
      obtain ⟨go', rfl, _, _⟩ := own_some hord (by omega)
      have p0 := II_cell hord hlt
      have hx : 0 ≤ E.order.getD k 0 ∧ E.order.getD k 0 < E.stay.length := by
        rw [List.getD_eq_getElem?_getD, List.getElem?_eq_getElem hlt]
        exact hO _ (List.getElem_mem hlt)
      have HX : Hid (∀ y, E.order.getD k 0 = y → crashTo E (List.replicate E.order.length true) (k + 1) = keepD (crashTo E (List.replicate E.order.length true) k) y) := fun y hy => by rw [crashTo, if_pos (rep_true _ k hlt), hy]
      obtain ⟨x, hxe⟩ := Int.eq_ofNat_of_zero_le hx.1
      rw [hxe] at p0 hx
      have HT := hid (HX.out _ hxe)
      clear hxe HX hord
      go_wp2_with fail
      refine (keep_any base wr (crashTo E (List.replicate E.order.length true) k) d gs cs r _ co x hE (by rw [crashTo_stay]; omega)).mono ?_
      rintro e w2 ⟨rfl, h2, hk2⟩
      have hk3 := hkr.then (S' := fun b => b = gs) hk2 (fun b _ hb => hb)
      clear p0 hE hkr hk2
      go_wp2_with fail
      go_light
      exact ⟨⟨k + 1, by omega, by go_num, by rw [HT.out]; exact h2, hk3⟩, by simp [intOf]; omega⟩
    · obtain rfl : k = E.order.length := by omega
      go_wp2_with fail
      refine (clear_any base wr _ d gs cs r Ao co hE (by have := hkr.size; have := hk1.size; omega)).mono ?_
      rintro e w2 ⟨rfl, h2, hk2⟩
      have hkk : Kept (fun x => x = gs ∨ x = d) w w2 := ((hk1.wider (fun b hb => Or.inr hb)).then (S' := fun x => x = gs) hkr (fun b _ hb => .inl hb)).then (S' := fun b => b = d) hk2 (fun b _ hb => .inr hb)
      have hwr : w.heap.size ≤ wr.heap.size := Nat.le_trans hk1.size hkr.size
      clear hE hkr hk2 hk1
      go_wp2_with fail
      go_ret
      refine ⟨rfl, wr.heap.size, ?_, hkk, hwr⟩
      rw [HE0.out]
      exact h2
set_option maxRecDepth 100000 in
set_option maxHeartbeats 800000 in
theorem flush_off (base : Nat) (w : World) (D : Dk) (d gs cs r : Nat) (Ao : Option Addr) (co : Nat) (h : DkAt base w D d gs cs r Ao co) (hoff : D.off = true) :
    Calls Try.prog 18 #[.pointer (some ⟨d, 0, none⟩)] w fun e w' => e = .returned (.int .i64 2) ∧ w' = w := by
  have q3 := (blk_cells h.blk).1 3
  simp [hoff] at q3
  go_enter Try.func18, Try.ntmps18
  go_wp2_with fail
  go_ret
  exact ⟨rfl, rfl⟩
set_option maxRecDepth 100000 in
set_option maxHeartbeats 800000 in
theorem flush_stop (base : Nat) (w : World) (D : Dk) (d gs cs r : Nat) (Ao : Option Addr) (co : Nat) (h : DkAt base w D d gs cs r Ao co) (hoff : D.off = false) (hs : (stepD D).2 = 2) :
    Calls Try.prog 18 #[.pointer (some ⟨d, 0, none⟩)] w fun e w' => e = .returned (.int .i64 2) ∧ DkAt base w' (stepD D).1 d gs cs r Ao co ∧ Kept (fun b => b = d) w w' := by
  have q3 := (blk_cells h.blk).1 3
  simp [hoff] at q3
  have HS := hid hs
  clear hs
  go_enter Try.func18, Try.ntmps18
  go_wp2_with fail
  refine (step_any base w D d gs cs r Ao co h).mono ?_
  rintro e w1 ⟨rfl, h1, hk1⟩
  rw [HS.out]
  go_wp2_with fail
  go_ret
  exact ⟨rfl, h1, hk1⟩
end Go.Proofs.Ytfhlidlmipleaaa
