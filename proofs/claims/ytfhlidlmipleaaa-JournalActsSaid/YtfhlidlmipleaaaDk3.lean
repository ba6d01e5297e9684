/-
  What a disk is in memory; contracts of may, step, Waits.
-/
import Derived.Test.YtfhlidlmipleaaaDk2
namespace Go.Proofs.Ytfhlidlmipleaaa
set_option linter.unusedVariables false
set_option linter.unusedSimpArgs false
open Go Go.RowKit

theorem own_lens {w : World} {base : Nat} {e : TypeId} {size n c : Nat} {A : Option Addr} {xs : List Value} (h : w.ownsRow base e size (.slice A n c) n xs) : n ≤ c ∧ c ≤ 9223372036854775807 := by
  obtain ⟨A', n', c', he, hl, h2, h3, hr⟩ := own_sl h
  injection he with h4 h5 h6
  subst h4; subst h5; subst h6
  exact ⟨h2, by simpa [maxLen] using h3⟩
structure Dk where
  stay : List (List UInt8)
  wait : List (Int × List UInt8)
  order : List Int
  off : Bool
  armed : Int
def secV (l : List UInt8) : Value := .agg (B8 l).toArray
def wv (l : List (Int × List UInt8)) : List (Int × Value) := l.map fun p => (p.1, secV p.2)
def SEC (l : List (List UInt8)) : List Value := l.flatMap B8
def II (l : List Int) : List Value := l.map fun z => Value.int .i64 z
abbrev dkC (D : Dk) (gs cs r : Nat) (Ao : Option Addr) (co : Nat) : Array Value := #[.slice (some ⟨gs, 0, none⟩) D.stay.length cs, .map (some r), .slice Ao D.order.length co, .bool D.off, .int .i64 D.armed]
/-- a disk: its block d, its sectors' row gs, its map r, the row of its order -/
structure DkAt (base : Nat) (w : World) (D : Dk) (d gs cs r : Nat) (Ao : Option Addr) (co : Nat) : Prop where
  blk : w.heap[d]? = some (.cells (dkC D gs cs r Ao co) 143 (0, 0))
  stay : w.ownsRow base 146 64 (.slice (some ⟨gs, 0, none⟩) D.stay.length cs) D.stay.length (SEC D.stay)
  map : ∃ es clk, w.heap[r]? = some (.map es clk) ∧ Ent es (wv D.wait)
  ord : w.ownsRow base 3 1 (.slice Ao D.order.length co) D.order.length (II D.order)
  ds : d ≠ gs
  dr : d ≠ r
  sr : gs ≠ r
  od : Value.ownBlock (.slice Ao D.order.length co) ≠ some d
  os : Value.ownBlock (.slice Ao D.order.length co) ≠ some gs
  orr : Value.ownBlock (.slice Ao D.order.length co) ≠ some r
  bd : base ≤ d
  br : base ≤ r
  sec : ∀ s ∈ D.stay, s.length = 64
  secw : ∀ p ∈ D.wait, p.2.length = 64
  arm : -1 ≤ D.armed ∧ D.armed ≤ 9223372036854775807
section
variable {base : Nat} {w w' : World} {D D' : Dk} {d gs cs r : Nat} {Ao : Option Addr} {co : Nat}
/-- its own block written: the rest stands -/
theorem DkAt.setd (h : DkAt base w D d gs cs r Ao co) (hk : Kept (fun b => b = d) w w') (hblk : w'.heap[d]? = some (.cells (dkC D' gs cs r Ao co) 143 (0, 0))) (h1 : D'.stay = D.stay) (h2 : D'.wait = D.wait) (h3 : D'.order = D.order)
    (ha : -1 ≤ D'.armed ∧ D'.armed ≤ 9223372036854775807) : DkAt base w' D' d gs cs r Ao co := by
  obtain ⟨es, clk, hm, he⟩ := h.map
  refine ⟨hblk, ?_, ⟨es, clk, blk_kept hm hk (fun e => h.dr e.symm), by rw [h2]; exact he⟩, ?_, h.ds, h.dr, h.sr, by rw [h3]; exact h.od, by rw [h3]; exact h.os, by rw [h3]; exact h.orr, h.bd, h.br, by rw [h1]; exact h.sec, by rw [h2]; exact h.secw, ha⟩
  · rw [h1]
    exact ownsRow_kept h.stay hk (fun g hg e => by simp [Value.ownBlock] at hg; exact h.ds (by rw [← e, hg]))
  · rw [h3]
    exact ownsRow_kept h.ord hk (fun g hg e => h.od (by rw [hg, e]))
/-- what else is done elsewhere -/
theorem DkAt.kept {S : Nat → Prop} (h : DkAt base w D d gs cs r Ao co) (hk : Kept S w w') (h1 : ¬ S d) (h2 : ¬ S gs) (h3 : ¬ S r) (h4 : ∀ g, Value.ownBlock (.slice Ao D.order.length co) = some g → ¬ S g) : DkAt base w' D d gs cs r Ao co := by
  obtain ⟨es, clk, hm, he⟩ := h.map
  exact ⟨blk_kept h.blk hk h1, ownsRow_kept h.stay hk (fun g hg => by simp [Value.ownBlock] at hg; rw [← hg]; exact h2), ⟨es, clk, blk_kept hm hk h3, he⟩, ownsRow_kept h.ord hk h4, h.ds, h.dr, h.sr, h.od, h.os, h.orr, h.bd, h.br, h.sec, h.secw, h.arm⟩
theorem DkAt.below (h : DkAt base w D d gs cs r Ao co) (hb : Below w.heap.size w w') : DkAt base w' D d gs cs r Ao co :=
  h.kept (S := fun _ => False) (Kept.of_below hb) (fun x => x) (fun x => x) (fun x => x) (fun _ _ x => x)
end
set_option maxRecDepth 100000 in
set_option maxHeartbeats 400000 in
theorem waits_any (base : Nat) (w : World) (D : Dk) (d gs cs r : Nat) (Ao : Option Addr) (co : Nat) (h : DkAt base w D d gs cs r Ao co) :
    Calls Try.prog 21 #[.pointer (some ⟨d, 0, none⟩)] w fun e w' => e = .returned (.int .i64 D.order.length) ∧ w' = w := by
  obtain ⟨hc, _⟩ := blk_cells h.blk
  have q2 := hc 2
  simp at q2
  go_enter Try.func21, Try.ntmps21
  go_wp2_with fail
  go_ret
  exact ⟨rfl, rfl⟩
/-- the error of power, and of a place -/
def mayE (D : Dk) (i : Int) : Int := if D.off = true then 2 else if i < 0 ∨ (D.stay.length : Int) ≤ i then 1 else 0
set_option maxRecDepth 100000 in
set_option maxHeartbeats 800000 in
theorem may_any (base : Nat) (w : World) (D : Dk) (d gs cs r : Nat) (Ao : Option Addr) (co : Nat) (i : Int) (h : DkAt base w D d gs cs r Ao co) :
    Calls Try.prog 75 #[.pointer (some ⟨d, 0, none⟩), .int .i64 i] w fun e w' => e = .returned (.int .i64 (mayE D i)) ∧ w' = w := by
  obtain ⟨hc, _⟩ := blk_cells h.blk
  have q0 := hc 0
  have q3 := hc 3
  simp at q0 q3
  obtain ⟨o, ho⟩ : ∃ o, D.off = o := ⟨_, rfl⟩
  rw [ho] at q3
  have hcap := own_lens h.stay
  cases o with
  | true =>
    have HM : Hid (mayE D i = 2) := by show _ = _; unfold mayE; rw [if_pos ho]
    clear hc
    go_enter Try.func75, Try.ntmps75
    go_wp2_with fail
    go_ret
    exact ⟨by rw [HM.out] <;> rfl, rfl⟩
  | false =>
    by_cases h1 : i < 0
    · have HM : Hid (mayE D i = 1) := by show _ = _; unfold mayE; rw [if_neg (by rw [ho]; exact Bool.false_ne_true), if_pos (.inl h1)]
      clear hc
      go_enter Try.func75, Try.ntmps75
      go_wp2_with fail
      go_ret
      exact ⟨by rw [HM.out] <;> rfl, rfl⟩
    · by_cases h2 : (D.stay.length : Int) ≤ i
      · have HM : Hid (mayE D i = 1) := by show _ = _; unfold mayE; rw [if_neg (by rw [ho]; exact Bool.false_ne_true), if_pos (.inr h2)]
        clear hc
        go_enter Try.func75, Try.ntmps75
        go_wp2_with fail
        go_ret
        exact ⟨by rw [HM.out] <;> rfl, rfl⟩
      · have HM : Hid (mayE D i = 0) := by show _ = _; unfold mayE; rw [if_neg (by rw [ho]; exact Bool.false_ne_true), if_neg (by omega)]
        clear hc
        go_enter Try.func75, Try.ntmps75
        go_wp2_with fail
        go_ret
        exact ⟨by rw [HM.out] <;> rfl, rfl⟩
/-- a step -/
def stepD (D : Dk) : Dk × Int := if D.armed = 0 then ({ D with off := true, armed := -1 }, 2) else if 0 < D.armed then ({ D with armed := D.armed - 1 }, 0) else (D, 0)
set_option maxRecDepth 100000 in
set_option maxHeartbeats 800000 in
theorem step_any (base : Nat) (w : World) (D : Dk) (d gs cs r : Nat) (Ao : Option Addr) (co : Nat) (h : DkAt base w D d gs cs r Ao co) :
    Calls Try.prog 76 #[.pointer (some ⟨d, 0, none⟩)] w fun e w' => e = .returned (.int .i64 (stepD D).2) ∧ DkAt base w' (stepD D).1 d gs cs r Ao co ∧ Kept (fun b => b = d) w w' := by
  obtain ⟨hc, hf⟩ := blk_cells h.blk
  have q3 := hc 3
  have q4 := hc 4
  simp at q3 q4
  have ha := h.arm
  by_cases h0 : D.armed = 0
  · have HS : Hid (stepD D = ({ D with off := true, armed := -1 }, 2)) := by show _ = _; unfold stepD; rw [if_pos h0]
    have hk := ((Kept.refl (fun b => b = d) w).setCell (p := ⟨d, 3, none⟩) (.inl rfl) (.bool true)).setCell (p := ⟨d, 4, none⟩) (.inl rfl) (.int .i64 (-1))
    have hb := blk_set (blk_set h.blk 3 (.bool true)) 4 (.int .i64 (-1))
    simp at hb
    have hD := h.setd (D' := { D with off := true, armed := -1 }) hk hb rfl rfl rfl (by simp)
    rw [h0] at q4
    clear hb hc
    go_enter Try.func76, Try.ntmps76
    go_wp2_with fail
    go_ret
    exact ⟨by rw [HS.out] <;> rfl, by rw [HS.out]; exact hD, hk⟩
  · have t0 : (D.armed == 0) = false := by simpa using h0
    by_cases h1 : 0 < D.armed
    · have HS : Hid (stepD D = ({ D with armed := D.armed - 1 }, 0)) := by show _ = _; unfold stepD; rw [if_neg h0, if_pos h1]
      have hk := (Kept.refl (fun b => b = d) w).setCell (p := ⟨d, 4, none⟩) (.inl rfl) (.int .i64 (D.armed - 1))
      have hb := blk_set h.blk 4 (.int .i64 (D.armed - 1))
      simp at hb
      have hD := h.setd (D' := { D with armed := D.armed - 1 }) hk hb rfl rfl rfl (by simp only []; omega)
      clear hb hc h0
      go_enter Try.func76, Try.ntmps76
      go_wp2_with fail
      go_ret
      exact ⟨by rw [HS.out] <;> rfl, by rw [HS.out]; exact hD, hk⟩
    · have HS : Hid (stepD D = (D, 0)) := by show _ = _; unfold stepD; rw [if_neg h0, if_neg h1]
      have hD := h
      clear hc h0
      go_enter Try.func76, Try.ntmps76
      go_wp2_with fail
      go_ret
      exact ⟨by rw [HS.out] <;> rfl, by rw [HS.out]; exact hD, Kept.refl _ _⟩
end Go.Proofs.Ytfhlidlmipleaaa
