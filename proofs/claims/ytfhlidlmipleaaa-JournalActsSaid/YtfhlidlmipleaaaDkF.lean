/-
  What the reference's disk is in memory; contracts of its goes, Read.
-/
import Derived.Test.YtfhlidlmipleaaaDkE
namespace Go.Proofs.Ytfhlidlmipleaaa
set_option linter.unusedVariables false
set_option linter.unusedSimpArgs false
open Go Go.RowKit

/-- texts as values -/
def STd (l : List (List UInt8)) : List Value := l.map fun x => Value.string (S8 x)
theorem STd_one (l : List (List UInt8)) : ∀ u ∈ STd l, u.oneCell' = true := by
  intro u hu
  obtain ⟨c, _, rfl⟩ := List.mem_map.1 hu
  rfl
def sv (l : List (Int × List UInt8)) : List (Int × Value) := l.map fun p => (p.1, .string (S8 p.2))
theorem sv_has (l : List (Int × List UInt8)) (x : Int) : hasI (sv l) x = (lookW l x).isSome := by
  induction l with
  | nil => rfl
  | cons p t ih =>
    unfold lookW
    by_cases h : p.1 = x
    · rw [if_pos h]; simp [hasI, sv, h]
    · rw [if_neg h, ← ih]; simp [hasI, sv, h]
theorem sv_look (l : List (Int × List UInt8)) (x : Int) : lookI (sv l) (.string ⟨#[]⟩) x = .string (S8 ((lookW l x).getD [])) := by
  induction l with
  | nil => rfl
  | cons p t ih =>
    unfold lookW
    by_cases h : p.1 = x
    · rw [if_pos h]; simp [sv, lookI, h]
    · rw [if_neg h, ← ih]
      show lookI ((p.1, Value.string (S8 p.2)) :: sv t) _ _ = _
      rw [lookI, if_neg h]
theorem sv_put (l : List (Int × List UInt8)) (x : Int) (v : List UInt8) : putI (sv l) x (.string (S8 v)) = sv (putW l x v) := by
  induction l with
  | nil => rfl
  | cons p t ih =>
    show putI ((p.1, Value.string (S8 p.2)) :: sv t) x _ = _
    unfold putW
    by_cases h : p.1 = x
    · rw [putI, if_pos h, if_pos h]; rfl
    · rw [putI, if_neg h, if_neg h, ih]; rfl
abbrev rkC (D : Dk) (As : Option Addr) (cs r : Nat) (Ao : Option Addr) (co : Nat) : Array Value := #[.slice As D.stay.length cs, .slice Ao D.order.length co, .map (some r), .bool D.off, .int .i64 D.armed]
/-- the reference's disk: its block p, its texts' row, its map r, the row of its order -/
structure RkAt (base : Nat) (w : World) (D : Dk) (p : Nat) (As : Option Addr) (cs r : Nat) (Ao : Option Addr) (co : Nat) : Prop where
  blk : w.heap[p]? = some (.cells (rkC D As cs r Ao co) 51 (0, 0))
  stay : w.ownsRow base 9 1 (.slice As D.stay.length cs) D.stay.length (STd D.stay)
  map : ∃ es clk, w.heap[r]? = some (.map es clk) ∧ Ent es (sv D.wait)
  ord : w.ownsRow base 3 1 (.slice Ao D.order.length co) D.order.length (II D.order)
  sp : Value.ownBlock (.slice As D.stay.length cs) ≠ some p
  pr : p ≠ r
  sr : Value.ownBlock (.slice As D.stay.length cs) ≠ some r
  op : Value.ownBlock (.slice Ao D.order.length co) ≠ some p
  os : ∀ g, Value.ownBlock (.slice Ao D.order.length co) = some g → Value.ownBlock (.slice As D.stay.length cs) ≠ some g
  orr : Value.ownBlock (.slice Ao D.order.length co) ≠ some r
  bp : base ≤ p
  br : base ≤ r
  arm : -1 ≤ D.armed ∧ D.armed ≤ 9223372036854775807
section
variable {base : Nat} {w w' : World} {D D' : Dk} {p : Nat} {As : Option Addr} {cs r : Nat} {Ao : Option Addr} {co : Nat}
/-- what else is done elsewhere -/
theorem RkAt.kept {S : Nat → Prop} (h : RkAt base w D p As cs r Ao co) (hk : Kept S w w') (h1 : ¬ S p) (h2 : ∀ g, Value.ownBlock (.slice As D.stay.length cs) = some g → ¬ S g) (h3 : ¬ S r) (h4 : ∀ g, Value.ownBlock (.slice Ao D.order.length co) = some g → ¬ S g) : RkAt base w' D p As cs r Ao co := by
  obtain ⟨es, clk, hm, he⟩ := h.map
  exact ⟨blk_kept h.blk hk h1, ownsRow_kept h.stay hk h2, ⟨es, clk, blk_kept hm hk h3, he⟩, ownsRow_kept h.ord hk h4, h.sp, h.pr, h.sr, h.op, h.os, h.orr, h.bp, h.br, h.arm⟩
theorem RkAt.below (h : RkAt base w D p As cs r Ao co) (hb : Below w.heap.size w w') : RkAt base w' D p As cs r Ao co :=
  h.kept (S := fun _ => False) (Kept.of_below hb) (fun x => x) (fun _ _ x => x) (fun x => x) (fun _ _ x => x)
/-- its own block written: the rest stands -/
theorem RkAt.setp (h : RkAt base w D p As cs r Ao co) (hk : Kept (fun b => b = p) w w') (hblk : w'.heap[p]? = some (.cells (rkC D' As cs r Ao co) 51 (0, 0))) (h1 : D'.stay = D.stay) (h2 : D'.wait = D.wait) (h3 : D'.order = D.order)
    (ha : -1 ≤ D'.armed ∧ D'.armed ≤ 9223372036854775807) : RkAt base w' D' p As cs r Ao co := by
  obtain ⟨es, clk, hm, he⟩ := h.map
  refine ⟨hblk, ?_, ⟨es, clk, blk_kept hm hk (fun e => h.pr e.symm), by rw [h2]; exact he⟩, ?_, by rw [h1]; exact h.sp, h.pr, by rw [h1]; exact h.sr, by rw [h3]; exact h.op, by rw [h1, h3]; exact h.os, by rw [h3]; exact h.orr, h.bp, h.br, ha⟩
  · rw [h1]
    exact ownsRow_kept h.stay hk (fun g hg e => h.sp (by rw [hg, e]))
  · rw [h3]
    exact ownsRow_kept h.ord hk (fun g hg e => h.op (by rw [hg, e]))
end
set_option maxRecDepth 100000 in
set_option maxHeartbeats 800000 in
theorem goes_any (base : Nat) (w : World) (D : Dk) (p : Nat) (As : Option Addr) (cs r : Nat) (Ao : Option Addr) (co : Nat) (h : RkAt base w D p As cs r Ao co) :
    Calls Try.prog 77 #[.pointer (some ⟨p, 0, none⟩)] w fun e w' => e = .returned (.bool (decide ((stepD D).2 ≠ 0))) ∧ RkAt base w' (stepD D).1 p As cs r Ao co ∧ Kept (fun b => b = p) w w' := by
  obtain ⟨hc, hf⟩ := blk_cells h.blk
  have q3 := hc 3
  have q4 := hc 4
  simp at q3 q4
  have ha := h.arm
  by_cases h0 : D.armed = 0
  · have HS : Hid (stepD D = ({ D with off := true, armed := -1 }, 2)) := by show _ = _; unfold stepD; rw [if_pos h0]
    have hk := ((Kept.refl (fun b => b = p) w).setCell (p := ⟨p, 3, none⟩) (.inl rfl) (.bool true)).setCell (p := ⟨p, 4, none⟩) (.inl rfl) (.int .i64 (-1))
    have hb := blk_set (blk_set h.blk 3 (.bool true)) 4 (.int .i64 (-1))
    simp at hb
    have hD := h.setp (D' := { D with off := true, armed := -1 }) hk hb rfl rfl rfl (by simp)
    rw [h0] at q4
    clear hb hc
    go_enter Try.func77, Try.ntmps77
    go_wp2_with fail
    go_ret
    exact ⟨by rw [HS.out] <;> rfl, by rw [HS.out]; exact hD, hk⟩
  · have t0 : (D.armed == 0) = false := by simpa using h0
    by_cases h1 : 0 < D.armed
    · have HS : Hid (stepD D = ({ D with armed := D.armed - 1 }, 0)) := by show _ = _; unfold stepD; rw [if_neg h0, if_pos h1]
      have hk := (Kept.refl (fun b => b = p) w).setCell (p := ⟨p, 4, none⟩) (.inl rfl) (.int .i64 (D.armed - 1))
      have hb := blk_set h.blk 4 (.int .i64 (D.armed - 1))
      simp at hb
      have hD := h.setp (D' := { D with armed := D.armed - 1 }) hk hb rfl rfl rfl (by simp only []; omega)
      clear hb hc h0
      go_enter Try.func77, Try.ntmps77
      go_wp2_with fail
      go_ret
      exact ⟨by rw [HS.out] <;> rfl, by rw [HS.out]; exact hD, hk⟩
    · have HS : Hid (stepD D = (D, 0)) := by show _ = _; unfold stepD; rw [if_neg h0, if_neg h1]
      have hD := h
      clear hc h0
      go_enter Try.func77, Try.ntmps77
      go_wp2_with fail
      go_ret
      exact ⟨by rw [HS.out] <;> rfl, by rw [HS.out]; exact hD, Kept.refl _ _⟩
/-- what is read -/
def readE (D : Dk) (i : Int) : List UInt8 := if mayE D i = 0 then readB D i.toNat else []
theorem STd_cell {w : World} {A : Option Addr} {n c : Nat} {l : List (List UInt8)} (h : Sl w 1 (.slice A n c) (STd l)) {k : Nat} (hk : k < n) : ∃ b off, A = some ⟨b, off, none⟩ ∧ b < w.heap.size ∧ w.cell? ⟨b, off + k, none⟩ = some (.string (S8 (l.getD k zero64))) := by
  obtain ⟨A', n', c', he, hl, _, _, hr⟩ := h
  injection he with h1 h2 h3
  subst h1; subst h2; subst h3
  obtain ⟨b, off, rfl, hlt, hc⟩ := hr (by omega)
  simp [STd] at hl
  refine ⟨b, off, rfl, hlt, (hc k (by omega)).trans ?_⟩
  simp [STd, List.getD_eq_getElem?_getD, List.getElem?_eq_getElem (show k < l.length by omega)]
set_option maxRecDepth 100000 in
set_option maxHeartbeats 1600000 in
theorem refRead_any (base : Nat) (w : World) (D : Dk) (p : Nat) (As : Option Addr) (cs r : Nat) (Ao : Option Addr) (co : Nat) (i : Int) (h : RkAt base w D p As cs r Ao co) :
    Calls Try.prog 24 #[.pointer (some ⟨p, 0, none⟩), .int .i64 i] w fun e w' => e = .returned (.tuple #[.string (S8 (readE D i)), .int .i64 (mayE D i)]) ∧ w' = w := by
  obtain ⟨hc, _⟩ := blk_cells h.blk
  have q0 := hc 0
  have q2 := hc 2
  have q3 := hc 3
  simp at q0 q2 q3
  obtain ⟨o, ho⟩ : ∃ o, D.off = o := ⟨_, rfl⟩
  rw [ho] at q3
  have hcap := own_lens h.stay
  cases o with
  | true =>
    have HM : Hid (mayE D i = 2) := by show _ = _; unfold mayE; rw [if_pos ho]
    clear hc
    go_enter Try.func24, Try.ntmps24
    go_wp2_with fail
    refine bodyPost_ret (v := .tuple #[.string ⟨#[]⟩, .int .i64 2]) (by simp [results, Try.results24, go_sem]) rfl ⟨?_, rfl⟩
    unfold readE
    rw [HM.out]
    rfl
  | false =>
    by_cases h1 : i < 0
    · have HM : Hid (mayE D i = 1) := by show _ = _; unfold mayE; rw [if_neg (by rw [ho]; exact Bool.false_ne_true), if_pos (.inl h1)]
      clear hc
      go_enter Try.func24, Try.ntmps24
      go_wp2_with fail
      refine bodyPost_ret (v := .tuple #[.string ⟨#[]⟩, .int .i64 1]) (by simp [results, Try.results24, go_sem]) rfl ⟨?_, rfl⟩
      unfold readE
      rw [HM.out]
      rfl
    · by_cases h2 : (D.stay.length : Int) ≤ i
      · have HM : Hid (mayE D i = 1) := by show _ = _; unfold mayE; rw [if_neg (by rw [ho]; exact Bool.false_ne_true), if_pos (.inr h2)]
        clear hc
        go_enter Try.func24, Try.ntmps24
        go_wp2_with fail
        refine bodyPost_ret (v := .tuple #[.string ⟨#[]⟩, .int .i64 1]) (by simp [results, Try.results24, go_sem]) rfl ⟨?_, rfl⟩
        unfold readE
        rw [HM.out]
        rfl
      · have HM : Hid (mayE D i = 0) := by show _ = _; unfold mayE; rw [if_neg (by rw [ho]; exact Bool.false_ne_true), if_neg (by omega)]
        obtain ⟨x, rfl⟩ := Int.eq_ofNat_of_zero_le (by omega : 0 ≤ i)
        have hx : x < D.stay.length := by omega
        obtain ⟨es, clk, hmap, he⟩ := h.map
        have hlk := ilook (P := Try.prog) (w := w) true Try.underlying49 Try.underlying3 (z := .string ⟨#[]⟩) (Try.zeroValue9 w) hmap he (x : Int)
        rw [if_pos rfl, sv_look, sv_has] at hlk
        obtain ⟨b, off, hA, hbl, p0⟩ := STd_cell (own_sl h.stay) hx
        have hA2 := hA
        subst hA
        clear hc
        cases hl : lookW D.wait (x : Int) with
        | some v =>
          rw [hl] at hlk
          simp only [Option.getD_some, Option.isSome_some] at hlk
          have HR : Hid (readE D x = v) := by show _ = _; unfold readE readB; rw [HM.out, if_pos rfl]; simp [hl]
          clear hl
          go_enter Try.func24, Try.ntmps24
          go_wp2_with fail
          refine bodyPost_ret (v := .tuple #[.string (S8 v), .int .i64 0]) (by simp [results, Try.results24, go_sem]) rfl ⟨?_, rfl⟩
          rw [HR.out, HM.out]
        | none =>
          rw [hl] at hlk
          simp only [Option.getD_none, Option.isSome_none] at hlk
          have HR : Hid (readE D x = D.stay.getD x zero64) := by show _ = _; unfold readE readB; rw [HM.out, if_pos rfl]; simp [hl]
          clear hl
          generalize D.stay.getD x zero64 = v at *
          go_enter Try.func24, Try.ntmps24
          go_wp2_with fail
          refine bodyPost_ret (v := .tuple #[.string (S8 v), .int .i64 0]) (by simp [results, Try.results24, go_sem]) rfl ⟨?_, rfl⟩
          rw [HR.out, HM.out]
end Go.Proofs.Ytfhlidlmipleaaa
