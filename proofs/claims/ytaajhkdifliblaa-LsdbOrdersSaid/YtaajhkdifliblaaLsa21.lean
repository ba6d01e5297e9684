/-
  Contracts for lsa.Compare's small parts: cmp.isNaN, cmp.Compare at int and uint16, lsa.first, cmp.Or at two ints.
-/
import Derived.Test.YtaajhkdifliblaaLsa19
namespace Go.Proofs.Ytaajhkdifliblaa
set_option linter.unusedVariables false
set_option linter.unusedSimpArgs false
open Go Go.RowKit SM LM

/-- what cmp.Compare says of two whole numbers -/
def cmpZ (x y : Int) : Int := if x < y then -1 else if y < x then 1 else 0

set_option maxRecDepth 100000 in
set_option maxHeartbeats 400000 in
theorem nanInt_any (x : Int) (w : World) :
    Calls Try.prog 98 #[.int .i64 x] w fun e w' => e = .returned (.bool false) ∧ w' = w := by
  go_enter Try.func98, Try.ntmps98
  go_wp2_with fail
  go_ret
  exact ⟨ret_bool (by simp), rfl⟩
set_option maxRecDepth 100000 in
set_option maxHeartbeats 400000 in
theorem nanU16_any (x : Int) (w : World) :
    Calls Try.prog 99 #[.int .u16 x] w fun e w' => e = .returned (.bool false) ∧ w' = w := by
  go_enter Try.func99, Try.ntmps99
  go_wp2_with fail
  go_ret
  exact ⟨ret_bool (by simp), rfl⟩
set_option maxRecDepth 100000 in
set_option maxHeartbeats 400000 in
theorem first_any (b : Bool) (w : World) :
    Calls Try.prog 90 #[.bool b] w fun e w' => e = .returned (.int .i64 (if b then 1 else -1)) ∧ w' = w := by
  cases b
  all_goals
    go_enter Try.func90, Try.ntmps90
    go_wp2_with fail
    go_ret
    exact ⟨rfl, rfl⟩
set_option maxRecDepth 100000 in
set_option maxHeartbeats 800000 in
theorem cmpInt_any (x y : Int) (w : World) :
    Calls Try.prog 88 #[.int .i64 x, .int .i64 y] w fun e w' => e = .returned (.int .i64 (cmpZ x y)) ∧ w' = w := by
  unfold cmpZ
  by_cases h1 : x < y
  · rw [if_pos h1]
    go_enter Try.func88, Try.ntmps88
    go_wp2_with (go_at_call 98; refine (nanInt_any _ _).mono ?_; rintro e w' ⟨rfl, rfl⟩)
    go_ret
    exact ⟨rfl, rfl⟩
  · rw [if_neg h1]
    by_cases h2 : y < x
    · rw [if_pos h2]
      go_enter Try.func88, Try.ntmps88
      go_wp2_with (go_at_call 98; refine (nanInt_any _ _).mono ?_; rintro e w' ⟨rfl, rfl⟩)
      go_ret
      exact ⟨rfl, rfl⟩
    · rw [if_neg h2]
      go_enter Try.func88, Try.ntmps88
      go_wp2_with (go_at_call 98; refine (nanInt_any _ _).mono ?_; rintro e w' ⟨rfl, rfl⟩)
      go_ret
      exact ⟨rfl, rfl⟩
set_option maxRecDepth 100000 in
set_option maxHeartbeats 800000 in
theorem cmpU16_any (x y : Int) (w : World) :
    Calls Try.prog 89 #[.int .u16 x, .int .u16 y] w fun e w' => e = .returned (.int .i64 (cmpZ x y)) ∧ w' = w := by
  unfold cmpZ
  by_cases h1 : x < y
  · rw [if_pos h1]
    go_enter Try.func89, Try.ntmps89
    go_wp2_with (go_at_call 99; refine (nanU16_any _ _).mono ?_; rintro e w' ⟨rfl, rfl⟩)
    go_ret
    exact ⟨rfl, rfl⟩
  · rw [if_neg h1]
    by_cases h2 : y < x
    · rw [if_pos h2]
      go_enter Try.func89, Try.ntmps89
      go_wp2_with (go_at_call 99; refine (nanU16_any _ _).mono ?_; rintro e w' ⟨rfl, rfl⟩)
      go_ret
      exact ⟨rfl, rfl⟩
    · rw [if_neg h2]
      go_enter Try.func89, Try.ntmps89
      go_wp2_with (go_at_call 99; refine (nanU16_any _ _).mono ?_; rintro e w' ⟨rfl, rfl⟩)
      go_ret
      exact ⟨rfl, rfl⟩
set_option maxRecDepth 100000 in
set_option maxHeartbeats 800000 in
theorem or2_any (A : Option Addr) (c : Nat) (x y : Int) (w : World) (h : Sl w 1 (.slice A 2 c) [.int .i64 x, .int .i64 y]) :
    Calls Try.prog 87 #[.slice A 2 c] w fun e w' => e = .returned (.int .i64 (if x = 0 then y else x)) ∧ Below w.heap.size w w' := by
  obtain ⟨A', n', c', he, hl, _, _, h⟩ := h
  injection he with e1 e2 e3
  subst e1; subst e2; subst e3
  obtain ⟨b, off, rfl, hb, h⟩ := h (by omega)
  have h0 : w.cell? ⟨b, off, none⟩ = some (.int .i64 x) := h 0 (by omega)
  have h1 : w.cell? ⟨b, off + 1, none⟩ = some (.int .i64 y) := h 1 (by omega)
  clear h hl
  go_enter Try.func87, Try.ntmps87
  go_wp2_with fail
  go_loop [8] (fun i => i = .int .i64 0 ∨ (i = .int .i64 1 ∧ x = 0) ∨ (i = .int .i64 2 ∧ x = 0 ∧ y = 0)) (fun i => 2 - (intOf i).toNat)
  case atStart => exact .inl rfl
  case round =>
    rcases hrel with rfl | ⟨rfl, hx⟩ | ⟨rfl, hx, hy⟩
    · by_cases hx : x = 0
      · subst hx
        go_wp2_with fail
        refine ⟨?_, ?_⟩
        · first | exact .inr (.inl ⟨rfl, rfl⟩) | simp
        · first | decide | simp [intOf]
      · go_wp2_with fail
        go_ret
        exact ⟨by first | rfl | (rw [if_neg hx]; rfl) | simp [hx], by (repeat (first | with_reducible exact Below.refl _ _ | with_reducible assumption | with_reducible refine Below.drew ?_ | with_reducible refine below_drewN ?_ _ | (with_reducible refine Below.alloc ?_ ?_ _; rotate_left; · (first | (simp; done) | omega | (simp at *; omega))) | (with_reducible refine Below.setCell ?_ ?_ _; rotate_left; · (first | (simp only []; omega) | (simp; done) | (simp; omega))) | with_reducible refine Below.trans ?_ (by with_reducible assumption)))⟩
    · subst hx
      by_cases hy : y = 0
      · subst hy
        go_wp2_with fail
        refine ⟨?_, ?_⟩
        · first | exact .inr (.inr ⟨rfl, rfl, rfl⟩) | simp
        · first | decide | simp [intOf]
      · go_wp2_with fail
        go_ret
        exact ⟨by first | rfl | (rw [if_pos rfl]; rfl) | simp, by (repeat (first | with_reducible exact Below.refl _ _ | with_reducible assumption | with_reducible refine Below.drew ?_ | with_reducible refine below_drewN ?_ _ | (with_reducible refine Below.alloc ?_ ?_ _; rotate_left; · (first | (simp; done) | omega | (simp at *; omega))) | (with_reducible refine Below.setCell ?_ ?_ _; rotate_left; · (first | (simp only []; omega) | (simp; done) | (simp; omega))) | with_reducible refine Below.trans ?_ (by with_reducible assumption)))⟩
    · subst hx; subst hy
      go_wp2_with fail
      go_ret
      exact ⟨by first | rfl | (rw [if_pos rfl]; rfl) | simp, by (repeat (first | with_reducible exact Below.refl _ _ | with_reducible assumption | with_reducible refine Below.drew ?_ | with_reducible refine below_drewN ?_ _ | (with_reducible refine Below.alloc ?_ ?_ _; rotate_left; · (first | (simp; done) | omega | (simp at *; omega))) | (with_reducible refine Below.setCell ?_ ?_ _; rotate_left; · (first | (simp only []; omega) | (simp; done) | (simp; omega))) | with_reducible refine Below.trans ?_ (by with_reducible assumption)))⟩
end Go.Proofs.Ytaajhkdifliblaa
