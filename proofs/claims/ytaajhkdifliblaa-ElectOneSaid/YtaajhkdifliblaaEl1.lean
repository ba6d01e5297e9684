/-
  Contracts of package elect: what is asked of one voter, or of two.
-/
import Derived.Test.YtaajhkdifliblaaElM
import Derived.Test.YtaajhkdifliblaaLsa5
namespace Go.Proofs.Ytaajhkdifliblaa
set_option linter.unusedVariables false
set_option linter.unusedSimpArgs false
open Go Go.RowKit EL

set_option maxRecDepth 100000 in
set_option maxHeartbeats 400000 in
theorem speaks_any (v : Vot) (w : World) : Calls Try.prog 109 #[.agg (vC v)] w fun e w' => e = .returned (.bool (speaks v)) ∧ Below w.heap.size w w' := by
  obtain ⟨id, ad, pr, dr, bd⟩ := v
  go_enter Try.func109, Try.ntmps109
  go_wp2_with fail
  go_ret
  exact ⟨ret_bool (by simp [speaks]; rfl), (Below.refl _ _).alloc (Nat.le_refl _) _⟩
set_option maxRecDepth 100000 in
set_option maxHeartbeats 400000 in
theorem other_any (v : Vot) (w : World) : Calls Try.prog 108 #[.agg (vC v)] w fun e w' => e = .returned (.bool (other v)) ∧ Below w.heap.size w w' := by
  have hbb := (Below.refl w.heap.size w).alloc (Nat.le_refl _) (.cells (vC v) 50)
  go_enter Try.func108, Try.ntmps108
  go_wp2_with fail
  refine (speaks_any v _).mono ?_
  rintro e w' ⟨rfl, hb⟩
  have hbw := hbb.trans (hb.mono hbb.size)
  clear hbb
  go_wp2_with fail
  go_ret
  exact ⟨ret_bool rfl, hbw⟩
set_option maxRecDepth 100000 in
set_option maxHeartbeats 800000 in
theorem deputy_any (v : Vot) (w : World) : Calls Try.prog 107 #[.agg (vC v)] w fun e w' => e = .returned (.bool (deputy v)) ∧ Below w.heap.size w w' := by
  have hbb := (Below.refl w.heap.size w).alloc (Nat.le_refl _) (.cells (vC v) 50)
  have hh := heap_alloc_new w (.cells (vC v) 50)
  cases hs : speaks v with
  | true =>
    have HS := hid hs
    go_enter Try.func107, Try.ntmps107
    go_wp2_with fail
    refine (speaks_any v _).mono ?_
    rintro e w' ⟨rfl, hb⟩
    have hbw := hbb.trans (hb.mono hbb.size)
    rw [HS.out]
    clear hbb hs
    go_wp2_with fail
    go_ret
    exact ⟨ret_bool (by unfold deputy; rw [HS.out]; rfl), hbw⟩
  | false =>
    have HS := hid hs
    go_enter Try.func107, Try.ntmps107
    go_wp2_with fail
    refine (speaks_any v _).mono ?_
    rintro e w' ⟨rfl, hb⟩
    have hbw := hbb.trans (hb.mono hbb.size)
    replace hh := blk_below hh hb (by simp)
    obtain ⟨hc, _⟩ := blk_cells hh
    rw [HS.out]
    clear hbb hs
    go_wp2_with fail
    go_ret
    exact ⟨ret_bool (by unfold deputy; rw [HS.out]; simp; rfl), hbw⟩
set_option maxRecDepth 100000 in
set_option maxHeartbeats 800000 in
theorem better_any (a b : Vot) (w : World) : Calls Try.prog 111 #[.agg (vC a), .agg (vC b)] w fun e w' => e = .returned (.bool (better a b)) ∧ Below w.heap.size w w' := by
  obtain ⟨id, ad, pr, dr, bd⟩ := a
  obtain ⟨id', ad', pr', dr', bd'⟩ := b
  by_cases h1 : pr' < pr
  ·
    go_enter Try.func111, Try.ntmps111
    go_wp2_with fail
    go_ret
    exact ⟨ret_bool (by unfold better; simp_all), (((Below.refl _ _).alloc (Nat.le_refl _) _).alloc (by simp) _)⟩
  · by_cases h2 : pr = pr'
    · subst h2
      go_enter Try.func111, Try.ntmps111
      go_wp2_with fail
      go_ret
      exact ⟨ret_bool (by unfold better; simp_all), (((Below.refl _ _).alloc (Nat.le_refl _) _).alloc (by simp) _)⟩
    · have h3 : (pr == pr') = false := by simpa using h2
      go_enter Try.func111, Try.ntmps111
      go_wp2_with fail
      go_ret
      exact ⟨ret_bool (by unfold better; simp_all), (((Below.refl _ _).alloc (Nat.le_refl _) _).alloc (by simp) _)⟩
end Go.Proofs.Ytaajhkdifliblaa
