/-
  Contract of slices.Clone at lines; cells of a row that is moved up (plain).
-/
import Derived.Test.YtecfkhgocjbocaaGreatDoorCf2
import Derived.Laws.IdiomCopy
import Derived.Laws.NewBlocks
namespace Go.Proofs.YtecfkhgocjbocaaGreatDoor
set_option linter.unusedVariables false
set_option linter.unusedSimpArgs false
open Go Go.RowKit

namespace CF
theorem st_lns : ST Tryz.prog 23 29 4 56 := .mk Tryz.underlying23 (z := .agg (lnV ln0)) (by kernel_rfl) rfl (by omega)
theorem st_lns2 : ST Tryz.prog 22 29 4 56 := .mk Tryz.underlying22 (z := .agg (lnV ln0)) (by kernel_rfl) rfl (by omega)
set_option maxRecDepth 100000 in
set_option maxHeartbeats 800000 in
theorem clone_any (C : List Ln) (A : Option Addr) (n c : Nat) (w : World) (h : Sl w 4 (.slice A n c) (LNS C)) (hm : n ≤ 1000) :
    Calls Tryz.prog 53 #[.slice A n c] w fun e w' => ∃ A' c', e = .returned (.slice A' n c') ∧ w'.ownsRow w.heap.size 29 4 (.slice A' n c') n (LNS C) ∧ Below w.heap.size w w' := by
  have q22 : ∀ (w : World) (a : Option Addr) (n c n' c' : Nat), (binOp .eql 23 (.slice a n c) (.slice none n' c')).run Tryz.prog w = .ok (.bool a.isNone) w := fun w a n c n' c' => Lib.run_eql_slice_nil w _ _ a n c n' c' Tryz.underlying23
  cases A with
  | none =>
    obtain rfl : n = 0 := by
      obtain ⟨A', n', c', he, _, _, _, hr⟩ := h
      injection he with e1 e2 e3
      subst e1; subst e2
      by_cases h0 : 0 < n
      · obtain ⟨b, off, h1, _⟩ := hr h0
        cases h1
      · omega
    obtain rfl : C = [] := List.eq_nil_of_length_eq_zero (sl_lns h).1
    have hown := own_nilE w w.heap.size 29 4
    go_enter Tryz.func53, Tryz.ntmps53
    go_wp2_with fail
    go_ret
    exact ⟨none, 0, rfl, hown, Below.refl _ _⟩
  | some a =>
    have hown := own_empty w w.heap.size 29 4 w.heap.size rfl (Nat.le_refl _)
    have hsl := h.alloc (.cells #[] 29)
    have hbb := (Below.refl w.heap.size w).alloc (Nat.le_refl _) (.cells #[] 29)
    clear h
    go_enter Tryz.func53, Tryz.ntmps53
    go_wp2_with (at_builtin; refine wpList_app rfl (.tmp 5) (.tmp 6) st_lns rfl w.heap.size rfl hown rfl hsl (LNS_one _) (by simp [maxLen]; omega) (by omega) (by simp) ?_)
    intro A3 c3 w3 hown3 hg3 hf3
    have hb3 := hbb.trans (grown_below hown hg3 (by simp))
    go_wp2_with fail
    go_ret
    exact ⟨A3, c3, rfl, hown3, hb3⟩
theorem isSome_setCells (b : Nat) (vs : List Value) (o : Nat) (w : World) (h : ∀ j, j < vs.length → (w.cell? ⟨b, o + j, none⟩).isSome = true) (k : Nat) (hk : (w.cell? ⟨b, k, none⟩).isSome = true) : ((w.setCells b o vs).cell? ⟨b, k, none⟩).isSome = true := by
  by_cases hin : o ≤ k ∧ k < o + vs.length
  · have := World.cell?_setCells_in b vs o w h (k - o) (by omega)
    rw [show o + (k - o) = k by omega] at this
    rw [this]; rfl
  · rw [World.cell?_setCells_out b vs o w ⟨b, k, none⟩ (fun _ _ => by show k < o ∨ o + vs.length ≤ k; omega)]
    exact hk
/-- what reads so: the cells ahead of o as xs's, then vs, then what of xs stood from o on -/
def ReadsIns (w : World) (g o : Nat) (xs vs : List Value) : Prop := ∀ j, j < xs.length + vs.length → w.cell? ⟨g, j, none⟩ = (xs.take o ++ vs ++ xs.drop o)[j]?
theorem reads_ins {w1 w2 w3 : World} {g o : Nat} {xs vs : List Value} (ho : o ≤ xs.length) (h0 : ∀ j < xs.length + vs.length, (w1.cell? ⟨g, j, none⟩).isSome = true) (hx : ∀ j < o, w1.cell? ⟨g, j, none⟩ = xs[j]?)
    (h2 : ∀ x, w2.cell? x = (w1.setCells g (o + vs.length) (xs.drop o)).cell? x) (h3 : ∀ x, w3.cell? x = (w2.setCells g o vs).cell? x) : ReadsIns w3 g o xs vs := by
  intro j hj
  have hdl : (xs.drop o).length = xs.length - o := List.length_drop
  have s2 : ∀ k < xs.length + vs.length, (w2.cell? ⟨g, k, none⟩).isSome = true := fun k hk => by
    rw [h2]
    exact isSome_setCells g _ _ _ (fun i hi => h0 _ (by omega)) k (h0 k hk)
  rw [h3]
  by_cases c1 : j < o
  · rw [World.cell?_setCells_out g vs o w2 ⟨g, j, none⟩ (fun _ _ => .inl c1), h2, World.cell?_setCells_out g _ _ w1 ⟨g, j, none⟩ (fun _ _ => .inl (by show j < _; omega)), hx j c1]
    rw [List.append_assoc, List.getElem?_append_left (by rw [List.length_take]; omega), List.getElem?_take_of_lt c1]
  · by_cases c2 : j < o + vs.length
    · have := World.cell?_setCells_in g vs o w2 (fun i hi => s2 _ (by omega)) (j - o) (by omega)
      rw [show o + (j - o) = j by omega] at this
      rw [this, List.append_assoc, List.getElem?_append_right (by rw [List.length_take]; omega), List.length_take, show min o xs.length = o by omega, List.getElem?_append_left (by omega), List.getElem?_eq_getElem (by omega)]
    · rw [World.cell?_setCells_out g vs o w2 ⟨g, j, none⟩ (fun _ _ => .inr (by show _ ≤ j; omega)), h2]
      have := World.cell?_setCells_in g (xs.drop o) (o + vs.length) w1 (fun i hi => h0 _ (by omega)) (j - (o + vs.length)) (by omega)
      rw [show o + vs.length + (j - (o + vs.length)) = j by omega] at this
      rw [this, List.getElem?_append_right (by rw [List.length_append, List.length_take]; omega), List.length_append, List.length_take, show min o xs.length = o by omega, List.getElem?_eq_getElem (by omega)]
/-- the same, the other way round -/
theorem reads_ins' {w1 w2 w3 : World} {g o : Nat} {xs vs : List Value} (ho : o ≤ xs.length) (h0 : ∀ j < xs.length + vs.length, (w1.cell? ⟨g, j, none⟩).isSome = true) (hx : ∀ j < o, w1.cell? ⟨g, j, none⟩ = xs[j]?)
    (h2 : ∀ x, w2.cell? x = (w1.setCells g o vs).cell? x) (h3 : ∀ x, w3.cell? x = (w2.setCells g (o + vs.length) (xs.drop o)).cell? x) : ReadsIns w3 g o xs vs := by
  intro j hj
  have hdl : (xs.drop o).length = xs.length - o := List.length_drop
  have s2 : ∀ k < xs.length + vs.length, (w2.cell? ⟨g, k, none⟩).isSome = true := fun k hk => by
    rw [h2]
    exact isSome_setCells g _ _ _ (fun i hi => h0 _ (by omega)) k (h0 k hk)
  rw [h3]
  by_cases c1 : j < o
  · rw [World.cell?_setCells_out g _ _ w2 ⟨g, j, none⟩ (fun _ _ => .inl (by show j < _; omega)), h2, World.cell?_setCells_out g vs o w1 ⟨g, j, none⟩ (fun _ _ => .inl c1), hx j c1]
    rw [List.append_assoc, List.getElem?_append_left (by rw [List.length_take]; omega), List.getElem?_take_of_lt c1]
  · by_cases c2 : j < o + vs.length
    · rw [World.cell?_setCells_out g _ _ w2 ⟨g, j, none⟩ (fun _ _ => .inl (by show j < _; omega)), h2]
      have := World.cell?_setCells_in g vs o w1 (fun i hi => h0 _ (by omega)) (j - o) (by omega)
      rw [show o + (j - o) = j by omega] at this
      rw [this, List.append_assoc, List.getElem?_append_right (by rw [List.length_take]; omega), List.length_take, show min o xs.length = o by omega, List.getElem?_append_left (by omega), List.getElem?_eq_getElem (by omega)]
    · have := World.cell?_setCells_in g (xs.drop o) (o + vs.length) w2 (fun i hi => s2 _ (by omega)) (j - (o + vs.length)) (by omega)
      rw [show o + vs.length + (j - (o + vs.length)) = j by omega] at this
      rw [this, List.getElem?_append_right (by rw [List.length_append, List.length_take]; omega), List.length_append, List.length_take, show min o xs.length = o by omega, List.getElem?_eq_getElem (by omega)]
/-- copy, at elements of any size -/
theorem run_copy_rows {P : Program} (w : World) (dT sT ty elem : TypeId) (size b o dLen dCap : Nat) (a : Addr) (sLen sCap : Nat) (cs : List Value)
    (hu : P.underlying dT = some (.slice elem)) (hs : (P.info? elem).map (·.size) = some size) (hn : cs.length = Nat.min sLen dLen * size)
    (hsrc : ∀ j v, cs[j]? = some v → w.cell? (a.add j) = some v) (hc : ∀ j, j < cs.length → (w.cell? ⟨b, o + j, none⟩).isSome = true) (hf : ∀ j, j < cs.length → w.frozen? ⟨b, o + j, none⟩ = false) (h1 : ∀ v ∈ cs, v.oneCell' = true) :
    (Builtin.copy_ #[dT, sT] ty #[.slice (some ⟨b, o, none⟩) dLen dCap, .slice (some a) sLen sCap]).run P w = .ok (goInt (Nat.min sLen dLen)) (w.setCells b o cs) := by
  have hl := run_loadCells_list (P := P) w a cs hsrc
  have hst := run_storeCells_cells (P := P) b o cs 0 w (by simpa using hc) (by simpa using hf) h1
  cases hq : P.info? elem with
  | none => simp [hq] at hs
  | some i =>
    have hi : i.size = size := by simpa [hq] using hs
    simp [Builtin.copy_, run_underlying hu, Builtin.lenOf, Builtin.firstCells, sizeOf, typeInfo, hq, hi, ← hn, hl, hst]
theorem sl_ins {w : World} {g n c i : Nat} {xs vs : List Value} (hx : xs.length = n * 4) (hv : vs.length = 4) (hi : i ≤ n) (hc : n + 1 ≤ c) (hm : c ≤ maxLen) (hg : g < w.heap.size) (h : ReadsIns w g (i * 4) xs vs) :
    Sl w 4 (.slice (some ⟨g, 0, none⟩) (n + 1) c) (xs.take (i * 4) ++ vs ++ xs.drop (i * 4)) := by
  refine ⟨_, _, _, rfl, ?_, hc, hm, fun _ => ⟨g, 0, rfl, hg, fun j hj => ?_⟩⟩
  · rw [List.length_append, List.length_append, List.length_take, List.length_drop]; omega
  · rw [Nat.zero_add]
    exact h j (by omega)
end CF
end Go.Proofs.YtecfkhgocjbocaaGreatDoor
