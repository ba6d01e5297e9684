/-
  Contracts of both tables; the law's reads (seat of SchemaRows).
-/
import Derived.Test.YtecfkhgocjbocaaGreatDoorSrM
namespace Go.Proofs.YtecfkhgocjbocaaGreatDoor
set_option linter.unusedVariables false
set_option linter.unusedSimpArgs false
open Go Go.RowKit

theorem chAt_ge {base g1 g2 : Nat} (h1 : base ≤ g1) (h2 : base ≤ g2) : ∀ i ad, chAt g1 g2 i = some ad → base ≤ ad.block := by
  intro i ad h
  unfold chAt at h
  split at h
  · injection h with h; rw [← h]; exact h1
  split at h
  · injection h with h; rw [← h]; exact h2
  · exact absurd h (by simp)
theorem cho2_new (w : World) : Sl (w.alloc (.cells #[.string ⟨#[110, 111, 114, 109, 97, 108]⟩, .string ⟨#[115, 116, 117, 98]⟩, .string ⟨#[110, 115, 115, 97]⟩] 9)) 1 (.slice (some ⟨w.heap.size, 0, .none⟩) 3 3) (STR (tabAt 2).cho) :=
  own_sl (own_made w w.heap.size 9 1 3 _ (STR (tabAt 2).cho) (Nat.le_refl _) rfl rfl (by omega) (by omega))
theorem cho9_new (w : World) : Sl (w.alloc (.cells #[.string ⟨#[98, 114, 111, 97, 100, 99, 97, 115, 116]⟩, .string ⟨#[112, 111, 105, 110, 116, 45, 116, 111, 45, 112, 111, 105, 110, 116]⟩] 9)) 1 (.slice (some ⟨w.heap.size, 0, .none⟩) 2 2) (STR (tabAt 9).cho) :=
  own_sl (own_made w w.heap.size 9 1 2 _ (STR (tabAt 9).cho) (Nat.le_refl _) rfl rfl (by omega) (by omega))
set_option maxRecDepth 100000 in
set_option maxHeartbeats 3200000 in
theorem table_any (w : World) : Calls Tryz.prog 89 #[] w fun e w' => ∃ g ch, e = .returned (.slice (some ⟨g, 0, none⟩) 12 12) ∧ Below w.heap.size w w' ∧ TabIn w' g ch ∧ ∀ i ad, ch i = some ad → w.heap.size ≤ ad.block := by
  have hw0 := Below.refl w.heap.size w
  go_enter Tryz.func89, Tryz.ntmps89
  go_wp2_with fail
  refine (number_any _ _ _ _ _ _ w).mono ?_
  rintro e w1 ⟨rfl, hbw1⟩
  have hww1 := hw0.trans (hbw1.mono hw0.size)
  clear hw0 hbw1
  go_wp2_with fail
  have hc1 := hww1.alloc hww1.size (.cells #[.string ⟨#[110, 111, 114, 109, 97, 108]⟩, .string ⟨#[115, 116, 117, 98]⟩, .string ⟨#[110, 115, 115, 97]⟩] 9)
  have s1 := cho2_new w1
  have hge1 := hww1.size
  clear hww1
  generalize w1.alloc (.cells #[.string ⟨#[110, 111, 114, 109, 97, 108]⟩, .string ⟨#[115, 116, 117, 98]⟩, .string ⟨#[110, 115, 115, 97]⟩] 9) = v1 at *
  refine (number_any _ _ _ _ _ _ v1).mono ?_
  rintro e w2 ⟨rfl, hbw2⟩
  have hww2 := hc1.trans (hbw2.mono hc1.size)
  replace s1 := s1.below hbw2
  clear hc1 hbw2
  go_wp2_with fail
  refine (number_any _ _ _ _ _ _ w2).mono ?_
  rintro e w3 ⟨rfl, hbw3⟩
  have hww3 := hww2.trans (hbw3.mono hww2.size)
  replace s1 := s1.below hbw3
  clear hww2 hbw3
  go_wp2_with fail
  refine (number_any _ _ _ _ _ _ w3).mono ?_
  rintro e w4 ⟨rfl, hbw4⟩
  have hww4 := hww3.trans (hbw4.mono hww3.size)
  replace s1 := s1.below hbw4
  clear hww3 hbw4
  go_wp2_with fail
  have hc2 := hww4.alloc hww4.size (.cells #[.string ⟨#[98, 114, 111, 97, 100, 99, 97, 115, 116]⟩, .string ⟨#[112, 111, 105, 110, 116, 45, 116, 111, 45, 112, 111, 105, 110, 116]⟩] 9)
  have s2 := cho9_new w4
  have hge2 := hww4.size
  replace s1 := s1.alloc (.cells #[.string ⟨#[98, 114, 111, 97, 100, 99, 97, 115, 116]⟩, .string ⟨#[112, 111, 105, 110, 116, 45, 116, 111, 45, 112, 111, 105, 110, 116]⟩] 9)
  clear hww4
  generalize w4.alloc (.cells #[.string ⟨#[98, 114, 111, 97, 100, 99, 97, 115, 116]⟩, .string ⟨#[112, 111, 105, 110, 116, 45, 116, 111, 45, 112, 111, 105, 110, 116]⟩] 9) = v2 at *
  refine (number_any _ _ _ _ _ _ v2).mono ?_
  rintro e w5 ⟨rfl, hbw5⟩
  have hww5 := hc2.trans (hbw5.mono hc2.size)
  replace s1 := s1.below hbw5
  replace s2 := s2.below hbw5
  clear hc2 hbw5
  go_wp2_with fail
  refine (number_any _ _ _ _ _ _ w5).mono ?_
  rintro e w6 ⟨rfl, hb6⟩
  have hw6 := hww5.trans (hb6.mono hww5.size)
  replace s1 := s1.below hb6
  replace s2 := s2.below hb6
  clear hww5 hb6
  go_wp2_with fail
  go_ret
  exact ⟨_, _, rfl, hw6.alloc hw6.size _, tabIn_new w6 _ _ _ _ rfl s1 s2, chAt_ge hge1 hge2⟩
theorem tabIn_new3 (w : World) (A B : Obj) (C : Array Value) (T : TypeId) (s1 : Sl (w.alloc A) 1 (.slice (some ⟨w.heap.size, 0, .none⟩) 3 3) (STR (tabAt 2).cho)) (s2 : Sl ((w.alloc A).alloc B) 1 (.slice (some ⟨(w.alloc A).heap.size, 0, .none⟩) 2 2) (STR (tabAt 9).cho))
    (hC : C = (tabCells w.heap.size (w.heap.size + 1)).toArray) : TabIn (((w.alloc A).alloc B).alloc (.cells C T)) (w.heap.size + 1 + 1) (chAt w.heap.size (w.heap.size + 1)) ∧ Below w.heap.size w (((w.alloc A).alloc B).alloc (.cells C T)) := by
  have e1 : (w.alloc A).heap.size = w.heap.size + 1 := by simp
  have e2 : ((w.alloc A).alloc B).heap.size = w.heap.size + 1 + 1 := by simp
  rw [e1] at s2
  have h := tabIn_new ((w.alloc A).alloc B) w.heap.size (w.heap.size + 1) C T hC (s1.alloc B) s2
  rw [e2] at h
  exact ⟨h, (((Below.refl _ _).alloc (Nat.le_refl _) A).alloc (by rw [e1]; omega) B).alloc (by rw [e2]; omega) _⟩
set_option maxRecDepth 100000 in
set_option maxHeartbeats 3200000 in
theorem refTable_any (w : World) : Calls Tryz.prog 91 #[] w fun e w' => ∃ g ch, e = .returned (.slice (some ⟨g, 0, none⟩) 12 12) ∧ Below w.heap.size w w' ∧ TabIn w' g ch ∧ ∀ i ad, ch i = some ad → w.heap.size ≤ ad.block := by
  go_enter Tryz.func91, Tryz.ntmps91
  go_wp2_with fail
  go_ret
  have h := tabIn_new3 w _ _ _ 102 (cho2_new w) (cho9_new _) rfl
  exact ⟨_, _, rfl, h.2, h.1, chAt_ge (Nat.le_refl _) (by omega)⟩
end Go.Proofs.YtecfkhgocjbocaaGreatDoor
