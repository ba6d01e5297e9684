/-
  Contracts: slices.Grow and slices.Concat at voters.
-/
import Derived.Test.YtaajhkdifliblaaEl4
import Derived.Lib.AppendZeros
namespace Go.Proofs.Ytaajhkdifliblaa
set_option linter.unusedVariables false
set_option linter.unusedSimpArgs false
open Go Go.RowKit EL

set_option maxRecDepth 100000 in
set_option maxHeartbeats 800000 in
theorem growV_nil (n : Nat) (w : World) (h0 : 0 < n) (hm : n ≤ 1000) :
    Calls Try.prog 100 #[.slice none 0 0, .int .i64 n] w fun e w' => ∃ g c, e = .returned (.slice (some ⟨g, 0, none⟩) 0 c) ∧
      w'.ownsRow w.heap.size 50 5 (.slice (some ⟨g, 0, none⟩) 0 c) 0 (VS []) ∧ Below w.heap.size w w' := by
  obtain ⟨ht, _, i, z, hi, hz, hs1, hb1, hzs⟩ := st_vots
  have hrun := hid (Lib.run_append_nil_zeros w 47 3 47 50 i z .i64 .i64 ht Try.underlying3 hi hz n h0 (by omega) (by omega) (by rw [hb1]; omega))
  have hcap := grownCap_ge w n 0 50
  have hcm := grownCap_le_maxLen w n 0 50 (by simp [maxLen]; omega)
  have hsz : (Builtin.zeroCells z.cells n ++ Builtin.zeroCells z.cells (grownCap w n 0 50 - n)).size = grownCap w n 0 50 * 5 := by
    rw [Array.size_append, size_zeroCells, size_zeroCells, hzs]; omega
  generalize grownCap w n 0 50 = cap at *
  have hown := World.ownsRow_made (e := 50) (size := 5) (base := w.heap.size) w.drew (Builtin.zeroCells z.cells n ++ Builtin.zeroCells z.cells (cap - n)) cap (Nat.le_refl _) hcm hsz
  have hbb : Below w.heap.size w (w.drew.alloc (.cells (Builtin.zeroCells z.cells n ++ Builtin.zeroCells z.cells (cap - n)) 50)) := ((Below.refl w.heap.size w).drew).alloc (Nat.le_refl _) _
  generalize (Builtin.zeroCells z.cells n ++ Builtin.zeroCells z.cells (cap - n)) = cs at *
  have hcm' : cap ≤ 9223372036854775807 := by simpa [maxLen] using hcm
  clear hsz hzs hi hz hs1 hb1 hcm
  go_enter Try.func100, Try.ntmps100
  go_wp2_with (at_builtin; refine Lib.wpList_append_run _ rfl (.tmp 20) (.tmp 21) 47 3 rfl _ _ rfl rfl _ _ hrun.out ?_)
  go_ret
  exact ⟨w.drew.heap.size, cap, rfl, hown, hbb⟩

set_option maxRecDepth 100000 in
set_option maxHeartbeats 3200000 in
theorem concat3_any (A A1 A2 A3 : Option Addr) (c n1 c1 n2 c2 n3 c3 : Nat) (l1 l2 l3 : List Vot) (w : World) (h : Sl w 1 (.slice A 3 c) [.slice A1 n1 c1, .slice A2 n2 c2, .slice A3 n3 c3])
    (h1 : Sl w 5 (.slice A1 n1 c1) (VS l1)) (h2 : Sl w 5 (.slice A2 n2 c2) (VS l2)) (h3 : Sl w 5 (.slice A3 n3 c3) (VS l3)) (hp : 0 < n1 + n2 + n3) (hm : n1 + n2 + n3 ≤ 1000) :
    Calls Try.prog 91 #[.slice A 3 c] w fun e w' => ∃ g c', e = .returned (.slice (some ⟨g, 0, none⟩) (n1 + n2 + n3) c') ∧
      w'.ownsRow w.heap.size 50 5 (.slice (some ⟨g, 0, none⟩) (n1 + n2 + n3) c') (n1 + n2 + n3) (VS (l1 ++ (l2 ++ l3))) ∧ Below w.heap.size w w' := by
  obtain ⟨A', n', c', he, hl, _, hc3, h⟩ := h
  injection he with e1 e2 e3
  subst e1; subst e2; subst e3
  obtain ⟨b, off, rfl, hb, h⟩ := h (by omega)
  have q0 : w.cell? ⟨b, off, none⟩ = some (.slice A1 n1 c1) := h 0 (by omega)
  have q1 : w.cell? ⟨b, off + 1, none⟩ = some (.slice A2 n2 c2) := h 1 (by omega)
  have q2 : w.cell? ⟨b, off + 2, none⟩ = some (.slice A3 n3 c3) := h 2 (by omega)
  clear h hl
  go_enter Try.func91, Try.ntmps91
  go_wp2_with fail
  go_loop [3, 11] (fun s i => (s = .int .i64 0 ∧ i = .int .i64 0) ∨ (s = .int .i64 n1 ∧ i = .int .i64 1) ∨ (s = .int .i64 ((n1 + n2 : Nat) : Int) ∧ i = .int .i64 2) ∨ (s = .int .i64 ((n1 + n2 + n3 : Nat) : Int) ∧ i = .int .i64 3)) (fun _ i => 3 - (intOf i).toNat)
  case atStart => exact .inl ⟨rfl, rfl⟩
  case round =>
    rcases hrel with ⟨rfl, rfl⟩ | ⟨rfl, rfl⟩ | ⟨rfl, rfl⟩ | ⟨rfl, rfl⟩
    · go_wp2_with fail
      exact ⟨.inr (.inl ⟨by go_num, rfl⟩), by decide⟩
    · go_wp2_with fail
      exact ⟨.inr (.inr (.inl ⟨by go_num, rfl⟩)), by decide⟩
    · go_wp2_with fail
      exact ⟨.inr (.inr (.inr ⟨by go_num, rfl⟩)), by decide⟩
    · go_wp2_with fail
      refine (growV_nil (n1 + n2 + n3) w hp hm).mono ?_
      rintro e w1 ⟨g, cg, rfl, hown, hb1⟩
      go_wp2_with fail
      go_loopw [6, 27] (fun v i wr => ∃ (k m cv : Nat) (Av : Option Addr) (lv : List Vot), i = .int .i64 k ∧ v = .slice Av m cv ∧ wr.ownsRow w.heap.size 50 5 (.slice Av m cv) m (VS lv) ∧ Below w.heap.size w wr ∧
        ((k = 0 ∧ m = 0 ∧ lv = []) ∨ (k = 1 ∧ m = n1 ∧ lv = l1) ∨ (k = 2 ∧ m = n1 + n2 ∧ lv = l1 ++ l2) ∨ (k = 3 ∧ m = n1 + n2 + n3 ∧ lv = l1 ++ (l2 ++ l3)))) (fun _ i _ => 3 - (intOf i).toNat)
      case atStart => exact ⟨0, 0, cg, _, [], rfl, rfl, hown, hb1, .inl ⟨rfl, rfl, rfl⟩⟩
      case round =>
        obtain ⟨k, m, cv, Av, lv, rfl, rfl, hown, hbr, hk⟩ := hrel
        have p0 := (hbr.cell (p := ⟨b, off, none⟩) hb).trans q0
        have p1 := (hbr.cell (p := ⟨b, off + 1, none⟩) hb).trans q1
        have p2 := (hbr.cell (p := ⟨b, off + 2, none⟩) hb).trans q2
        rcases hk with ⟨rfl, rfl, rfl⟩ | ⟨rfl, rfl, rfl⟩ | ⟨rfl, rfl, rfl⟩ | ⟨rfl, rfl, rfl⟩
        ·
          go_wp2_with (at_builtin; refine wpList_app rfl (.tmp 31) (.tmp 32) st_vots rfl w.heap.size rfl hown rfl (h1.below hbr) (VS_one _) (by simp [maxLen]; omega) (by omega) (by have := hbr.size; omega) ?_)
          intro A9 c9 w9 hown9 hg9 hf9
          try rw [← VS_append] at hown9
          have hb9 := hbr.trans (grown_below hown hg9 hbr.size)
          clear hown hbr
          go_wp2_with fail
          exact ⟨⟨1, n1, c9, A9, l1, rfl, rfl, by simpa using hown9, hb9, .inr (.inl ⟨rfl, rfl, rfl⟩)⟩, by simp [intOf]⟩
        ·
          go_wp2_with (at_builtin; refine wpList_app rfl (.tmp 31) (.tmp 32) st_vots rfl w.heap.size rfl hown rfl (h2.below hbr) (VS_one _) (by simp [maxLen]; omega) (by omega) (by have := hbr.size; omega) ?_)
          intro A9 c9 w9 hown9 hg9 hf9
          try rw [← VS_append] at hown9
          have hb9 := hbr.trans (grown_below hown hg9 hbr.size)
          clear hown hbr
          go_wp2_with fail
          exact ⟨⟨2, m + n2, c9, A9, lv ++ l2, rfl, rfl, hown9, hb9, .inr (.inr (.inl ⟨rfl, rfl, rfl⟩))⟩, by simp [intOf]⟩
        ·
          go_wp2_with (at_builtin; refine wpList_app rfl (.tmp 31) (.tmp 32) st_vots rfl w.heap.size rfl hown rfl (h3.below hbr) (VS_one _) (by simp [maxLen]; omega) (by omega) (by have := hbr.size; omega) ?_)
          intro A9 c9 w9 hown9 hg9 hf9
          try rw [← VS_append] at hown9
          have hb9 := hbr.trans (grown_below hown hg9 hbr.size)
          clear hown hbr
          go_wp2_with fail
          rw [List.append_assoc] at hown9
          exact ⟨⟨3, n1 + n2 + n3, c9, A9, l1 ++ (l2 ++ l3), rfl, rfl, hown9, hb9, .inr (.inr (.inr ⟨rfl, rfl, rfl⟩))⟩, by simp [intOf]⟩
        · go_wp2_with fail
          go_ret
          obtain ⟨g', rfl, _, _⟩ := own_some hown hp
          exact ⟨g', cv, rfl, hown, hbr⟩
end Go.Proofs.Ytaajhkdifliblaa
