/-
  Contracts of package elect: the best of those that are let.
-/
import Derived.Test.YtaajhkdifliblaaEl1
import Derived.Test.YtaajhkdifliblaaRegP
namespace Go.Proofs.Ytaajhkdifliblaa
set_option linter.unusedVariables false
set_option linter.unusedSimpArgs false
open Go Go.RowKit EL

theorem ret_cells {P : Program} {fn : Func} {R : Ending → World → Prop} {a : Act} {w : World} {v : Value} {g : Nat} {T : TypeId} {cs : Array Value} (hres : ∀ W : World, W.heap[g]? = some (.cells cs T (0, 0)) → (results fn a.tmps).run P W = .ok v W)
    (hb : w.heap[g]? = some (.cells cs T (0, 0))) (hd : a.defers = []) (hR : R (.returned v) w) : bodyPost P fn R .ret a w := bodyPost_ret (hres w hb) hd hR
/-- a voter laid whole into a block -/
def putV (w : World) (g : Nat) (v : Vot) : World := (((((w.setCell ⟨g, 0, none⟩ (.int .u32 v.id)).setCell ⟨g, 1, none⟩ (.int .u32 v.addr)).setCell ⟨g, 2, none⟩ (.int .i64 v.prio)).setCell ⟨g, 3, none⟩ (.int .u32 v.dr)).setCell ⟨g, 4, none⟩ (.int .u32 v.bdr))
theorem putV_in {w : World} {g : Nat} {u : Vot} {T : TypeId} (v : Vot) (h : w.heap[g]? = some (.cells (vC u) T (0, 0))) : (putV w g v).heap[g]? = some (.cells (vC v) T (0, 0)) := by
  have := blk_set (blk_set (blk_set (blk_set (blk_set h 0 (.int .u32 v.id)) 1 (.int .u32 v.addr)) 2 (.int .i64 v.prio)) 3 (.int .u32 v.dr)) 4 (.int .u32 v.bdr)
  simp at this
  exact this
theorem putV_far {w : World} {g k : Nat} {o : Obj} (v : Vot) (h : w.heap[k]? = some o) (hk : k ≠ g) : (putV w g v).heap[k]? = some o :=
  set_far (set_far (set_far (set_far (set_far h (p := ⟨g, 0, none⟩) hk _) (p := ⟨g, 1, none⟩) hk _) (p := ⟨g, 2, none⟩) hk _) (p := ⟨g, 3, none⟩) hk _) (p := ⟨g, 4, none⟩) hk _
theorem putV_below {w w0 : World} {B g : Nat} (v : Vot) (h : Below B w0 w) (hg : B ≤ g) : Below B w0 (putV w g v) :=
  ((((h.setCell (p := ⟨g, 0, none⟩) hg _).setCell (p := ⟨g, 1, none⟩) hg _).setCell (p := ⟨g, 2, none⟩) hg _).setCell (p := ⟨g, 3, none⟩) hg _).setCell (p := ⟨g, 4, none⟩) hg _
theorem step_no {p : Vot → Bool} {s : Vot × Bool} {v : Vot} (h : (decide (0 < v.prio) && p v && (!s.2 || better v s.1)) = false) : bestStep p s v = s := by
  unfold bestStep; rw [if_neg (by rw [h]; exact Bool.false_ne_true)]
theorem step_yes {p : Vot → Bool} {s : Vot × Bool} {v : Vot} (h : (decide (0 < v.prio) && p v && (!s.2 || better v s.1)) = true) : bestStep p s v = (v, true) := by
  unfold bestStep; rw [if_pos h]

set_option maxRecDepth 100000 in
set_option maxHeartbeats 3200000 in
theorem best_other (A : Option Addr) (n c : Nat) (l : List Vot) (w : World) (h : Sl w 5 (.slice A n c) (VS l)) :
    Calls Try.prog 106 #[.slice A n c, .func (.func 108) #[] #[]] w fun e w' => e = .returned (.tuple #[.agg (vC (bestOf other l).1), .bool (bestOf other l).2]) ∧ Below w.heap.size w w' := by
  have LL := hid h.lenV.1
  have hn9 := h.lenV.2
  have hbb := ((Below.refl w.heap.size w).alloc (Nat.le_refl _) (.cells (vC zeroV) 50)).alloc (by simp) (.cells (vC zeroV) 50)
  have hh4 := blk_alloc (heap_alloc_new w (.cells (vC zeroV) 50)) (.cells (vC zeroV) 50)
  have hh6 := heap_alloc_new (w.alloc (.cells (vC zeroV) 50)) (.cells (vC zeroV) 50)
  rw [show (w.alloc (.cells (vC zeroV) 50)).heap.size = w.heap.size + 1 by simp] at hh6
  go_enter Try.func106, Try.ntmps106
  go_wp2_with fail
  go_loopw [7, 12] (fun f i wr => ∃ k : Nat, k ≤ n ∧ i = .int .i64 k ∧ f = .bool (bestOf other (l.take k)).2 ∧ Below w.heap.size w wr ∧ wr.heap[w.heap.size]? = some (.cells (vC zeroV) 50 (0, 0)) ∧
    wr.heap[w.heap.size + 1]? = some (.cells (vC (bestOf other (l.take k)).1) 50 (0, 0))) (fun _ i _ => n - (intOf i).toNat)
  case atStart => exact ⟨0, Nat.zero_le _, rfl, rfl, hbb, hh4, hh6⟩
  case round =>
    obtain ⟨k, hk, rfl, rfl, hbr, h4r, h6r⟩ := hrel
    clear hbb hh4 hh6
    by_cases hlt : k < n
    · obtain ⟨b, off, rfl, hbl, q0, q1, q2, q3, q4⟩ := (h.below hbr).vot hlt
      have HS := hid (bestOf_succ other l k (by rw [LL.out]; exact hlt))
      generalize bestOf other (l.take k) = s at *
      obtain ⟨o, fd⟩ := s
      generalize votAt l k = v at *
      obtain ⟨id, ad, pr, dr, bd⟩ := v
      simp only at q0 q1 q2 q3 q4 h6r
      by_cases hp : 0 < pr
      · cases hP : other ⟨id, ad, pr, dr, bd⟩ with
        | false =>
          have HP := hid hP
          have HT : Hid (bestOf other (l.take (k + 1)) = (o, fd)) := HS.out.trans (step_no (by rw [HP.out]; simp))
          clear HS
          go_wp2_with fail
          refine (other_any ⟨id, ad, pr, dr, bd⟩ _).mono ?_
          rintro e w2 ⟨rfl, hb2⟩
          have hbw : Below w.heap.size w w2 := (hbr.alloc hbr.size (.cells (vC ⟨id, ad, pr, dr, bd⟩) 50)).trans (hb2.mono (by have := hbr.size; simp; omega))
          have h4w := blk_below (blk_alloc h4r (.cells (vC ⟨id, ad, pr, dr, bd⟩) 50)) hb2 (by have := (Array.getElem?_eq_some_iff.1 h4r).1; simp; omega)
          have h6w := blk_below (blk_alloc h6r (.cells (vC ⟨id, ad, pr, dr, bd⟩) 50)) hb2 (by have := (Array.getElem?_eq_some_iff.1 h6r).1; simp; omega)
          have h9w := blk_below (heap_alloc_new wr (.cells (vC ⟨id, ad, pr, dr, bd⟩) 50)) hb2 (by simp)
          have hne : wr.heap.size ≠ w.heap.size + 1 := by have := (Array.getElem?_eq_some_iff.1 h6r).1; omega
          have hlt9 := (Array.getElem?_eq_some_iff.1 h9w).1
          generalize wr.heap.size = g9 at *
          rw [HP.out]
          clear hb2 hbr h4r h6r q0 q1 q2 q3 q4 hP
          go_wp2_with fail
          exact ⟨⟨k + 1, by omega, by go_num, by rw [HT.out], hbw, h4w, by rw [HT.out]; exact h6w⟩, by simp [intOf]; omega⟩
        | true =>
          have HP := hid hP
          cases fd with
          | false =>
            have HT : Hid (bestOf other (l.take (k + 1)) = (⟨id, ad, pr, dr, bd⟩, true)) := HS.out.trans (step_yes (by rw [HP.out]; simp [hp]))
            clear HS
            go_wp2_with fail
            refine (other_any ⟨id, ad, pr, dr, bd⟩ _).mono ?_
            rintro e w2 ⟨rfl, hb2⟩
            have hbw : Below w.heap.size w w2 := (hbr.alloc hbr.size (.cells (vC ⟨id, ad, pr, dr, bd⟩) 50)).trans (hb2.mono (by have := hbr.size; simp; omega))
            have h4w := blk_below (blk_alloc h4r (.cells (vC ⟨id, ad, pr, dr, bd⟩) 50)) hb2 (by have := (Array.getElem?_eq_some_iff.1 h4r).1; simp; omega)
            have h6w := blk_below (blk_alloc h6r (.cells (vC ⟨id, ad, pr, dr, bd⟩) 50)) hb2 (by have := (Array.getElem?_eq_some_iff.1 h6r).1; simp; omega)
            have h9w := blk_below (heap_alloc_new wr (.cells (vC ⟨id, ad, pr, dr, bd⟩) 50)) hb2 (by simp)
            have hne : wr.heap.size ≠ w.heap.size + 1 := by have := (Array.getElem?_eq_some_iff.1 h6r).1; omega
            have hlt9 := (Array.getElem?_eq_some_iff.1 h9w).1
            generalize wr.heap.size = g9 at *
            rw [HP.out]
            clear hb2 hbr h4r h6r q0 q1 q2 q3 q4 hP
            obtain ⟨hc9, _⟩ := blk_cells h9w
            obtain ⟨hc6, hf6⟩ := blk_cells h6w
            go_wp2_with fail
            have h6n := putV_in ⟨id, ad, pr, dr, bd⟩ h6w
            have h4n := putV_far (g := w.heap.size + 1) ⟨id, ad, pr, dr, bd⟩ h4w (by omega)
            have hbn := putV_below (g := w.heap.size + 1) ⟨id, ad, pr, dr, bd⟩ hbw (by omega)
            exact ⟨⟨k + 1, by omega, by go_num, by rw [HT.out], hbn, h4n, by rw [HT.out]; exact h6n⟩, by simp [intOf]; omega⟩
          | true =>
            cases hB : better ⟨id, ad, pr, dr, bd⟩ o with
            | true =>
              have HB := hid hB
              have HT : Hid (bestOf other (l.take (k + 1)) = (⟨id, ad, pr, dr, bd⟩, true)) := HS.out.trans (step_yes (by rw [HP.out, HB.out]; simp [hp]))
              clear HS hB
              go_wp2_with fail
              refine (other_any ⟨id, ad, pr, dr, bd⟩ _).mono ?_
              rintro e w2 ⟨rfl, hb2⟩
              have hbw : Below w.heap.size w w2 := (hbr.alloc hbr.size (.cells (vC ⟨id, ad, pr, dr, bd⟩) 50)).trans (hb2.mono (by have := hbr.size; simp; omega))
              have h4w := blk_below (blk_alloc h4r (.cells (vC ⟨id, ad, pr, dr, bd⟩) 50)) hb2 (by have := (Array.getElem?_eq_some_iff.1 h4r).1; simp; omega)
              have h6w := blk_below (blk_alloc h6r (.cells (vC ⟨id, ad, pr, dr, bd⟩) 50)) hb2 (by have := (Array.getElem?_eq_some_iff.1 h6r).1; simp; omega)
              have h9w := blk_below (heap_alloc_new wr (.cells (vC ⟨id, ad, pr, dr, bd⟩) 50)) hb2 (by simp)
              have hne : wr.heap.size ≠ w.heap.size + 1 := by have := (Array.getElem?_eq_some_iff.1 h6r).1; omega
              have hlt9 := (Array.getElem?_eq_some_iff.1 h9w).1
              generalize wr.heap.size = g9 at *
              rw [HP.out]
              clear hb2 hbr h4r h6r q0 q1 q2 q3 q4 hP
              obtain ⟨hc9, _⟩ := blk_cells h9w
              obtain ⟨hc6, hf6⟩ := blk_cells h6w
              go_wp2_with fail
              refine (better_any ⟨id, ad, pr, dr, bd⟩ o _).mono ?_
              rintro e w3 ⟨rfl, hb3⟩
              rw [HB.out]
              replace hbw := hbw.trans (hb3.mono hbw.size)
              replace h4w := blk_below h4w hb3 (Array.getElem?_eq_some_iff.1 h4w).1
              replace h6w := blk_below h6w hb3 (Array.getElem?_eq_some_iff.1 h6w).1
              replace h9w := blk_below h9w hb3 (Array.getElem?_eq_some_iff.1 h9w).1
              clear hc9 hc6 hf6 hb3
              obtain ⟨hc9, _⟩ := blk_cells h9w
              obtain ⟨hc6, hf6⟩ := blk_cells h6w
              go_wp2_with fail
              have h6n := putV_in ⟨id, ad, pr, dr, bd⟩ h6w
              have h4n := putV_far (g := w.heap.size + 1) ⟨id, ad, pr, dr, bd⟩ h4w (by omega)
              have hbn := putV_below (g := w.heap.size + 1) ⟨id, ad, pr, dr, bd⟩ hbw (by omega)
              exact ⟨⟨k + 1, by omega, by go_num, by rw [HT.out], hbn, h4n, by rw [HT.out]; exact h6n⟩, by simp [intOf]; omega⟩
            | false =>
              have HB := hid hB
              have HT : Hid (bestOf other (l.take (k + 1)) = (o, true)) := HS.out.trans (step_no (by rw [HP.out, HB.out]; simp))
              clear HS hB
              go_wp2_with fail
              refine (other_any ⟨id, ad, pr, dr, bd⟩ _).mono ?_
              rintro e w2 ⟨rfl, hb2⟩
              have hbw : Below w.heap.size w w2 := (hbr.alloc hbr.size (.cells (vC ⟨id, ad, pr, dr, bd⟩) 50)).trans (hb2.mono (by have := hbr.size; simp; omega))
              have h4w := blk_below (blk_alloc h4r (.cells (vC ⟨id, ad, pr, dr, bd⟩) 50)) hb2 (by have := (Array.getElem?_eq_some_iff.1 h4r).1; simp; omega)
              have h6w := blk_below (blk_alloc h6r (.cells (vC ⟨id, ad, pr, dr, bd⟩) 50)) hb2 (by have := (Array.getElem?_eq_some_iff.1 h6r).1; simp; omega)
              have h9w := blk_below (heap_alloc_new wr (.cells (vC ⟨id, ad, pr, dr, bd⟩) 50)) hb2 (by simp)
              have hne : wr.heap.size ≠ w.heap.size + 1 := by have := (Array.getElem?_eq_some_iff.1 h6r).1; omega
              have hlt9 := (Array.getElem?_eq_some_iff.1 h9w).1
              generalize wr.heap.size = g9 at *
              rw [HP.out]
              clear hb2 hbr h4r h6r q0 q1 q2 q3 q4 hP
              obtain ⟨hc9, _⟩ := blk_cells h9w
              obtain ⟨hc6, hf6⟩ := blk_cells h6w
              go_wp2_with fail
              refine (better_any ⟨id, ad, pr, dr, bd⟩ o _).mono ?_
              rintro e w3 ⟨rfl, hb3⟩
              rw [HB.out]
              replace hbw := hbw.trans (hb3.mono hbw.size)
              replace h4w := blk_below h4w hb3 (Array.getElem?_eq_some_iff.1 h4w).1
              replace h6w := blk_below h6w hb3 (Array.getElem?_eq_some_iff.1 h6w).1
              clear hc9 hc6 hf6 hb3
              go_wp2_with fail
              exact ⟨⟨k + 1, by omega, by go_num, by rw [HT.out], hbw, h4w, by rw [HT.out]; exact h6w⟩, by simp [intOf]; omega⟩
      · have HT : Hid (bestOf other (l.take (k + 1)) = (o, fd)) := HS.out.trans (step_no (by simp [hp]))
        clear HS
        have hbw := hbr.alloc hbr.size (.cells (vC ⟨id, ad, pr, dr, bd⟩) 50)
        have h4w := blk_alloc h4r (.cells (vC ⟨id, ad, pr, dr, bd⟩) 50)
        have h6w := blk_alloc h6r (.cells (vC ⟨id, ad, pr, dr, bd⟩) 50)
        go_wp2_with fail
        exact ⟨⟨k + 1, by omega, by go_num, by rw [HT.out], hbw, h4w, by rw [HT.out]; exact h6w⟩, by simp [intOf]; omega⟩
    · obtain rfl : k = n := by omega
      have HE : Hid (bestOf other (l.take k) = bestOf other l) := by show _ = _; rw [List.take_of_length_le (by rw [LL.out]; exact Nat.le_refl _)]
      rw [HE.out] at h6r
      rw [HE.out]
      clear HE
      obtain ⟨s, hs⟩ : ∃ s, bestOf other l = s := ⟨_, rfl⟩
      have HSS := hid hs
      rw [hs] at h6r
      rw [hs]
      clear hs
      obtain ⟨o, fd⟩ := s
      obtain ⟨hc6, _⟩ := blk_cells h6r
      obtain ⟨_, hf4⟩ := blk_cells h4r
      go_wp2_with fail
      refine ret_cells (v := .tuple #[.agg (vC o), .bool fd]) (g := w.heap.size) (T := 50) (cs := vC o) (fun W hW => by obtain ⟨hc, hf⟩ := blk_cells hW; simp [results, Try.results106, go_sem, hc]) (putV_in o h4r) rfl ⟨by rw [HSS.out], putV_below o hbr (Nat.le_refl _)⟩
set_option maxRecDepth 100000 in
set_option maxHeartbeats 3200000 in
theorem best_deputy (A : Option Addr) (n c : Nat) (l : List Vot) (w : World) (h : Sl w 5 (.slice A n c) (VS l)) :
    Calls Try.prog 106 #[.slice A n c, .func (.func 107) #[] #[]] w fun e w' => e = .returned (.tuple #[.agg (vC (bestOf deputy l).1), .bool (bestOf deputy l).2]) ∧ Below w.heap.size w w' := by
  have LL := hid h.lenV.1
  have hn9 := h.lenV.2
  have hbb := ((Below.refl w.heap.size w).alloc (Nat.le_refl _) (.cells (vC zeroV) 50)).alloc (by simp) (.cells (vC zeroV) 50)
  have hh4 := blk_alloc (heap_alloc_new w (.cells (vC zeroV) 50)) (.cells (vC zeroV) 50)
  have hh6 := heap_alloc_new (w.alloc (.cells (vC zeroV) 50)) (.cells (vC zeroV) 50)
  rw [show (w.alloc (.cells (vC zeroV) 50)).heap.size = w.heap.size + 1 by simp] at hh6
  go_enter Try.func106, Try.ntmps106
  go_wp2_with fail
  go_loopw [7, 12] (fun f i wr => ∃ k : Nat, k ≤ n ∧ i = .int .i64 k ∧ f = .bool (bestOf deputy (l.take k)).2 ∧ Below w.heap.size w wr ∧ wr.heap[w.heap.size]? = some (.cells (vC zeroV) 50 (0, 0)) ∧
    wr.heap[w.heap.size + 1]? = some (.cells (vC (bestOf deputy (l.take k)).1) 50 (0, 0))) (fun _ i _ => n - (intOf i).toNat)
  case atStart => exact ⟨0, Nat.zero_le _, rfl, rfl, hbb, hh4, hh6⟩
  case round =>
    obtain ⟨k, hk, rfl, rfl, hbr, h4r, h6r⟩ := hrel
    clear hbb hh4 hh6
    by_cases hlt : k < n
    · obtain ⟨b, off, rfl, hbl, q0, q1, q2, q3, q4⟩ := (h.below hbr).vot hlt
      have HS := hid (bestOf_succ deputy l k (by rw [LL.out]; exact hlt))
      generalize bestOf deputy (l.take k) = s at *
      obtain ⟨o, fd⟩ := s
      generalize votAt l k = v at *
      obtain ⟨id, ad, pr, dr, bd⟩ := v
      simp only at q0 q1 q2 q3 q4 h6r
      by_cases hp : 0 < pr
      · cases hP : deputy ⟨id, ad, pr, dr, bd⟩ with
        | false =>
          have HP := hid hP
          have HT : Hid (bestOf deputy (l.take (k + 1)) = (o, fd)) := HS.out.trans (step_no (by rw [HP.out]; simp))
          clear HS
          go_wp2_with fail
          refine (deputy_any ⟨id, ad, pr, dr, bd⟩ _).mono ?_
          rintro e w2 ⟨rfl, hb2⟩
          have hbw : Below w.heap.size w w2 := (hbr.alloc hbr.size (.cells (vC ⟨id, ad, pr, dr, bd⟩) 50)).trans (hb2.mono (by have := hbr.size; simp; omega))
          have h4w := blk_below (blk_alloc h4r (.cells (vC ⟨id, ad, pr, dr, bd⟩) 50)) hb2 (by have := (Array.getElem?_eq_some_iff.1 h4r).1; simp; omega)
          have h6w := blk_below (blk_alloc h6r (.cells (vC ⟨id, ad, pr, dr, bd⟩) 50)) hb2 (by have := (Array.getElem?_eq_some_iff.1 h6r).1; simp; omega)
          have h9w := blk_below (heap_alloc_new wr (.cells (vC ⟨id, ad, pr, dr, bd⟩) 50)) hb2 (by simp)
          have hne : wr.heap.size ≠ w.heap.size + 1 := by have := (Array.getElem?_eq_some_iff.1 h6r).1; omega
          have hlt9 := (Array.getElem?_eq_some_iff.1 h9w).1
          generalize wr.heap.size = g9 at *
          rw [HP.out]
          clear hb2 hbr h4r h6r q0 q1 q2 q3 q4 hP
          go_wp2_with fail
          exact ⟨⟨k + 1, by omega, by go_num, by rw [HT.out], hbw, h4w, by rw [HT.out]; exact h6w⟩, by simp [intOf]; omega⟩
        | true =>
          have HP := hid hP
          cases fd with
          | false =>
            have HT : Hid (bestOf deputy (l.take (k + 1)) = (⟨id, ad, pr, dr, bd⟩, true)) := HS.out.trans (step_yes (by rw [HP.out]; simp [hp]))
            clear HS
            go_wp2_with fail
            refine (deputy_any ⟨id, ad, pr, dr, bd⟩ _).mono ?_
            rintro e w2 ⟨rfl, hb2⟩
            have hbw : Below w.heap.size w w2 := (hbr.alloc hbr.size (.cells (vC ⟨id, ad, pr, dr, bd⟩) 50)).trans (hb2.mono (by have := hbr.size; simp; omega))
            have h4w := blk_below (blk_alloc h4r (.cells (vC ⟨id, ad, pr, dr, bd⟩) 50)) hb2 (by have := (Array.getElem?_eq_some_iff.1 h4r).1; simp; omega)
            have h6w := blk_below (blk_alloc h6r (.cells (vC ⟨id, ad, pr, dr, bd⟩) 50)) hb2 (by have := (Array.getElem?_eq_some_iff.1 h6r).1; simp; omega)
            have h9w := blk_below (heap_alloc_new wr (.cells (vC ⟨id, ad, pr, dr, bd⟩) 50)) hb2 (by simp)
            have hne : wr.heap.size ≠ w.heap.size + 1 := by have := (Array.getElem?_eq_some_iff.1 h6r).1; omega
            have hlt9 := (Array.getElem?_eq_some_iff.1 h9w).1
            generalize wr.heap.size = g9 at *
            rw [HP.out]
            clear hb2 hbr h4r h6r q0 q1 q2 q3 q4 hP
            obtain ⟨hc9, _⟩ := blk_cells h9w
            obtain ⟨hc6, hf6⟩ := blk_cells h6w
            go_wp2_with fail
            have h6n := putV_in ⟨id, ad, pr, dr, bd⟩ h6w
            have h4n := putV_far (g := w.heap.size + 1) ⟨id, ad, pr, dr, bd⟩ h4w (by omega)
            have hbn := putV_below (g := w.heap.size + 1) ⟨id, ad, pr, dr, bd⟩ hbw (by omega)
            exact ⟨⟨k + 1, by omega, by go_num, by rw [HT.out], hbn, h4n, by rw [HT.out]; exact h6n⟩, by simp [intOf]; omega⟩
          | true =>
            cases hB : better ⟨id, ad, pr, dr, bd⟩ o with
            | true =>
              have HB := hid hB
              have HT : Hid (bestOf deputy (l.take (k + 1)) = (⟨id, ad, pr, dr, bd⟩, true)) := HS.out.trans (step_yes (by rw [HP.out, HB.out]; simp [hp]))
              clear HS hB
              go_wp2_with fail
              refine (deputy_any ⟨id, ad, pr, dr, bd⟩ _).mono ?_
              rintro e w2 ⟨rfl, hb2⟩
              have hbw : Below w.heap.size w w2 := (hbr.alloc hbr.size (.cells (vC ⟨id, ad, pr, dr, bd⟩) 50)).trans (hb2.mono (by have := hbr.size; simp; omega))
              have h4w := blk_below (blk_alloc h4r (.cells (vC ⟨id, ad, pr, dr, bd⟩) 50)) hb2 (by have := (Array.getElem?_eq_some_iff.1 h4r).1; simp; omega)
              have h6w := blk_below (blk_alloc h6r (.cells (vC ⟨id, ad, pr, dr, bd⟩) 50)) hb2 (by have := (Array.getElem?_eq_some_iff.1 h6r).1; simp; omega)
              have h9w := blk_below (heap_alloc_new wr (.cells (vC ⟨id, ad, pr, dr, bd⟩) 50)) hb2 (by simp)
              have hne : wr.heap.size ≠ w.heap.size + 1 := by have := (Array.getElem?_eq_some_iff.1 h6r).1; omega
              have hlt9 := (Array.getElem?_eq_some_iff.1 h9w).1
              generalize wr.heap.size = g9 at *
              rw [HP.out]
              clear hb2 hbr h4r h6r q0 q1 q2 q3 q4 hP
              obtain ⟨hc9, _⟩ := blk_cells h9w
              obtain ⟨hc6, hf6⟩ := blk_cells h6w
              go_wp2_with fail
              refine (better_any ⟨id, ad, pr, dr, bd⟩ o _).mono ?_
              rintro e w3 ⟨rfl, hb3⟩
              rw [HB.out]
              replace hbw := hbw.trans (hb3.mono hbw.size)
              replace h4w := blk_below h4w hb3 (Array.getElem?_eq_some_iff.1 h4w).1
              replace h6w := blk_below h6w hb3 (Array.getElem?_eq_some_iff.1 h6w).1
              replace h9w := blk_below h9w hb3 (Array.getElem?_eq_some_iff.1 h9w).1
              clear hc9 hc6 hf6 hb3
              obtain ⟨hc9, _⟩ := blk_cells h9w
              obtain ⟨hc6, hf6⟩ := blk_cells h6w
              go_wp2_with fail
              have h6n := putV_in ⟨id, ad, pr, dr, bd⟩ h6w
              have h4n := putV_far (g := w.heap.size + 1) ⟨id, ad, pr, dr, bd⟩ h4w (by omega)
              have hbn := putV_below (g := w.heap.size + 1) ⟨id, ad, pr, dr, bd⟩ hbw (by omega)
              exact ⟨⟨k + 1, by omega, by go_num, by rw [HT.out], hbn, h4n, by rw [HT.out]; exact h6n⟩, by simp [intOf]; omega⟩
            | false =>
              have HB := hid hB
              have HT : Hid (bestOf deputy (l.take (k + 1)) = (o, true)) := HS.out.trans (step_no (by rw [HP.out, HB.out]; simp))
              clear HS hB
              go_wp2_with fail
              refine (deputy_any ⟨id, ad, pr, dr, bd⟩ _).mono ?_
              rintro e w2 ⟨rfl, hb2⟩
              have hbw : Below w.heap.size w w2 := (hbr.alloc hbr.size (.cells (vC ⟨id, ad, pr, dr, bd⟩) 50)).trans (hb2.mono (by have := hbr.size; simp; omega))
              have h4w := blk_below (blk_alloc h4r (.cells (vC ⟨id, ad, pr, dr, bd⟩) 50)) hb2 (by have := (Array.getElem?_eq_some_iff.1 h4r).1; simp; omega)
              have h6w := blk_below (blk_alloc h6r (.cells (vC ⟨id, ad, pr, dr, bd⟩) 50)) hb2 (by have := (Array.getElem?_eq_some_iff.1 h6r).1; simp; omega)
              have h9w := blk_below (heap_alloc_new wr (.cells (vC ⟨id, ad, pr, dr, bd⟩) 50)) hb2 (by simp)
              have hne : wr.heap.size ≠ w.heap.size + 1 := by have := (Array.getElem?_eq_some_iff.1 h6r).1; omega
              have hlt9 := (Array.getElem?_eq_some_iff.1 h9w).1
              generalize wr.heap.size = g9 at *
              rw [HP.out]
              clear hb2 hbr h4r h6r q0 q1 q2 q3 q4 hP
              obtain ⟨hc9, _⟩ := blk_cells h9w
              obtain ⟨hc6, hf6⟩ := blk_cells h6w
              go_wp2_with fail
              refine (better_any ⟨id, ad, pr, dr, bd⟩ o _).mono ?_
              rintro e w3 ⟨rfl, hb3⟩
              rw [HB.out]
              replace hbw := hbw.trans (hb3.mono hbw.size)
              replace h4w := blk_below h4w hb3 (Array.getElem?_eq_some_iff.1 h4w).1
              replace h6w := blk_below h6w hb3 (Array.getElem?_eq_some_iff.1 h6w).1
              clear hc9 hc6 hf6 hb3
              go_wp2_with fail
              exact ⟨⟨k + 1, by omega, by go_num, by rw [HT.out], hbw, h4w, by rw [HT.out]; exact h6w⟩, by simp [intOf]; omega⟩
      · have HT : Hid (bestOf deputy (l.take (k + 1)) = (o, fd)) := HS.out.trans (step_no (by simp [hp]))
        clear HS
        have hbw := hbr.alloc hbr.size (.cells (vC ⟨id, ad, pr, dr, bd⟩) 50)
        have h4w := blk_alloc h4r (.cells (vC ⟨id, ad, pr, dr, bd⟩) 50)
        have h6w := blk_alloc h6r (.cells (vC ⟨id, ad, pr, dr, bd⟩) 50)
        go_wp2_with fail
        exact ⟨⟨k + 1, by omega, by go_num, by rw [HT.out], hbw, h4w, by rw [HT.out]; exact h6w⟩, by simp [intOf]; omega⟩
    · obtain rfl : k = n := by omega
      have HE : Hid (bestOf deputy (l.take k) = bestOf deputy l) := by show _ = _; rw [List.take_of_length_le (by rw [LL.out]; exact Nat.le_refl _)]
      rw [HE.out] at h6r
      rw [HE.out]
      clear HE
      obtain ⟨s, hs⟩ : ∃ s, bestOf deputy l = s := ⟨_, rfl⟩
      have HSS := hid hs
      rw [hs] at h6r
      rw [hs]
      clear hs
      obtain ⟨o, fd⟩ := s
      obtain ⟨hc6, _⟩ := blk_cells h6r
      obtain ⟨_, hf4⟩ := blk_cells h4r
      go_wp2_with fail
      refine ret_cells (v := .tuple #[.agg (vC o), .bool fd]) (g := w.heap.size) (T := 50) (cs := vC o) (fun W hW => by obtain ⟨hc, hf⟩ := blk_cells hW; simp [results, Try.results106, go_sem, hc]) (putV_in o h4r) rfl ⟨by rw [HSS.out], putV_below o hbr (Nat.le_refl _)⟩
set_option maxRecDepth 100000 in
set_option maxHeartbeats 3200000 in
theorem best_speaks (A : Option Addr) (n c : Nat) (l : List Vot) (w : World) (h : Sl w 5 (.slice A n c) (VS l)) :
    Calls Try.prog 106 #[.slice A n c, .func (.func 109) #[] #[]] w fun e w' => e = .returned (.tuple #[.agg (vC (bestOf speaks l).1), .bool (bestOf speaks l).2]) ∧ Below w.heap.size w w' := by
  have LL := hid h.lenV.1
  have hn9 := h.lenV.2
  have hbb := ((Below.refl w.heap.size w).alloc (Nat.le_refl _) (.cells (vC zeroV) 50)).alloc (by simp) (.cells (vC zeroV) 50)
  have hh4 := blk_alloc (heap_alloc_new w (.cells (vC zeroV) 50)) (.cells (vC zeroV) 50)
  have hh6 := heap_alloc_new (w.alloc (.cells (vC zeroV) 50)) (.cells (vC zeroV) 50)
  rw [show (w.alloc (.cells (vC zeroV) 50)).heap.size = w.heap.size + 1 by simp] at hh6
  go_enter Try.func106, Try.ntmps106
  go_wp2_with fail
  go_loopw [7, 12] (fun f i wr => ∃ k : Nat, k ≤ n ∧ i = .int .i64 k ∧ f = .bool (bestOf speaks (l.take k)).2 ∧ Below w.heap.size w wr ∧ wr.heap[w.heap.size]? = some (.cells (vC zeroV) 50 (0, 0)) ∧
    wr.heap[w.heap.size + 1]? = some (.cells (vC (bestOf speaks (l.take k)).1) 50 (0, 0))) (fun _ i _ => n - (intOf i).toNat)
  case atStart => exact ⟨0, Nat.zero_le _, rfl, rfl, hbb, hh4, hh6⟩
  case round =>
    obtain ⟨k, hk, rfl, rfl, hbr, h4r, h6r⟩ := hrel
    clear hbb hh4 hh6
    by_cases hlt : k < n
    · obtain ⟨b, off, rfl, hbl, q0, q1, q2, q3, q4⟩ := (h.below hbr).vot hlt
      have HS := hid (bestOf_succ speaks l k (by rw [LL.out]; exact hlt))
      generalize bestOf speaks (l.take k) = s at *
      obtain ⟨o, fd⟩ := s
      generalize votAt l k = v at *
      obtain ⟨id, ad, pr, dr, bd⟩ := v
      simp only at q0 q1 q2 q3 q4 h6r
      by_cases hp : 0 < pr
      · cases hP : speaks ⟨id, ad, pr, dr, bd⟩ with
        | false =>
          have HP := hid hP
          have HT : Hid (bestOf speaks (l.take (k + 1)) = (o, fd)) := HS.out.trans (step_no (by rw [HP.out]; simp))
          clear HS
          go_wp2_with fail
          refine (speaks_any ⟨id, ad, pr, dr, bd⟩ _).mono ?_
          rintro e w2 ⟨rfl, hb2⟩
          have hbw : Below w.heap.size w w2 := (hbr.alloc hbr.size (.cells (vC ⟨id, ad, pr, dr, bd⟩) 50)).trans (hb2.mono (by have := hbr.size; simp; omega))
          have h4w := blk_below (blk_alloc h4r (.cells (vC ⟨id, ad, pr, dr, bd⟩) 50)) hb2 (by have := (Array.getElem?_eq_some_iff.1 h4r).1; simp; omega)
          have h6w := blk_below (blk_alloc h6r (.cells (vC ⟨id, ad, pr, dr, bd⟩) 50)) hb2 (by have := (Array.getElem?_eq_some_iff.1 h6r).1; simp; omega)
          have h9w := blk_below (heap_alloc_new wr (.cells (vC ⟨id, ad, pr, dr, bd⟩) 50)) hb2 (by simp)
          have hne : wr.heap.size ≠ w.heap.size + 1 := by have := (Array.getElem?_eq_some_iff.1 h6r).1; omega
          have hlt9 := (Array.getElem?_eq_some_iff.1 h9w).1
          generalize wr.heap.size = g9 at *
          rw [HP.out]
          clear hb2 hbr h4r h6r q0 q1 q2 q3 q4 hP
          go_wp2_with fail
          exact ⟨⟨k + 1, by omega, by go_num, by rw [HT.out], hbw, h4w, by rw [HT.out]; exact h6w⟩, by simp [intOf]; omega⟩
        | true =>
          have HP := hid hP
          cases fd with
          | false =>
            have HT : Hid (bestOf speaks (l.take (k + 1)) = (⟨id, ad, pr, dr, bd⟩, true)) := HS.out.trans (step_yes (by rw [HP.out]; simp [hp]))
            clear HS
            go_wp2_with fail
            refine (speaks_any ⟨id, ad, pr, dr, bd⟩ _).mono ?_
            rintro e w2 ⟨rfl, hb2⟩
            have hbw : Below w.heap.size w w2 := (hbr.alloc hbr.size (.cells (vC ⟨id, ad, pr, dr, bd⟩) 50)).trans (hb2.mono (by have := hbr.size; simp; omega))
            have h4w := blk_below (blk_alloc h4r (.cells (vC ⟨id, ad, pr, dr, bd⟩) 50)) hb2 (by have := (Array.getElem?_eq_some_iff.1 h4r).1; simp; omega)
            have h6w := blk_below (blk_alloc h6r (.cells (vC ⟨id, ad, pr, dr, bd⟩) 50)) hb2 (by have := (Array.getElem?_eq_some_iff.1 h6r).1; simp; omega)
            have h9w := blk_below (heap_alloc_new wr (.cells (vC ⟨id, ad, pr, dr, bd⟩) 50)) hb2 (by simp)
            have hne : wr.heap.size ≠ w.heap.size + 1 := by have := (Array.getElem?_eq_some_iff.1 h6r).1; omega
            have hlt9 := (Array.getElem?_eq_some_iff.1 h9w).1
            generalize wr.heap.size = g9 at *
            rw [HP.out]
            clear hb2 hbr h4r h6r q0 q1 q2 q3 q4 hP
            obtain ⟨hc9, _⟩ := blk_cells h9w
            obtain ⟨hc6, hf6⟩ := blk_cells h6w
            go_wp2_with fail
            have h6n := putV_in ⟨id, ad, pr, dr, bd⟩ h6w
            have h4n := putV_far (g := w.heap.size + 1) ⟨id, ad, pr, dr, bd⟩ h4w (by omega)
            have hbn := putV_below (g := w.heap.size + 1) ⟨id, ad, pr, dr, bd⟩ hbw (by omega)
            exact ⟨⟨k + 1, by omega, by go_num, by rw [HT.out], hbn, h4n, by rw [HT.out]; exact h6n⟩, by simp [intOf]; omega⟩
          | true =>
            cases hB : better ⟨id, ad, pr, dr, bd⟩ o with
            | true =>
              have HB := hid hB
              have HT : Hid (bestOf speaks (l.take (k + 1)) = (⟨id, ad, pr, dr, bd⟩, true)) := HS.out.trans (step_yes (by rw [HP.out, HB.out]; simp [hp]))
              clear HS hB
              go_wp2_with fail
              refine (speaks_any ⟨id, ad, pr, dr, bd⟩ _).mono ?_
              rintro e w2 ⟨rfl, hb2⟩
              have hbw : Below w.heap.size w w2 := (hbr.alloc hbr.size (.cells (vC ⟨id, ad, pr, dr, bd⟩) 50)).trans (hb2.mono (by have := hbr.size; simp; omega))
              have h4w := blk_below (blk_alloc h4r (.cells (vC ⟨id, ad, pr, dr, bd⟩) 50)) hb2 (by have := (Array.getElem?_eq_some_iff.1 h4r).1; simp; omega)
              have h6w := blk_below (blk_alloc h6r (.cells (vC ⟨id, ad, pr, dr, bd⟩) 50)) hb2 (by have := (Array.getElem?_eq_some_iff.1 h6r).1; simp; omega)
              have h9w := blk_below (heap_alloc_new wr (.cells (vC ⟨id, ad, pr, dr, bd⟩) 50)) hb2 (by simp)
              have hne : wr.heap.size ≠ w.heap.size + 1 := by have := (Array.getElem?_eq_some_iff.1 h6r).1; omega
              have hlt9 := (Array.getElem?_eq_some_iff.1 h9w).1
              generalize wr.heap.size = g9 at *
              rw [HP.out]
              clear hb2 hbr h4r h6r q0 q1 q2 q3 q4 hP
              obtain ⟨hc9, _⟩ := blk_cells h9w
              obtain ⟨hc6, hf6⟩ := blk_cells h6w
              go_wp2_with fail
              refine (better_any ⟨id, ad, pr, dr, bd⟩ o _).mono ?_
              rintro e w3 ⟨rfl, hb3⟩
              rw [HB.out]
              replace hbw := hbw.trans (hb3.mono hbw.size)
              replace h4w := blk_below h4w hb3 (Array.getElem?_eq_some_iff.1 h4w).1
              replace h6w := blk_below h6w hb3 (Array.getElem?_eq_some_iff.1 h6w).1
              replace h9w := blk_below h9w hb3 (Array.getElem?_eq_some_iff.1 h9w).1
              clear hc9 hc6 hf6 hb3
              obtain ⟨hc9, _⟩ := blk_cells h9w
              obtain ⟨hc6, hf6⟩ := blk_cells h6w
              go_wp2_with fail
              have h6n := putV_in ⟨id, ad, pr, dr, bd⟩ h6w
              have h4n := putV_far (g := w.heap.size + 1) ⟨id, ad, pr, dr, bd⟩ h4w (by omega)
              have hbn := putV_below (g := w.heap.size + 1) ⟨id, ad, pr, dr, bd⟩ hbw (by omega)
              exact ⟨⟨k + 1, by omega, by go_num, by rw [HT.out], hbn, h4n, by rw [HT.out]; exact h6n⟩, by simp [intOf]; omega⟩
            | false =>
              have HB := hid hB
              have HT : Hid (bestOf speaks (l.take (k + 1)) = (o, true)) := HS.out.trans (step_no (by rw [HP.out, HB.out]; simp))
              clear HS hB
              go_wp2_with fail
              refine (speaks_any ⟨id, ad, pr, dr, bd⟩ _).mono ?_
              rintro e w2 ⟨rfl, hb2⟩
              have hbw : Below w.heap.size w w2 := (hbr.alloc hbr.size (.cells (vC ⟨id, ad, pr, dr, bd⟩) 50)).trans (hb2.mono (by have := hbr.size; simp; omega))
              have h4w := blk_below (blk_alloc h4r (.cells (vC ⟨id, ad, pr, dr, bd⟩) 50)) hb2 (by have := (Array.getElem?_eq_some_iff.1 h4r).1; simp; omega)
              have h6w := blk_below (blk_alloc h6r (.cells (vC ⟨id, ad, pr, dr, bd⟩) 50)) hb2 (by have := (Array.getElem?_eq_some_iff.1 h6r).1; simp; omega)
              have h9w := blk_below (heap_alloc_new wr (.cells (vC ⟨id, ad, pr, dr, bd⟩) 50)) hb2 (by simp)
              have hne : wr.heap.size ≠ w.heap.size + 1 := by have := (Array.getElem?_eq_some_iff.1 h6r).1; omega
              have hlt9 := (Array.getElem?_eq_some_iff.1 h9w).1
              generalize wr.heap.size = g9 at *
              rw [HP.out]
              clear hb2 hbr h4r h6r q0 q1 q2 q3 q4 hP
              obtain ⟨hc9, _⟩ := blk_cells h9w
              obtain ⟨hc6, hf6⟩ := blk_cells h6w
              go_wp2_with fail
              refine (better_any ⟨id, ad, pr, dr, bd⟩ o _).mono ?_
              rintro e w3 ⟨rfl, hb3⟩
              rw [HB.out]
              replace hbw := hbw.trans (hb3.mono hbw.size)
              replace h4w := blk_below h4w hb3 (Array.getElem?_eq_some_iff.1 h4w).1
              replace h6w := blk_below h6w hb3 (Array.getElem?_eq_some_iff.1 h6w).1
              clear hc9 hc6 hf6 hb3
              go_wp2_with fail
              exact ⟨⟨k + 1, by omega, by go_num, by rw [HT.out], hbw, h4w, by rw [HT.out]; exact h6w⟩, by simp [intOf]; omega⟩
      · have HT : Hid (bestOf speaks (l.take (k + 1)) = (o, fd)) := HS.out.trans (step_no (by simp [hp]))
        clear HS
        have hbw := hbr.alloc hbr.size (.cells (vC ⟨id, ad, pr, dr, bd⟩) 50)
        have h4w := blk_alloc h4r (.cells (vC ⟨id, ad, pr, dr, bd⟩) 50)
        have h6w := blk_alloc h6r (.cells (vC ⟨id, ad, pr, dr, bd⟩) 50)
        go_wp2_with fail
        exact ⟨⟨k + 1, by omega, by go_num, by rw [HT.out], hbw, h4w, by rw [HT.out]; exact h6w⟩, by simp [intOf]; omega⟩
    · obtain rfl : k = n := by omega
      have HE : Hid (bestOf speaks (l.take k) = bestOf speaks l) := by show _ = _; rw [List.take_of_length_le (by rw [LL.out]; exact Nat.le_refl _)]
      rw [HE.out] at h6r
      rw [HE.out]
      clear HE
      obtain ⟨s, hs⟩ : ∃ s, bestOf speaks l = s := ⟨_, rfl⟩
      have HSS := hid hs
      rw [hs] at h6r
      rw [hs]
      clear hs
      obtain ⟨o, fd⟩ := s
      obtain ⟨hc6, _⟩ := blk_cells h6r
      obtain ⟨_, hf4⟩ := blk_cells h4r
      go_wp2_with fail
      refine ret_cells (v := .tuple #[.agg (vC o), .bool fd]) (g := w.heap.size) (T := 50) (cs := vC o) (fun W hW => by obtain ⟨hc, hf⟩ := blk_cells hW; simp [results, Try.results106, go_sem, hc]) (putV_in o h4r) rfl ⟨by rw [HSS.out], putV_below o hbr (Nat.le_refl _)⟩
end Go.Proofs.Ytaajhkdifliblaa
