/-
  Contracts of package lsa and of its reference: numbers read.
-/
import Derived.Test.YtgopkpogakjckaaLsa1
import Derived.Test.YtgopkpogakjckaaLsaN
namespace Go.Proofs.Ytgopkpogakjckaa
set_option linter.unusedVariables false
set_option linter.unusedSimpArgs false
open Go.RowKit SM LM

set_option maxRecDepth 100000 in
set_option maxHeartbeats 400000 in
theorem refNum_any (A : Option Addr) (n c : Nat) (l : List UInt8) (w : World) (h : Sl w 1 (.slice A n c) (B8 l)) (hn : n ≤ 4) :
    Calls Try.prog 50 #[.slice A n c] w fun e w' => e = .returned (.int .i64 (nv l n : Nat)) ∧ w' = w := by
  obtain ⟨hl1, hl2, hl3⟩ := h.len
  have HL := hid hl1
  clear hl1
  go_enter Try.func50, Try.ntmps50
  go_wp2
  go_loop [3, 4] (fun s i => ∃ k : Nat, k ≤ n ∧ i = .int .i64 k ∧ s = .int .i64 (nv l k : Nat)) (fun _ i => n - (intOf i).toNat)
  case atStart => exact ⟨0, Nat.zero_le _, rfl, rfl⟩
  case round =>
    obtain ⟨k, hk, rfl, rfl⟩ := hrel
    have hs := nv_bd l k (by omega)
    by_cases hlt : k < n
    · obtain ⟨b, off, rfl, _, hc⟩ := h.byte hlt
      have hx := byt_lt l k
      have H1 := hid (show nv l (k + 1) = nv l k * 256 + byt l k from rfl)
      go_wp2
      go_light
      exact ⟨⟨k + 1, by omega, by go_num, by rw [H1.out]; go_num⟩, by simp [intOf]; omega⟩
    · go_wp2
      obtain rfl : k = n := by omega
      go_ret
      exact ⟨rfl, rfl⟩

/-- a reader at block g, with so many bytes left -/
def RdB (B : Nat) (w : World) (g : Nat) (l : List UInt8) : Prop :=
  ∃ A n c, w.heap[g]? = some (.cells #[.slice A n c] 179 (0, 0)) ∧ Sl w 1 (.slice A n c) (B8 l) ∧ ∀ ad, A = some ad → ad.block < B
def Rd (w : World) (g : Nat) (l : List UInt8) : Prop := RdB g w g l

theorem set_one {w : World} {g : Nat} {T : TypeId} {x : Value} (hb : w.heap[g]? = some (.cells #[x] T (0, 0))) (v : Value) : (w.setCell ⟨g, 0, none⟩ v).heap[g]? = some (.cells #[v] T (0, 0)) := by
  simp [World.setCell, Array.getElem?_modify, hb]
theorem grown_set (w : World) (g i : Nat) (v : Value) : w.grownBy (w.setCell ⟨g, i, none⟩ v) (some g) :=
  ⟨rfl, rfl, rfl, by simp [World.setCell], fun k _ hne => Below.heap_setCell w _ v k (fun e => hne (by rw [e]))⟩
theorem set_far {w : World} {g : Nat} {o : Obj} (h : w.heap[g]? = some o) {p : Addr} (hp : g ≠ p.block) (v : Value) : (w.setCell p v).heap[g]? = some o := (Below.heap_setCell w p v g hp).trans h
theorem set_in {w : World} {g : Nat} {T : TypeId} {cs : Array Value} (hb : w.heap[g]? = some (.cells cs T (0, 0))) (i : Nat) (v : Value) : (w.setCell ⟨g, i, none⟩ v).heap[g]? = some (.cells (cs.setIfInBounds i v) T (0, 0)) := by
  simp [World.setCell, Array.getElem?_modify, hb]
theorem blk_grown {w w' : World} {g : Nat} {o : Obj} {row : Option Nat} (h : w.heap[g]? = some o) (hg : w.grownBy w' row) (hne : some g ≠ row) : w'.heap[g]? = some o :=
  (hg.block g (Array.getElem?_eq_some_iff.1 h).1 hne).trans h
theorem blk_below {w w' : World} {g B : Nat} {o : Obj} (h : w.heap[g]? = some o) (hb : Below B w w') (hg : g < B) : w'.heap[g]? = some o := (hb.block g hg).trans h
theorem blk_alloc {w : World} {g : Nat} {o : Obj} (h : w.heap[g]? = some o) (o' : Obj) : (w.alloc o').heap[g]? = some o :=
  (Below.heap_alloc w o' g (Array.getElem?_eq_some_iff.1 h).1).trans h
theorem blk_cells {w : World} {g : Nat} {cs : Array Value} {T : TypeId} (h : w.heap[g]? = some (.cells cs T (0, 0))) : (∀ i, w.cell? ⟨g, i, none⟩ = cs[i]?) ∧ (∀ i, w.frozen? ⟨g, i, none⟩ = false) :=
  ⟨fun i => by simp [World.cell?, h], fun i => by simp [World.frozen?, h]⟩
theorem blk_lt {w : World} {g : Nat} {o : Obj} (h : w.heap[g]? = some o) : g < w.heap.size := (Array.getElem?_eq_some_iff.1 h).1
theorem heap_alloc_new' (w : World) (o : Obj) (g : Nat) (hg : g = w.heap.size) : (w.alloc o).heap[g]? = some o := by subst hg; exact heap_alloc_new w o
theorem grown_row {w w' : World} {g B : Nat} (hg : w.grownBy w' (some g)) (h : B ≤ g) (hB : B ≤ w.heap.size) : Below B w w' := (Below.refl B w).grown hg hB (fun k hk => by injection hk with hk; omega)
theorem sl_drop {w : World} {A : Option Addr} {n c : Nat} {l : List UInt8} (h : Sl w 1 (.slice A n c) (B8 l)) (k : Nat) (hk : k ≤ n) :
    Sl w 1 (.slice (if c = k then A else A.map (·.add k)) (n - k) (c - k)) (B8 (l.drop k)) := by
  obtain ⟨A', n', c', he, hl, hnc, hcm, hr⟩ := h
  injection he with e1 e2 e3
  subst e1; subst e2; subst e3
  rw [B8_length, Nat.mul_one] at hl
  refine ⟨_, _, _, rfl, by rw [B8_length, List.length_drop]; omega, by omega, by simp only [maxLen] at *; omega, fun h0 => ?_⟩
  obtain ⟨b, off, rfl, hlt, hc⟩ := hr (by omega)
  refine ⟨b, off + k, by rw [if_neg (by omega)]; simp [addr_add], hlt, fun i hi => ?_⟩
  rw [Nat.add_assoc, hc (k + i) (by omega)]
  simp only [B8, ← List.map_drop, List.getElem?_map, List.getElem?_drop]

theorem Rd.far {w : World} {g : Nat} {l : List UInt8} (h : Rd w g l) {p : Addr} (hp : g < p.block) (v : Value) : Rd (w.setCell p v) g l := by
  obtain ⟨A, n, c, hb, hsl, hlt⟩ := h
  refine ⟨A, n, c, set_far hb (by omega) v, ?_, hlt⟩
  exact hsl.grown (row := some p.block) ⟨rfl, rfl, rfl, by simp [World.setCell], fun k _ hne => Below.heap_setCell w p v k (fun e => hne (by rw [e]))⟩ (fun ad had => by have := hlt ad had; simp; omega)
theorem Rd.alloc {w : World} {g : Nat} {l : List UInt8} (h : Rd w g l) (o : Obj) : Rd (w.alloc o) g l := by
  obtain ⟨A, n, c, hb, hsl, hlt⟩ := h
  exact ⟨A, n, c, blk_alloc hb o, hsl.alloc o, hlt⟩
theorem Rd.lt {w : World} {g : Nat} {l : List UInt8} (h : Rd w g l) : g < w.heap.size := by
  obtain ⟨A, n, c, hb, hsl, hlt⟩ := h
  exact blk_lt hb

set_option maxRecDepth 100000 in
set_option maxHeartbeats 800000 in
theorem takeB_any (B g size : Nat) (l : List UInt8) (w : World) (h : RdB B w g l) (hBg : B ≤ g) (hs : size ≤ 4) (h1 : 1 ≤ size) :
    Calls Try.prog 107 #[.pointer (some ⟨g, 0, none⟩), .int .i64 size] w fun e w' => e = .returned (.int .u32 (takeV l size : Nat)) ∧ RdB B w' g (takeR l size) ∧ w.grownBy w' (some g) := by
  obtain ⟨A, n, c, hb, hsl, hne⟩ := h
  obtain ⟨hl1, hl2, hl3⟩ := hsl.len
  have hcell : w.cell? ⟨g, 0, none⟩ = some (.slice A n c) := by simp [World.cell?, hb]
  have hfr : w.frozen? ⟨g, 0, none⟩ = false := by simp [World.frozen?, hb]
  have HB := hid hb
  have HN := hid hne
  clear hb hne
  by_cases hlt : n < size
  · have HL := hid hl1
    clear hl1
    go_enter Try.func107, Try.ntmps107
    go_wp2
    go_ret
    refine ⟨ret_int ?_, ⟨none, 0, 0, set_one HB.out _, ?_, by simp⟩, grown_set _ _ _ _⟩
    · unfold takeV; rw [if_pos (by rw [HL.out]; exact hlt)]; rfl
    · unfold takeR; rw [if_pos (by rw [HL.out]; exact hlt)]; exact sl_nil _ _
  · have HL := hid hl1
    clear hl1
    have hcut := hsl.take size (by omega)
    have HD := hid (sl_drop hsl size (by omega))
    go_enter Try.func107, Try.ntmps107
    go_wp2
    go_loop [5, 25] (fun s i => ∃ k : Nat, k ≤ size ∧ i = .int .i64 k ∧ s = .int .u32 (nv l k : Nat)) (fun _ i => size - (intOf i).toNat)
    case atStart => exact ⟨0, Nat.zero_le _, rfl, rfl⟩
    case round =>
      obtain ⟨k, hk, rfl, rfl⟩ := hrel
      by_cases hlt2 : k < size
      · have hs3 := nv_bd3 l k (by omega)
        obtain ⟨b, off, rfl, _, hc⟩ := hsl.byte (k := k) (by omega)
        have hx := byt_lt l k
        have H1 := hid (show nv l (k + 1) = nv l k * 256 + byt l k from rfl)
        have hor : bits .or .u32 ((nv l k : Int) * 256) (byt l k : Int) = ((nv l k * 256 + byt l k : Nat) : Int) := by
          have := u32_or_nat (nv l k * 256) (byt l k) (by omega) (by omega)
          rw [nat_join 8 (nv l k * 256) (byt l k) (by omega) (by omega)] at this
          rw [← this]
          simp
        go_wp2
        go_light
        exact ⟨⟨k + 1, by omega, by go_num, by rw [H1.out]; go_num⟩, by simp [intOf]; omega⟩
      · obtain rfl : k = size := by omega
        go_wp2
        all_goals go_light
        all_goals go_ret
        all_goals
          have hd := HD.out
          have hl := HL.out
          refine ⟨ret_int ?_, ⟨_, _, _, set_one HB.out _, ?_, ?_⟩, grown_set _ _ _ _⟩
        · unfold takeV; rw [if_neg (by omega)]
        · unfold takeR
          rw [if_neg (by omega)]
          rw [if_pos ‹c = k›] at hd
          rw [show c - k = 0 by omega] at hd
          exact hd.grown (grown_set _ _ _ _) (fun ad had => by have := HN.out ad had; simp; omega)
        · exact HN.out
        · unfold takeV; rw [if_neg (by omega)]
        · unfold takeR
          rw [if_neg (by omega)]
          rw [if_neg ‹¬c = k›] at hd
          refine hd.grown (grown_set _ _ _ _) (fun ad had => ?_)
          rcases A with _ | ⟨b, off, spot⟩
          · cases had
          · injection had with had
            subst had
            have := HN.out _ rfl
            rw [show ((⟨b, off, spot⟩ : Addr).add k).block = b by unfold Addr.add; split <;> rfl]
            simp at this ⊢
            omega
        · intro ad had
          rcases A with _ | ⟨b, off, spot⟩
          · cases had
          · injection had with had
            subst had
            have := HN.out _ rfl
            rw [show ((⟨b, off, spot⟩ : Addr).add k).block = b by unfold Addr.add; split <;> rfl]
            exact this

theorem take_any (g size : Nat) (l : List UInt8) (w : World) (h : Rd w g l) (hs : size ≤ 4) (h1 : 1 ≤ size) :
    Calls Try.prog 107 #[.pointer (some ⟨g, 0, none⟩), .int .i64 size] w fun e w' => e = .returned (.int .u32 (takeV l size : Nat)) ∧ Rd w' g (takeR l size) ∧ w.grownBy w' (some g) :=
  takeB_any g g size l w h (Nat.le_refl _) hs h1
/-- a field of a header -/
def fld (l : List UInt8) (off size : Nat) : Nat := nv (l.drop off) size
/-- its number -/
def sq (l : List UInt8) : Int := wrap32 (fld l 12 4 : Nat)
theorem sq_eq (l : List UInt8) : wrap64 (wrap32 (fld l 12 4 : Nat)) = sq l := by unfold sq wrap64 wrap32; omega
/-- a header's cells -/
abbrev headC (l : List UInt8) : Array Value :=
  #[.int .i64 (fld l 0 2 : Nat), .int .i64 (fld l 3 1 : Nat), .int .u32 (fld l 4 4 : Nat), .int .u32 (fld l 8 4 : Nat), .int .i64 (sq l), .int .u16 (fld l 16 2 : Nat), .int .i64 (fld l 18 2 : Nat)]
theorem takeV_fld (l : List UInt8) (off size : Nat) (h : off + size ≤ l.length) : takeV (l.drop off) size = fld l off size := by
  unfold takeV
  rw [if_neg (by rw [List.length_drop]; omega)]
  rfl
theorem takeR_fld (l : List UInt8) (off size : Nat) (h : off + size ≤ l.length) : takeR (l.drop off) size = l.drop (off + size) := by
  unfold takeR
  rw [if_neg (by rw [List.length_drop]; omega), List.drop_drop]

set_option maxRecDepth 100000 in
set_option maxHeartbeats 800000 in
theorem head_no (A : Option Addr) (n c : Nat) (w : World) (hn : n < 20) :
    Calls Try.prog 84 #[.slice A n c] w fun e w' => e = .returned (.tuple #[.agg #[.int .i64 0, .int .i64 0, .int .u32 0, .int .u32 0, .int .i64 0, .int .u16 0, .int .i64 0], .int .i64 4]) ∧ Below w.heap.size w w' := by
  go_enter Try.func84, Try.ntmps84
  go_wp2_with fail
  refine bodyPost_ret (v := .tuple #[.agg #[.int .i64 0, .int .i64 0, .int .u32 0, .int .u32 0, .int .i64 0, .int .u16 0, .int .i64 0], .int .i64 4]) (by simp [results, Try.results84, go_sem]) rfl ⟨rfl, ?_⟩
  exact (Below.refl _ _).alloc (Nat.le_refl _) _

set_option maxRecDepth 100000 in
set_option maxHeartbeats 1600000 in
theorem head_yes (A : Option Addr) (n c : Nat) (l : List UInt8) (w : World) (h : Sl w 1 (.slice A n c) (B8 l)) (hn : 20 ≤ n) :
    Calls Try.prog 84 #[.slice A n c] w fun e w' => e = .returned (.tuple #[.agg (headC l), .int .i64 0]) ∧ Below w.heap.size w w' := by
  obtain ⟨hl1, hl2, hl3⟩ := h.len
  have HL := hid hl1
  clear hl1
  obtain ⟨b, off, rfl, hlt, hc⟩ := h.byte (k := 0) (by omega)
  clear hc
  go_enter Try.func84, Try.ntmps84
  have hlen := HL.out
  have T1 := hid (takeV_fld l 0 2 (by omega))
  have R1 := hid (takeR_fld l 0 2 (by omega))
  have T3 := hid (takeR_fld l 2 1 (by omega))
  have T4 := hid (takeV_fld l 3 1 (by omega))
  have R4 := hid (takeR_fld l 3 1 (by omega))
  have T5 := hid (takeV_fld l 4 4 (by omega))
  have R5 := hid (takeR_fld l 4 4 (by omega))
  have T6 := hid (takeV_fld l 8 4 (by omega))
  have R6 := hid (takeR_fld l 8 4 (by omega))
  have T7 := hid (takeV_fld l 12 4 (by omega))
  have R7 := hid (takeR_fld l 12 4 (by omega))
  have T8 := hid (takeV_fld l 16 2 (by omega))
  have R8 := hid (takeR_fld l 16 2 (by omega))
  have T9 := hid (takeV_fld l 18 2 (by omega))
  clear hlen
  have f1 : fld l 0 2 < 4294967296 := nv_bd _ _ (by omega)
  have f4 : fld l 3 1 < 4294967296 := nv_bd _ _ (by omega)
  have f7 : fld l 12 4 < 4294967296 := nv_bd _ _ (by omega)
  have f9 : fld l 18 2 < 4294967296 := nv_bd _ _ (by omega)
  have hq := sq_eq l
  have f8 : fld l 16 2 < 65536 := by have := nv_lt (l.drop 16) 2; simpa [fld] using this
  go_wp2_with fail
  have hR0 : Rd ((w.alloc (.cells #[.int .i64 0, .int .i64 0, .int .u32 0, .int .u32 0, .int .i64 0, .int .u16 0, .int .i64 0] 96)).alloc (.cells #[.slice (some ⟨b, off, none⟩) n c] 179)) (w.heap.size + 1) (l.drop 0) := by
    refine ⟨some ⟨b, off, none⟩, n, c, ?_, ?_, fun ad had => by injection had with had; subst had; simp; omega⟩
    · exact heap_alloc_new' _ _ _ (by simp)
    · rw [List.drop_zero]; exact (h.alloc _).alloc _
  have hO0 : ((w.alloc (.cells #[.int .i64 0, .int .i64 0, .int .u32 0, .int .u32 0, .int .i64 0, .int .u16 0, .int .i64 0] 96)).alloc (.cells #[.slice (some ⟨b, off, none⟩) n c] 179)).heap[w.heap.size]? = some (.cells #[.int .i64 0, .int .i64 0, .int .u32 0, .int .u32 0, .int .i64 0, .int .u16 0, .int .i64 0] 96 (0, 0)) := blk_alloc (heap_alloc_new w _) _
  have hB0 : Below w.heap.size w ((w.alloc (.cells #[.int .i64 0, .int .i64 0, .int .u32 0, .int .u32 0, .int .i64 0, .int .u16 0, .int .i64 0] 96)).alloc (.cells #[.slice (some ⟨b, off, none⟩) n c] 179)) := by (repeat (first | with_reducible exact Below.refl _ _ | with_reducible assumption | with_reducible refine Below.drew ?_ | with_reducible refine below_drewN ?_ _ | (with_reducible refine Below.alloc ?_ ?_ _; rotate_left; · (first | (simp; done) | omega | (simp at *; omega))) | (with_reducible refine Below.setCell ?_ ?_ _; rotate_left; · (first | (simp only []; omega) | (simp; done) | (simp; omega))) | with_reducible refine Below.trans ?_ (by with_reducible assumption)))
  have hZ0 : ((w.alloc (.cells #[.int .i64 0, .int .i64 0, .int .u32 0, .int .u32 0, .int .i64 0, .int .u16 0, .int .i64 0] 96)).alloc (.cells #[.slice (some ⟨b, off, none⟩) n c] 179)).heap.size = w.heap.size + 2 := by simp
  generalize ((w.alloc (.cells #[.int .i64 0, .int .i64 0, .int .u32 0, .int .u32 0, .int .i64 0, .int .u16 0, .int .i64 0] 96)).alloc (.cells #[.slice (some ⟨b, off, none⟩) n c] 179)) = w0 at *
  refine (take_any (w.heap.size + 1) 2 (l.drop 0) w0 hR0 (by omega) (by omega)).mono ?_
  rintro e w1 ⟨rfl, hR0', hg0⟩
  rw [T1.out]
  rw [R1.out] at hR0'
  have hO0' := blk_grown hO0 hg0 (by simp)
  have hB0' := hB0.trans (grown_row hg0 (by omega : w.heap.size ≤ w.heap.size + 1) hB0.size)
  have hS0 := hg0.size
  have hS0' : w.heap.size + 2 ≤ w1.heap.size := by omega
  clear hR0 hO0 hB0 hg0 hS0 hZ0
  go_wp2_with fail
  have hR1 := hR0'.alloc (.cells #[.int .i64 (fld l 0 2 : Nat), .int .i64 0, .int .u32 0, .int .u32 0, .int .i64 0, .int .u16 0, .int .i64 0] 96)
  have hO1 := blk_alloc hO0' (.cells #[.int .i64 (fld l 0 2 : Nat), .int .i64 0, .int .u32 0, .int .u32 0, .int .i64 0, .int .u16 0, .int .i64 0] 96)
  have hH1 := heap_alloc_new w1 (.cells #[.int .i64 (fld l 0 2 : Nat), .int .i64 0, .int .u32 0, .int .u32 0, .int .i64 0, .int .u16 0, .int .i64 0] 96)
  have hB1 := hB0'.alloc hB0'.size (.cells #[.int .i64 (fld l 0 2 : Nat), .int .i64 0, .int .u32 0, .int .u32 0, .int .i64 0, .int .u16 0, .int .i64 0] 96)
  generalize w1.alloc (.cells #[.int .i64 (fld l 0 2 : Nat), .int .i64 0, .int .u32 0, .int .u32 0, .int .i64 0, .int .u16 0, .int .i64 0] 96) = w2 at *
  clear hR0' hO0' hB0'
  generalize w1.heap.size = gh at *
  refine (take_any (w.heap.size + 1) 1 (l.drop 2) w2 hR1 (by omega) (by omega)).mono ?_
  rintro e w3 ⟨rfl, hR1', hg1⟩
  rw [T3.out] at hR1'
  have hO1' := blk_grown hO1 hg1 (by simp)
  have hH1' := blk_grown hH1 hg1 (by simp; omega)
  have hB1' := hB1.trans (grown_row hg1 (by omega : w.heap.size ≤ w.heap.size + 1) hB1.size)
  have hS1 := hg1.size
  clear hR1 hO1 hH1 hB1 hg1
  go_wp2_with fail
  refine (take_any (w.heap.size + 1) 1 (l.drop 3) w3 hR1' (by omega) (by omega)).mono ?_
  rintro e w4 ⟨rfl, hR2, hg2⟩
  rw [T4.out]
  rw [R4.out] at hR2
  have hO2 := blk_grown hO1' hg2 (by simp)
  have hH2 := blk_grown hH1' hg2 (by simp; omega)
  have hB2 := hB1'.trans (grown_row hg2 (by omega : w.heap.size ≤ w.heap.size + 1) hB1'.size)
  have hS2 := hg2.size
  go_wp2_with fail
  refine (take_any (w.heap.size + 1) 4 (l.drop 4) w4 hR2 (by omega) (by omega)).mono ?_
  rintro e w5 ⟨rfl, hR2', hg2⟩
  rw [T5.out]
  rw [R5.out] at hR2'
  have hO2' := blk_grown hO2 hg2 (by simp)
  have hH2' := blk_grown hH2 hg2 (by simp; omega)
  have hB2' := hB2.trans (grown_row hg2 (by omega : w.heap.size ≤ w.heap.size + 1) hB2.size)
  have hS2 := hg2.size
  go_wp2_with fail
  refine (take_any (w.heap.size + 1) 4 (l.drop 8) w5 hR2' (by omega) (by omega)).mono ?_
  rintro e w6 ⟨rfl, hR3, hg3⟩
  rw [T6.out]
  rw [R6.out] at hR3
  have hO3 := blk_grown hO2' hg3 (by simp)
  have hH3 := blk_grown hH2' hg3 (by simp; omega)
  have hB3 := hB2'.trans (grown_row hg3 (by omega : w.heap.size ≤ w.heap.size + 1) hB2'.size)
  have hS3 := hg3.size
  clear hR1' hR2 hR2' hO1' hO2 hO2' hH1' hH2 hH2' hB1' hB2 hB2' hg2 hg3
  obtain ⟨hc3, hf3⟩ := blk_cells hH3
  go_wp2_with fail
  clear hc3 hf3
  have hH4 := hH3
  replace hH4 := set_in hH4 1 (.int .i64 (fld l 3 1 : Nat))
  replace hH4 := set_in hH4 2 (.int .u32 (fld l 4 4 : Nat))
  replace hH4 := set_in hH4 3 (.int .u32 (fld l 8 4 : Nat))
  simp only [List.setIfInBounds_toArray, List.set_cons_succ, List.set_cons_zero] at hH4
  have hR4 := hR3
  have hO4 := hO3
  have hB4 := hB3
  replace hR4 := hR4.far (p := ⟨gh, 1, none⟩) (by show w.heap.size + 1 < gh; omega) (.int .i64 (fld l 3 1 : Nat))
  replace hO4 := set_far hO4 (p := ⟨gh, 1, none⟩) (by show w.heap.size ≠ gh; omega) (.int .i64 (fld l 3 1 : Nat))
  replace hB4 := hB4.setCell (p := ⟨gh, 1, none⟩) (by show w.heap.size ≤ gh; omega) (.int .i64 (fld l 3 1 : Nat))
  replace hR4 := hR4.far (p := ⟨gh, 2, none⟩) (by show w.heap.size + 1 < gh; omega) (.int .u32 (fld l 4 4 : Nat))
  replace hO4 := set_far hO4 (p := ⟨gh, 2, none⟩) (by show w.heap.size ≠ gh; omega) (.int .u32 (fld l 4 4 : Nat))
  replace hB4 := hB4.setCell (p := ⟨gh, 2, none⟩) (by show w.heap.size ≤ gh; omega) (.int .u32 (fld l 4 4 : Nat))
  replace hR4 := hR4.far (p := ⟨gh, 3, none⟩) (by show w.heap.size + 1 < gh; omega) (.int .u32 (fld l 8 4 : Nat))
  replace hO4 := set_far hO4 (p := ⟨gh, 3, none⟩) (by show w.heap.size ≠ gh; omega) (.int .u32 (fld l 8 4 : Nat))
  replace hB4 := hB4.setCell (p := ⟨gh, 3, none⟩) (by show w.heap.size ≤ gh; omega) (.int .u32 (fld l 8 4 : Nat))
  generalize (((w6.setCell ⟨gh, 1, none⟩ (.int .i64 (fld l 3 1 : Nat))).setCell ⟨gh, 2, none⟩ (.int .u32 (fld l 4 4 : Nat))).setCell ⟨gh, 3, none⟩ (.int .u32 (fld l 8 4 : Nat))) = w7 at *
  clear hR3 hO3 hH3 hB3
  refine (take_any (w.heap.size + 1) 4 (l.drop 12) w7 hR4 (by omega) (by omega)).mono ?_
  rintro e w8 ⟨rfl, hR5, hg5⟩
  rw [T7.out]
  rw [R7.out] at hR5
  have hO5 := blk_grown hO4 hg5 (by simp)
  have hH5 := blk_grown hH4 hg5 (by simp; omega)
  have hB5 := hB4.trans (grown_row hg5 (by omega : w.heap.size ≤ w.heap.size + 1) hB4.size)
  clear hR4 hO4 hH4 hB4 hg5
  obtain ⟨hc5, hf5⟩ := blk_cells hH5
  go_wp2_with fail
  clear hc5 hf5
  have hH6 := hH5
  replace hH6 := set_in hH6 4 (.int .i64 (sq l))
  simp only [List.setIfInBounds_toArray, List.set_cons_succ, List.set_cons_zero] at hH6
  have hR6 := hR5
  have hO6 := hO5
  have hB6 := hB5
  replace hR6 := hR6.far (p := ⟨gh, 4, none⟩) (by show w.heap.size + 1 < gh; omega) (.int .i64 (sq l))
  replace hO6 := set_far hO6 (p := ⟨gh, 4, none⟩) (by show w.heap.size ≠ gh; omega) (.int .i64 (sq l))
  replace hB6 := hB6.setCell (p := ⟨gh, 4, none⟩) (by show w.heap.size ≤ gh; omega) (.int .i64 (sq l))
  generalize (w8.setCell ⟨gh, 4, none⟩ (.int .i64 (sq l))) = w9 at *
  clear hR5 hO5 hH5 hB5
  refine (take_any (w.heap.size + 1) 2 (l.drop 16) w9 hR6 (by omega) (by omega)).mono ?_
  rintro e w10 ⟨rfl, hR7, hg7⟩
  rw [T8.out]
  rw [R8.out] at hR7
  have hO7 := blk_grown hO6 hg7 (by simp)
  have hH7 := blk_grown hH6 hg7 (by simp; omega)
  have hB7 := hB6.trans (grown_row hg7 (by omega : w.heap.size ≤ w.heap.size + 1) hB6.size)
  clear hR6 hO6 hH6 hB6 hg7
  go_wp2_with fail
  refine (take_any (w.heap.size + 1) 2 (l.drop 18) w10 hR7 (by omega) (by omega)).mono ?_
  rintro e w11 ⟨rfl, hR8, hg8⟩
  rw [T9.out]
  have hO8 := blk_grown hO7 hg8 (by simp)
  have hH8 := blk_grown hH7 hg8 (by simp; omega)
  have hB8 := hB7.trans (grown_row hg8 (by omega : w.heap.size ≤ w.heap.size + 1) hB7.size)
  clear hR7 hO7 hH7 hB7 hg8
  obtain ⟨hc8, hf8⟩ := blk_cells hH8
  obtain ⟨hc8', hf8'⟩ := blk_cells hO8
  have hne1 : (gh = w.heap.size) = False := by simp; omega
  have hne2 : (w.heap.size = gh) = False := by simp; omega
  go_wp2_with fail
  go_light
  refine bodyPost_ret (v := .tuple #[.agg (headC l), .int .i64 0]) ?_ rfl ⟨rfl, ?_⟩
  · simp [results, Try.results84, go_sem, hc8, hc8', hne1, hne2]
  · (repeat (first | with_reducible exact Below.refl _ _ | with_reducible assumption | with_reducible refine Below.drew ?_ | with_reducible refine below_drewN ?_ _ | (with_reducible refine Below.alloc ?_ ?_ _; rotate_left; · (first | (simp; done) | omega | (simp at *; omega))) | (with_reducible refine Below.setCell ?_ ?_ _; rotate_left; · (first | (simp only []; omega) | (simp; done) | (simp; omega))) | with_reducible refine Below.trans ?_ (by with_reducible assumption)))
end Go.Proofs.Ytgopkpogakjckaa
