/-
  Contract of lsa.Get.
-/
import Derived.Test.YtgopkpogakjckaaLsa8
import Derived.Test.YtgopkpogakjckaaLsa10
namespace Go.Proofs.Ytgopkpogakjckaa
set_option linter.unusedVariables false
set_option linter.unusedSimpArgs false
open Go Go.RowKit SM LM

def zeroL : Lsa := ⟨0, 0, 0, 0, 0, [], 0, [], 0⟩
def getL (l : List UInt8) : Lsa := if getE l = 0 then bodyL l else zeroL
theorem isLsa_zero (w : World) : IsLsa w zeroL none 0 0 none 0 0 := ⟨sl_nil w 4, sl_nil w 1⟩
theorem isLsa_head (w : World) (l : List UInt8) : IsLsa w (headL l) none 0 0 none 0 0 := ⟨sl_nil w 4, sl_nil w 1⟩
/-- what Get leaves -/
def GetPost (l : List UInt8) (w : World) (e : Ending) (w' : World) : Prop :=
  ∃ A1 n1 c1 A2 n2 c2, e = .returned (.tuple #[.agg (lsaC (getL l) A1 n1 c1 A2 n2 c2), .int .i64 (getE l)]) ∧ IsLsa w' (getL l) A1 n1 c1 A2 n2 c2 ∧ Below w.heap.size w w' ∧ FreshA w.heap.size A1 ∧ FreshA w.heap.size A2
theorem getPost_no {l : List UInt8} {w w' : World} {k : Int} (h : getE l = k) (hk : k ≠ 0) (hb : Below w.heap.size w w') : GetPost l w (.returned (.tuple #[.agg (lsaC zeroL none 0 0 none 0 0), .int .i64 k])) w' := by
  have hz : getL l = zeroL := by unfold getL; rw [if_neg (by omega)]
  refine ⟨none, 0, 0, none, 0, 0, ?_, ?_, hb, freshA_none _, freshA_none _⟩
  · rw [hz, h]
  · rw [hz]; exact isLsa_zero w'

set_option maxRecDepth 100000 in
set_option maxHeartbeats 1600000 in
theorem get_short (A : Option Addr) (n c : Nat) (l : List UInt8) (w : World) (h : Sl w 1 (.slice A n c) (B8 l)) (hn : n < 20) :
    Calls Try.prog 106 #[.slice A n c] w (GetPost l w) := by
  have hE : getE l = 4 := by unfold getE; rw [if_pos (by rw [h.len.1]; exact hn)]
  go_enter Try.func106, Try.ntmps106
  go_wp2_with fail
  refine (head_no A n c _ hn).mono ?_
  rintro e w1 ⟨rfl, hb1⟩
  have hh1 := blk_below (heap_alloc_new w _) hb1 (by simp)
  obtain ⟨hc1, hf1⟩ := blk_cells hh1
  have hs1 := hb1.size
  simp at hs1
  have hlt1 : w.heap.size < w1.heap.size := by omega
  have hbb : Below w.heap.size w w1 := ((Below.refl _ _).alloc (Nat.le_refl _) _).trans (hb1.mono (by simp))
  go_wp2_with fail
  refine ret_blk (v := .tuple #[.agg (lsaC zeroL none 0 0 none 0 0), .int .i64 4]) (g := w.heap.size) (T := 63) (cs := lsaC zeroL none 0 0 none 0 0) (fun W hW => by obtain ⟨hc, hf⟩ := blk_cells hW; simp [results, Try.results106, go_sem, hc, zeroL]) ?_ rfl (getPost_no hE (by omega) ?_)
  · simp [World.setCell, World.alloc, Array.getElem?_modify, Array.getElem?_push, hh1, Nat.ne_of_lt hlt1, zeroL]
  · (repeat (first | with_reducible exact Below.refl _ _ | with_reducible assumption | with_reducible refine Below.drew ?_ | with_reducible refine below_drewN ?_ _ | (with_reducible refine Below.alloc ?_ ?_ _; rotate_left; · (first | (simp; done) | omega | (simp at *; omega))) | (with_reducible refine Below.setCell ?_ ?_ _; rotate_left; · (first | (simp only []; omega) | (simp; done) | (simp; omega))) | with_reducible refine Below.trans ?_ (by with_reducible assumption)))

set_option maxRecDepth 100000 in
set_option maxHeartbeats 1600000 in
theorem get_sum (A : Option Addr) (n c : Nat) (l : List UInt8) (w : World) (h : Sl w 1 (.slice A n c) (B8 l)) (hn : 20 ≤ n) (hr : right (l.drop 2) = false) :
    Calls Try.prog 106 #[.slice A n c] w (GetPost l w) := by
  have hE : Hid (getE l = 8) := by show _ = _; unfold getE; rw [if_neg (by rw [h.len.1]; omega), if_pos (.inl hr)]
  have HR := hid hr
  clear hr
  obtain ⟨hl1, hl2, hl3⟩ := h.len
  have HL := hid hl1
  clear hl1
  obtain ⟨b, off, rfl, hlt, c16⟩ := h.byte (k := 16) (by omega)
  obtain ⟨_, _, e1, _, c17⟩ := h.byte (k := 17) (by omega)
  injection e1 with e1
  injection e1 with e1 e2
  subst e1; subst e2
  have b16 := byt_lt l 16
  have b17 := byt_lt l 17
  go_enter Try.func106, Try.ntmps106
  go_wp2_with fail
  have hz0 := h.alloc (.cells #[.int .i64 0, .int .i64 0, .int .u32 0, .int .u32 0, .int .i64 0, .slice none 0 0, .int .u32 0, .slice none 0 0, .int .i64 0] 63)
  refine (head_yes _ n c l _ hz0 hn).mono ?_
  rintro e w1 ⟨rfl, hb1⟩
  have hh1 := blk_below (heap_alloc_new w _) hb1 (by simp)
  have hs1 := hb1.size
  simp at hs1
  have hlt1 : w.heap.size < w1.heap.size := by omega
  have hbb : Below w.heap.size w w1 := ((Below.refl _ _).alloc (Nat.le_refl _) _).trans (hb1.mono (by simp))
  have h1 := h.below hbb
  clear hz0 hb1
  go_wp2_with fail
  have h2 := h1.alloc (.cells (headC l) 96)
  have hh2 := blk_alloc hh1 (.cells (headC l) 96)
  have hH2 := heap_alloc_new w1 (.cells (headC l) 96)
  have hbb2 := hbb.alloc hbb.size (.cells (headC l) 96)
  have hs2 : (w1.alloc (.cells (headC l) 96)).heap.size = w1.heap.size + 1 := by simp
  generalize w1.alloc (.cells (headC l) 96) = w2 at *
  generalize w1.heap.size = gh at *
  have hdrop := sl_drop h2 2 (by omega)
  rw [if_neg (by omega)] at hdrop
  simp only [Option.map_some, addr_add] at hdrop
  refine (right_any _ _ _ _ w2 (by exact hdrop)).mono ?_
  rintro e w3 ⟨rfl, rfl⟩
  have k16 := (hbb2.cell (p := ⟨b, off + 16, none⟩) hlt).trans c16
  have k17 := (hbb2.cell (p := ⟨b, off + 17, none⟩) hlt).trans c17
  clear c16 c17 hdrop h1 hh1 hbb
  rw [HR.out]
  obtain ⟨hc2, hf2⟩ := blk_cells hh2
  go_wp2_with fail
  refine ret_blk (v := .tuple #[.agg (lsaC zeroL none 0 0 none 0 0), .int .i64 8]) (g := w.heap.size) (T := 63) (cs := lsaC zeroL none 0 0 none 0 0) (fun W hW => by obtain ⟨hc, hf⟩ := blk_cells hW; simp [results, Try.results106, go_sem, hc, zeroL]) ?_ rfl (getPost_no hE.out (by omega) ?_)
  · simp [World.setCell, World.alloc, Array.getElem?_modify, Array.getElem?_push, hh2, zeroL]
  · (repeat (first | with_reducible exact Below.refl _ _ | with_reducible assumption | with_reducible refine Below.drew ?_ | with_reducible refine below_drewN ?_ _ | (with_reducible refine Below.alloc ?_ ?_ _; rotate_left; · (first | (simp; done) | omega | (simp at *; omega))) | (with_reducible refine Below.setCell ?_ ?_ _; rotate_left; · (first | (simp only []; omega) | (simp; done) | (simp; omega))) | with_reducible refine Below.trans ?_ (by with_reducible assumption)))
set_option maxRecDepth 100000 in
set_option maxHeartbeats 1600000 in
theorem get_b16 (A : Option Addr) (n c : Nat) (l : List UInt8) (w : World) (h : Sl w 1 (.slice A n c) (B8 l)) (hn : 20 ≤ n) (hr : right (l.drop 2) = true) (h16 : byt l 16 = 255) :
    Calls Try.prog 106 #[.slice A n c] w (GetPost l w) := by
  have hE : Hid (getE l = 8) := by show _ = _; unfold getE; rw [if_neg (by rw [h.len.1]; omega), if_pos (.inr (.inl h16))]
  have HR := hid hr
  have t16 : ((byt l 16 : Int) == 255) = true := by rw [h16]; rfl
  clear hr h16
  obtain ⟨hl1, hl2, hl3⟩ := h.len
  have HL := hid hl1
  clear hl1
  obtain ⟨b, off, rfl, hlt, c16⟩ := h.byte (k := 16) (by omega)
  obtain ⟨_, _, e1, _, c17⟩ := h.byte (k := 17) (by omega)
  injection e1 with e1
  injection e1 with e1 e2
  subst e1; subst e2
  have b16 := byt_lt l 16
  have b17 := byt_lt l 17
  go_enter Try.func106, Try.ntmps106
  go_wp2_with fail
  have hz0 := h.alloc (.cells #[.int .i64 0, .int .i64 0, .int .u32 0, .int .u32 0, .int .i64 0, .slice none 0 0, .int .u32 0, .slice none 0 0, .int .i64 0] 63)
  refine (head_yes _ n c l _ hz0 hn).mono ?_
  rintro e w1 ⟨rfl, hb1⟩
  have hh1 := blk_below (heap_alloc_new w _) hb1 (by simp)
  have hs1 := hb1.size
  simp at hs1
  have hlt1 : w.heap.size < w1.heap.size := by omega
  have hbb : Below w.heap.size w w1 := ((Below.refl _ _).alloc (Nat.le_refl _) _).trans (hb1.mono (by simp))
  have h1 := h.below hbb
  clear hz0 hb1
  go_wp2_with fail
  have h2 := h1.alloc (.cells (headC l) 96)
  have hh2 := blk_alloc hh1 (.cells (headC l) 96)
  have hH2 := heap_alloc_new w1 (.cells (headC l) 96)
  have hbb2 := hbb.alloc hbb.size (.cells (headC l) 96)
  have hs2 : (w1.alloc (.cells (headC l) 96)).heap.size = w1.heap.size + 1 := by simp
  generalize w1.alloc (.cells (headC l) 96) = w2 at *
  generalize w1.heap.size = gh at *
  have hdrop := sl_drop h2 2 (by omega)
  rw [if_neg (by omega)] at hdrop
  simp only [Option.map_some, addr_add] at hdrop
  refine (right_any _ _ _ _ w2 (by exact hdrop)).mono ?_
  rintro e w3 ⟨rfl, rfl⟩
  have k16 := (hbb2.cell (p := ⟨b, off + 16, none⟩) hlt).trans c16
  have k17 := (hbb2.cell (p := ⟨b, off + 17, none⟩) hlt).trans c17
  clear c16 c17 hdrop h1 hh1 hbb
  rw [HR.out]
  obtain ⟨hc2, hf2⟩ := blk_cells hh2
  go_wp2_with fail
  refine ret_blk (v := .tuple #[.agg (lsaC zeroL none 0 0 none 0 0), .int .i64 8]) (g := w.heap.size) (T := 63) (cs := lsaC zeroL none 0 0 none 0 0) (fun W hW => by obtain ⟨hc, hf⟩ := blk_cells hW; simp [results, Try.results106, go_sem, hc, zeroL]) ?_ rfl (getPost_no hE.out (by omega) ?_)
  · simp [World.setCell, World.alloc, Array.getElem?_modify, Array.getElem?_push, hh2, zeroL]
  · (repeat (first | with_reducible exact Below.refl _ _ | with_reducible assumption | with_reducible refine Below.drew ?_ | with_reducible refine below_drewN ?_ _ | (with_reducible refine Below.alloc ?_ ?_ _; rotate_left; · (first | (simp; done) | omega | (simp at *; omega))) | (with_reducible refine Below.setCell ?_ ?_ _; rotate_left; · (first | (simp only []; omega) | (simp; done) | (simp; omega))) | with_reducible refine Below.trans ?_ (by with_reducible assumption)))
set_option maxRecDepth 100000 in
set_option maxHeartbeats 1600000 in
theorem get_b17 (A : Option Addr) (n c : Nat) (l : List UInt8) (w : World) (h : Sl w 1 (.slice A n c) (B8 l)) (hn : 20 ≤ n) (hr : right (l.drop 2) = true) (h16 : byt l 16 ≠ 255) (h17 : byt l 17 = 255) :
    Calls Try.prog 106 #[.slice A n c] w (GetPost l w) := by
  have hE : Hid (getE l = 8) := by show _ = _; unfold getE; rw [if_neg (by rw [h.len.1]; omega), if_pos (.inr (.inr h17))]
  have HR := hid hr
  have t16 : ((byt l 16 : Int) == 255) = false := by rw [beq_eq_false_iff_ne]; omega
  have t17 : ((byt l 17 : Int) == 255) = true := by rw [h17]; rfl
  clear hr h16 h17
  obtain ⟨hl1, hl2, hl3⟩ := h.len
  have HL := hid hl1
  clear hl1
  obtain ⟨b, off, rfl, hlt, c16⟩ := h.byte (k := 16) (by omega)
  obtain ⟨_, _, e1, _, c17⟩ := h.byte (k := 17) (by omega)
  injection e1 with e1
  injection e1 with e1 e2
  subst e1; subst e2
  have b16 := byt_lt l 16
  have b17 := byt_lt l 17
  go_enter Try.func106, Try.ntmps106
  go_wp2_with fail
  have hz0 := h.alloc (.cells #[.int .i64 0, .int .i64 0, .int .u32 0, .int .u32 0, .int .i64 0, .slice none 0 0, .int .u32 0, .slice none 0 0, .int .i64 0] 63)
  refine (head_yes _ n c l _ hz0 hn).mono ?_
  rintro e w1 ⟨rfl, hb1⟩
  have hh1 := blk_below (heap_alloc_new w _) hb1 (by simp)
  have hs1 := hb1.size
  simp at hs1
  have hlt1 : w.heap.size < w1.heap.size := by omega
  have hbb : Below w.heap.size w w1 := ((Below.refl _ _).alloc (Nat.le_refl _) _).trans (hb1.mono (by simp))
  have h1 := h.below hbb
  clear hz0 hb1
  go_wp2_with fail
  have h2 := h1.alloc (.cells (headC l) 96)
  have hh2 := blk_alloc hh1 (.cells (headC l) 96)
  have hH2 := heap_alloc_new w1 (.cells (headC l) 96)
  have hbb2 := hbb.alloc hbb.size (.cells (headC l) 96)
  have hs2 : (w1.alloc (.cells (headC l) 96)).heap.size = w1.heap.size + 1 := by simp
  generalize w1.alloc (.cells (headC l) 96) = w2 at *
  generalize w1.heap.size = gh at *
  have hdrop := sl_drop h2 2 (by omega)
  rw [if_neg (by omega)] at hdrop
  simp only [Option.map_some, addr_add] at hdrop
  refine (right_any _ _ _ _ w2 (by exact hdrop)).mono ?_
  rintro e w3 ⟨rfl, rfl⟩
  have k16 := (hbb2.cell (p := ⟨b, off + 16, none⟩) hlt).trans c16
  have k17 := (hbb2.cell (p := ⟨b, off + 17, none⟩) hlt).trans c17
  clear c16 c17 hdrop h1 hh1 hbb
  rw [HR.out]
  obtain ⟨hc2, hf2⟩ := blk_cells hh2
  go_wp2_with fail
  refine ret_blk (v := .tuple #[.agg (lsaC zeroL none 0 0 none 0 0), .int .i64 8]) (g := w.heap.size) (T := 63) (cs := lsaC zeroL none 0 0 none 0 0) (fun W hW => by obtain ⟨hc, hf⟩ := blk_cells hW; simp [results, Try.results106, go_sem, hc, zeroL]) ?_ rfl (getPost_no hE.out (by omega) ?_)
  · simp [World.setCell, World.alloc, Array.getElem?_modify, Array.getElem?_push, hh2, zeroL]
  · (repeat (first | with_reducible exact Below.refl _ _ | with_reducible assumption | with_reducible refine Below.drew ?_ | with_reducible refine below_drewN ?_ _ | (with_reducible refine Below.alloc ?_ ?_ _; rotate_left; · (first | (simp; done) | omega | (simp at *; omega))) | (with_reducible refine Below.setCell ?_ ?_ _; rotate_left; · (first | (simp only []; omega) | (simp; done) | (simp; omega))) | with_reducible refine Below.trans ?_ (by with_reducible assumption)))

set_option maxRecDepth 100000 in
set_option maxHeartbeats 1600000 in
theorem get_ok (A : Option Addr) (n c : Nat) (l : List UInt8) (w : World) (h : Sl w 1 (.slice A n c) (B8 l)) (hn : 20 ≤ n) (hnb : n ≤ 1000000000) (hr : right (l.drop 2) = true) (h16 : byt l 16 ≠ 255) (h17 : byt l 17 ≠ 255) :
    Calls Try.prog 106 #[.slice A n c] w (GetPost l w) := by
  have hE : Hid (getE l = if (bodyL l).right = true ∧ putB (bodyL l) = l then 0 else 3) := by
    show _ = _
    unfold getE; rw [if_neg (by rw [h.len.1]; omega), if_neg (by rw [hr]; simp [h16, h17])]
  have HR := hid hr
  have t16 : ((byt l 16 : Int) == 255) = false := by rw [beq_eq_false_iff_ne]; omega
  have t17 : ((byt l 17 : Int) == 255) = false := by rw [beq_eq_false_iff_ne]; omega
  clear hr h16 h17
  have hbody := bodyL_wf l
  have hlb : 20 ≤ c := by have := h.len.2.1; omega
  obtain ⟨hl1, hl2, hl3⟩ := h.len
  have HL := hid hl1
  clear hl1
  obtain ⟨b, off, rfl, hlt, c16⟩ := h.byte (k := 16) (by omega)
  obtain ⟨_, _, e1, _, c17⟩ := h.byte (k := 17) (by omega)
  injection e1 with e1
  injection e1 with e1 e2
  subst e1; subst e2
  have b16 := byt_lt l 16
  have b17 := byt_lt l 17
  go_enter Try.func106, Try.ntmps106
  go_wp2_with fail
  have hz0 := h.alloc (.cells #[.int .i64 0, .int .i64 0, .int .u32 0, .int .u32 0, .int .i64 0, .slice none 0 0, .int .u32 0, .slice none 0 0, .int .i64 0] 63)
  refine (head_yes _ n c l _ hz0 hn).mono ?_
  rintro e w1 ⟨rfl, hb1⟩
  have hh1 := blk_below (heap_alloc_new w _) hb1 (by simp)
  have hs1 := hb1.size
  simp at hs1
  have hlt1 : w.heap.size < w1.heap.size := by omega
  have hbb : Below w.heap.size w w1 := ((Below.refl _ _).alloc (Nat.le_refl _) _).trans (hb1.mono (by simp))
  have h1 := h.below hbb
  clear hz0 hb1
  go_wp2_with fail
  have h2 := h1.alloc (.cells (headC l) 96)
  have hh2 := blk_alloc hh1 (.cells (headC l) 96)
  have hH2 := heap_alloc_new w1 (.cells (headC l) 96)
  have hbb2 := hbb.alloc hbb.size (.cells (headC l) 96)
  have hs2 : (w1.alloc (.cells (headC l) 96)).heap.size = w1.heap.size + 1 := by simp
  generalize w1.alloc (.cells (headC l) 96) = w2 at *
  generalize w1.heap.size = gh at *
  have hdrop := sl_drop h2 2 (by omega)
  rw [if_neg (by omega)] at hdrop
  simp only [Option.map_some, addr_add] at hdrop
  refine (right_any _ _ _ _ w2 (by exact hdrop)).mono ?_
  rintro e w3 ⟨rfl, rfl⟩
  have k16 := (hbb2.cell (p := ⟨b, off + 16, none⟩) hlt).trans c16
  have k17 := (hbb2.cell (p := ⟨b, off + 17, none⟩) hlt).trans c17
  clear c16 c17 hdrop h1 hh1 hbb
  rw [HR.out]
  obtain ⟨hc2, hf2⟩ := blk_cells hH2
  go_wp2_with fail
  · have hd20 := sl_drop h2 20 (by omega)
    rename_i h
    subst h
    rw [if_pos rfl] at hd20
    clear k16 k17 hc2 hf2
    have hgl := heap_alloc_new w2 (.cells #[.int .i64 (fld l 0 2 : Nat), .int .i64 (fld l 3 1 : Nat), .int .u32 (fld l 4 4 : Nat), .int .u32 (fld l 8 4 : Nat), .int .i64 (sq l), .slice none 0 0, .int .u32 0, .slice none 0 0, .int .i64 0] 63)
    replace h2 := h2.alloc (.cells #[.int .i64 (fld l 0 2 : Nat), .int .i64 (fld l 3 1 : Nat), .int .u32 (fld l 4 4 : Nat), .int .u32 (fld l 8 4 : Nat), .int .i64 (sq l), .slice none 0 0, .int .u32 0, .slice none 0 0, .int .i64 0] 63)
    replace hd20 := hd20.alloc (.cells #[.int .i64 (fld l 0 2 : Nat), .int .i64 (fld l 3 1 : Nat), .int .u32 (fld l 4 4 : Nat), .int .u32 (fld l 8 4 : Nat), .int .i64 (sq l), .slice none 0 0, .int .u32 0, .slice none 0 0, .int .i64 0] 63)
    replace hh2 := blk_alloc hh2 (.cells #[.int .i64 (fld l 0 2 : Nat), .int .i64 (fld l 3 1 : Nat), .int .u32 (fld l 4 4 : Nat), .int .u32 (fld l 8 4 : Nat), .int .i64 (sq l), .slice none 0 0, .int .u32 0, .slice none 0 0, .int .i64 0] 63)
    replace hbb2 := hbb2.alloc (by omega) (.cells #[.int .i64 (fld l 0 2 : Nat), .int .i64 (fld l 3 1 : Nat), .int .u32 (fld l 4 4 : Nat), .int .u32 (fld l 8 4 : Nat), .int .i64 (sq l), .slice none 0 0, .int .u32 0, .slice none 0 0, .int .i64 0] 63)
    have hs3 : (w2.alloc (.cells #[.int .i64 (fld l 0 2 : Nat), .int .i64 (fld l 3 1 : Nat), .int .u32 (fld l 4 4 : Nat), .int .u32 (fld l 8 4 : Nat), .int .i64 (sq l), .slice none 0 0, .int .u32 0, .slice none 0 0, .int .i64 0] 63)).heap.size = gh + 1 + 1 := by simp; omega
    rw [hs2] at hgl
    generalize w2.alloc (.cells #[.int .i64 (fld l 0 2 : Nat), .int .i64 (fld l 3 1 : Nat), .int .u32 (fld l 4 4 : Nat), .int .u32 (fld l 8 4 : Nat), .int .i64 (sq l), .slice none 0 0, .int .u32 0, .slice none 0 0, .int .i64 0] 63) = w3 at *
    have hgr := heap_alloc_new w3 (.cells #[.slice (some ⟨b, off, none⟩) (n - 20) 0] 179)
    rw [hs3] at hgr
    replace h2 := h2.alloc (.cells #[.slice (some ⟨b, off, none⟩) (n - 20) 0] 179)
    replace hd20 := hd20.alloc (.cells #[.slice (some ⟨b, off, none⟩) (n - 20) 0] 179)
    replace hh2 := blk_alloc hh2 (.cells #[.slice (some ⟨b, off, none⟩) (n - 20) 0] 179)
    replace hgl := blk_alloc hgl (.cells #[.slice (some ⟨b, off, none⟩) (n - 20) 0] 179)
    replace hbb2 := hbb2.alloc (by omega) (.cells #[.slice (some ⟨b, off, none⟩) (n - 20) 0] 179)
    have hs4 : (w3.alloc (.cells #[.slice (some ⟨b, off, none⟩) (n - 20) 0] 179)).heap.size = gh + 1 + 1 + 1 := by simp; omega
    have hR : RdB w.heap.size (w3.alloc (.cells #[.slice (some ⟨b, off, none⟩) (n - 20) 0] 179)) (gh + 1 + 1) (l.drop 20) := ⟨_, _, _, hgr, hd20, fun ad had => by injection had with had; subst had; exact hlt⟩
    generalize w3.alloc (.cells #[.slice (some ⟨b, off, none⟩) (n - 20) 0] 179) = w4 at *
    have hlen := HL.out
    refine (body_any (headL l) w.heap.size (gh + 1) (gh + 1 + 1) (l.drop 20) w4 hgl hR (by omega) (by omega) (by omega) (by simp; omega) rfl rfl).mono ?_
    clear hgr hd20 hgl hR hlen hH2
    rintro e w5 ⟨rfl, A1, n1, c1, A2, n2, c2, hgl, hI, hfr1, hfr2, hk5⟩
    replace hh2 := blk_kept hh2 hk5 (by omega)
    replace h2 := sl_kept h2 hk5 (fun ad had => by injection had with had; subst had; simp; omega)
    replace hbb2 := hbb2.trans (hk5.below_of (B := w.heap.size) (by omega) (fun b hb => by omega))
    have hs5 := hk5.size
    clear hk5
    obtain ⟨hcl, hfl⟩ := blk_cells hgl
    have hbl : bodyOf (l.drop 20) (headL l) = bodyL l := rfl
    rw [hbl] at hgl hI hcl
    clear hbl
    generalize hL : bodyL l = L at *
    have HLb := hid hL
    clear hL
    by_cases hr : L.right = true
    · have hrs := right_spec L hr
      have hn1 : n1 ≤ 100000 := by
        have := hI.links.lenN.1
        rw [LK_length] at this
        rcases hrs.2.2 with h | h | h <;> first | omega | (have h0 := h.2.1; rw [h0] at this; simp at this; omega)
      have hn2 : n2 ≤ 100000 := by
        have := hI.routers.lenN.1
        rw [U32_length] at this
        rcases hrs.2.2 with h | h | h
        · have h0 := h.2.2.2.2.1; rw [h0] at this; simp at this; omega
        · omega
        · have h0 := h.2.2.1; rw [h0] at this; simp at this; omega
      clear hrs
      have HRt := hid hr
      clear hr
      go_wp2_with fail
      refine (put_yes L A1 n1 c1 A2 n2 c2 w5 hI hbody HRt.out hn1 hn2).mono ?_
      rintro e w6 ⟨A7, c7, n7, rfl, hown7, hb7⟩
      replace hh2 := blk_below hh2 hb7 (by omega)
      replace hgl := blk_below hgl hb7 (by omega)
      replace h2 := h2.below hb7
      replace hI := hI.below hb7
      replace hbb2 := hbb2.trans (hb7.mono hbb2.size)
      have hs7 := hown7
      replace hown7 := own_sl hown7
      clear hb7 hs7 hcl hfl
      go_wp2_with fail
      refine (bytesEqual_any _ _ _ _ _ _ (putB L) l w6 hown7 h2).mono ?_
      rintro e w7 ⟨rfl, rfl⟩
      obtain ⟨hcl, hfl⟩ := blk_cells hgl
      obtain ⟨hc2, hf2⟩ := blk_cells hh2
      by_cases hq : putB L = l
      · have hqb : (putB L == l) = true := by simp [hq]
        rw [hqb]
        have hE0 : Hid (getE l = 0) := by show _ = _; rw [hE.out, if_pos ⟨HRt.out, hq⟩]
        clear hq hqb
        go_wp2_with fail
        refine ret_blk (v := .tuple #[.agg (lsaC L A1 n1 c1 A2 n2 c2), .int .i64 0]) (g := w.heap.size) (T := 63) (cs := lsaC L A1 n1 c1 A2 n2 c2) (fun W hW => by obtain ⟨hc, hf⟩ := blk_cells hW; simp [results, Try.results106, go_sem, hc]) ?_ rfl ?_
        · simp [World.setCell, World.alloc, Array.getElem?_modify, Array.getElem?_push, hh2]
        · have hgL : getL l = L := by unfold getL; rw [if_pos hE0.out]; exact HLb.out
          have hkz : ∀ W : World, Kept (fun b => b = w.heap.size) w6 W → GetPost l w (.returned (.tuple #[.agg (lsaC L A1 n1 c1 A2 n2 c2), .int .i64 0])) W := fun W hW => by
            refine ⟨A1, n1, c1, A2, n2, c2, by rw [hgL, hE0.out], ?_, hbb2.trans (hW.below_of hbb2.size (fun b hb => by omega)), fun ad had => by have := hfr1 ad had; omega, fun ad had => by have := hfr2 ad had; omega⟩
            rw [hgL]
            exact ⟨sl_kept hI.links hW (fun ad had => by have := hfr1 ad had; omega), sl_kept hI.routers hW (fun ad had => by have := hfr2 ad had; omega)⟩
          refine hkz _ ?_
          repeat (first | with_reducible exact Kept.refl _ _ | (with_reducible refine Kept.setCell ?_ ?_ _; rotate_left; · exact Or.inl rfl))
      · have hqb : (putB L == l) = false := by simp [hq]
        rw [hqb]
        have hE0 : Hid (getE l = 3) := by show _ = _; rw [hE.out, if_neg (fun h => hq h.2)]
        clear hq hqb
        go_wp2_with fail
        refine ret_blk (v := .tuple #[.agg (lsaC zeroL none 0 0 none 0 0), .int .i64 3]) (g := w.heap.size) (T := 63) (cs := lsaC zeroL none 0 0 none 0 0) (fun W hW => by obtain ⟨hc, hf⟩ := blk_cells hW; simp [results, Try.results106, go_sem, hc, zeroL]) ?_ rfl (getPost_no hE0.out (by omega) ?_)
        · simp [World.setCell, World.alloc, Array.getElem?_modify, Array.getElem?_push, hh2, zeroL]
        · (repeat (first | with_reducible exact Below.refl _ _ | with_reducible assumption | with_reducible refine Below.drew ?_ | with_reducible refine below_drewN ?_ _ | (with_reducible refine Below.alloc ?_ ?_ _; rotate_left; · (first | (simp; done) | omega | (simp at *; omega))) | (with_reducible refine Below.setCell ?_ ?_ _; rotate_left; · (first | (simp only []; omega) | (simp; done) | (simp; omega))) | with_reducible refine Below.trans ?_ (by with_reducible assumption)))
    · have hr' : L.right = false := by simpa using hr
      have hE0 : Hid (getE l = 3) := by show _ = _; rw [hE.out, if_neg (fun h => hr h.1)]
      have HRt := hid hr'
      clear hr hr'
      go_wp2_with fail
      refine (put_no L A1 n1 c1 A2 n2 c2 w5 hI HRt.out).mono ?_
      rintro e w6 ⟨rfl, hb7⟩
      replace hh2 := blk_below hh2 hb7 (by omega)
      replace hbb2 := hbb2.trans (hb7.mono hbb2.size)
      obtain ⟨hc2, hf2⟩ := blk_cells hh2
      clear hcl hfl hgl
      go_wp2_with fail
      refine ret_blk (v := .tuple #[.agg (lsaC zeroL none 0 0 none 0 0), .int .i64 3]) (g := w.heap.size) (T := 63) (cs := lsaC zeroL none 0 0 none 0 0) (fun W hW => by obtain ⟨hc, hf⟩ := blk_cells hW; simp [results, Try.results106, go_sem, hc, zeroL]) ?_ rfl (getPost_no hE0.out (by omega) ?_)
      · simp [World.setCell, World.alloc, Array.getElem?_modify, Array.getElem?_push, hh2, zeroL]
      · (repeat (first | with_reducible exact Below.refl _ _ | with_reducible assumption | with_reducible refine Below.drew ?_ | with_reducible refine below_drewN ?_ _ | (with_reducible refine Below.alloc ?_ ?_ _; rotate_left; · (first | (simp; done) | omega | (simp at *; omega))) | (with_reducible refine Below.setCell ?_ ?_ _; rotate_left; · (first | (simp only []; omega) | (simp; done) | (simp; omega))) | with_reducible refine Below.trans ?_ (by with_reducible assumption)))
  · have hd20 := sl_drop h2 20 (by omega)
    rename_i h
    rw [if_neg h] at hd20
    clear h
    simp only [Option.map_some, addr_add] at hd20
    clear k16 k17 hc2 hf2
    have hgl := heap_alloc_new w2 (.cells #[.int .i64 (fld l 0 2 : Nat), .int .i64 (fld l 3 1 : Nat), .int .u32 (fld l 4 4 : Nat), .int .u32 (fld l 8 4 : Nat), .int .i64 (sq l), .slice none 0 0, .int .u32 0, .slice none 0 0, .int .i64 0] 63)
    replace h2 := h2.alloc (.cells #[.int .i64 (fld l 0 2 : Nat), .int .i64 (fld l 3 1 : Nat), .int .u32 (fld l 4 4 : Nat), .int .u32 (fld l 8 4 : Nat), .int .i64 (sq l), .slice none 0 0, .int .u32 0, .slice none 0 0, .int .i64 0] 63)
    replace hd20 := hd20.alloc (.cells #[.int .i64 (fld l 0 2 : Nat), .int .i64 (fld l 3 1 : Nat), .int .u32 (fld l 4 4 : Nat), .int .u32 (fld l 8 4 : Nat), .int .i64 (sq l), .slice none 0 0, .int .u32 0, .slice none 0 0, .int .i64 0] 63)
    replace hh2 := blk_alloc hh2 (.cells #[.int .i64 (fld l 0 2 : Nat), .int .i64 (fld l 3 1 : Nat), .int .u32 (fld l 4 4 : Nat), .int .u32 (fld l 8 4 : Nat), .int .i64 (sq l), .slice none 0 0, .int .u32 0, .slice none 0 0, .int .i64 0] 63)
    replace hbb2 := hbb2.alloc (by omega) (.cells #[.int .i64 (fld l 0 2 : Nat), .int .i64 (fld l 3 1 : Nat), .int .u32 (fld l 4 4 : Nat), .int .u32 (fld l 8 4 : Nat), .int .i64 (sq l), .slice none 0 0, .int .u32 0, .slice none 0 0, .int .i64 0] 63)
    have hs3 : (w2.alloc (.cells #[.int .i64 (fld l 0 2 : Nat), .int .i64 (fld l 3 1 : Nat), .int .u32 (fld l 4 4 : Nat), .int .u32 (fld l 8 4 : Nat), .int .i64 (sq l), .slice none 0 0, .int .u32 0, .slice none 0 0, .int .i64 0] 63)).heap.size = gh + 1 + 1 := by simp; omega
    rw [hs2] at hgl
    generalize w2.alloc (.cells #[.int .i64 (fld l 0 2 : Nat), .int .i64 (fld l 3 1 : Nat), .int .u32 (fld l 4 4 : Nat), .int .u32 (fld l 8 4 : Nat), .int .i64 (sq l), .slice none 0 0, .int .u32 0, .slice none 0 0, .int .i64 0] 63) = w3 at *
    have hgr := heap_alloc_new w3 (.cells #[.slice (some ⟨b, off + 20, none⟩) (n - 20) (c - 20)] 179)
    rw [hs3] at hgr
    replace h2 := h2.alloc (.cells #[.slice (some ⟨b, off + 20, none⟩) (n - 20) (c - 20)] 179)
    replace hd20 := hd20.alloc (.cells #[.slice (some ⟨b, off + 20, none⟩) (n - 20) (c - 20)] 179)
    replace hh2 := blk_alloc hh2 (.cells #[.slice (some ⟨b, off + 20, none⟩) (n - 20) (c - 20)] 179)
    replace hgl := blk_alloc hgl (.cells #[.slice (some ⟨b, off + 20, none⟩) (n - 20) (c - 20)] 179)
    replace hbb2 := hbb2.alloc (by omega) (.cells #[.slice (some ⟨b, off + 20, none⟩) (n - 20) (c - 20)] 179)
    have hs4 : (w3.alloc (.cells #[.slice (some ⟨b, off + 20, none⟩) (n - 20) (c - 20)] 179)).heap.size = gh + 1 + 1 + 1 := by simp; omega
    have hR : RdB w.heap.size (w3.alloc (.cells #[.slice (some ⟨b, off + 20, none⟩) (n - 20) (c - 20)] 179)) (gh + 1 + 1) (l.drop 20) := ⟨_, _, _, hgr, hd20, fun ad had => by injection had with had; subst had; exact hlt⟩
    generalize w3.alloc (.cells #[.slice (some ⟨b, off + 20, none⟩) (n - 20) (c - 20)] 179) = w4 at *
    have hlen := HL.out
    refine (body_any (headL l) w.heap.size (gh + 1) (gh + 1 + 1) (l.drop 20) w4 hgl hR (by omega) (by omega) (by omega) (by simp; omega) rfl rfl).mono ?_
    clear hgr hd20 hgl hR hlen hH2
    rintro e w5 ⟨rfl, A1, n1, c1, A2, n2, c2, hgl, hI, hfr1, hfr2, hk5⟩
    replace hh2 := blk_kept hh2 hk5 (by omega)
    replace h2 := sl_kept h2 hk5 (fun ad had => by injection had with had; subst had; simp; omega)
    replace hbb2 := hbb2.trans (hk5.below_of (B := w.heap.size) (by omega) (fun b hb => by omega))
    have hs5 := hk5.size
    clear hk5
    obtain ⟨hcl, hfl⟩ := blk_cells hgl
    have hbl : bodyOf (l.drop 20) (headL l) = bodyL l := rfl
    rw [hbl] at hgl hI hcl
    clear hbl
    generalize hL : bodyL l = L at *
    have HLb := hid hL
    clear hL
    by_cases hr : L.right = true
    · have hrs := right_spec L hr
      have hn1 : n1 ≤ 100000 := by
        have := hI.links.lenN.1
        rw [LK_length] at this
        rcases hrs.2.2 with h | h | h <;> first | omega | (have h0 := h.2.1; rw [h0] at this; simp at this; omega)
      have hn2 : n2 ≤ 100000 := by
        have := hI.routers.lenN.1
        rw [U32_length] at this
        rcases hrs.2.2 with h | h | h
        · have h0 := h.2.2.2.2.1; rw [h0] at this; simp at this; omega
        · omega
        · have h0 := h.2.2.1; rw [h0] at this; simp at this; omega
      clear hrs
      have HRt := hid hr
      clear hr
      go_wp2_with fail
      refine (put_yes L A1 n1 c1 A2 n2 c2 w5 hI hbody HRt.out hn1 hn2).mono ?_
      rintro e w6 ⟨A7, c7, n7, rfl, hown7, hb7⟩
      replace hh2 := blk_below hh2 hb7 (by omega)
      replace hgl := blk_below hgl hb7 (by omega)
      replace h2 := h2.below hb7
      replace hI := hI.below hb7
      replace hbb2 := hbb2.trans (hb7.mono hbb2.size)
      have hs7 := hown7
      replace hown7 := own_sl hown7
      clear hb7 hs7 hcl hfl
      go_wp2_with fail
      refine (bytesEqual_any _ _ _ _ _ _ (putB L) l w6 hown7 h2).mono ?_
      rintro e w7 ⟨rfl, rfl⟩
      obtain ⟨hcl, hfl⟩ := blk_cells hgl
      obtain ⟨hc2, hf2⟩ := blk_cells hh2
      by_cases hq : putB L = l
      · have hqb : (putB L == l) = true := by simp [hq]
        rw [hqb]
        have hE0 : Hid (getE l = 0) := by show _ = _; rw [hE.out, if_pos ⟨HRt.out, hq⟩]
        clear hq hqb
        go_wp2_with fail
        refine ret_blk (v := .tuple #[.agg (lsaC L A1 n1 c1 A2 n2 c2), .int .i64 0]) (g := w.heap.size) (T := 63) (cs := lsaC L A1 n1 c1 A2 n2 c2) (fun W hW => by obtain ⟨hc, hf⟩ := blk_cells hW; simp [results, Try.results106, go_sem, hc]) ?_ rfl ?_
        · simp [World.setCell, World.alloc, Array.getElem?_modify, Array.getElem?_push, hh2]
        · have hgL : getL l = L := by unfold getL; rw [if_pos hE0.out]; exact HLb.out
          have hkz : ∀ W : World, Kept (fun b => b = w.heap.size) w6 W → GetPost l w (.returned (.tuple #[.agg (lsaC L A1 n1 c1 A2 n2 c2), .int .i64 0])) W := fun W hW => by
            refine ⟨A1, n1, c1, A2, n2, c2, by rw [hgL, hE0.out], ?_, hbb2.trans (hW.below_of hbb2.size (fun b hb => by omega)), fun ad had => by have := hfr1 ad had; omega, fun ad had => by have := hfr2 ad had; omega⟩
            rw [hgL]
            exact ⟨sl_kept hI.links hW (fun ad had => by have := hfr1 ad had; omega), sl_kept hI.routers hW (fun ad had => by have := hfr2 ad had; omega)⟩
          refine hkz _ ?_
          repeat (first | with_reducible exact Kept.refl _ _ | (with_reducible refine Kept.setCell ?_ ?_ _; rotate_left; · exact Or.inl rfl))
      · have hqb : (putB L == l) = false := by simp [hq]
        rw [hqb]
        have hE0 : Hid (getE l = 3) := by show _ = _; rw [hE.out, if_neg (fun h => hq h.2)]
        clear hq hqb
        go_wp2_with fail
        refine ret_blk (v := .tuple #[.agg (lsaC zeroL none 0 0 none 0 0), .int .i64 3]) (g := w.heap.size) (T := 63) (cs := lsaC zeroL none 0 0 none 0 0) (fun W hW => by obtain ⟨hc, hf⟩ := blk_cells hW; simp [results, Try.results106, go_sem, hc, zeroL]) ?_ rfl (getPost_no hE0.out (by omega) ?_)
        · simp [World.setCell, World.alloc, Array.getElem?_modify, Array.getElem?_push, hh2, zeroL]
        · (repeat (first | with_reducible exact Below.refl _ _ | with_reducible assumption | with_reducible refine Below.drew ?_ | with_reducible refine below_drewN ?_ _ | (with_reducible refine Below.alloc ?_ ?_ _; rotate_left; · (first | (simp; done) | omega | (simp at *; omega))) | (with_reducible refine Below.setCell ?_ ?_ _; rotate_left; · (first | (simp only []; omega) | (simp; done) | (simp; omega))) | with_reducible refine Below.trans ?_ (by with_reducible assumption)))
    · have hr' : L.right = false := by simpa using hr
      have hE0 : Hid (getE l = 3) := by show _ = _; rw [hE.out, if_neg (fun h => hr h.1)]
      have HRt := hid hr'
      clear hr hr'
      go_wp2_with fail
      refine (put_no L A1 n1 c1 A2 n2 c2 w5 hI HRt.out).mono ?_
      rintro e w6 ⟨rfl, hb7⟩
      replace hh2 := blk_below hh2 hb7 (by omega)
      replace hbb2 := hbb2.trans (hb7.mono hbb2.size)
      obtain ⟨hc2, hf2⟩ := blk_cells hh2
      clear hcl hfl hgl
      go_wp2_with fail
      refine ret_blk (v := .tuple #[.agg (lsaC zeroL none 0 0 none 0 0), .int .i64 3]) (g := w.heap.size) (T := 63) (cs := lsaC zeroL none 0 0 none 0 0) (fun W hW => by obtain ⟨hc, hf⟩ := blk_cells hW; simp [results, Try.results106, go_sem, hc, zeroL]) ?_ rfl (getPost_no hE0.out (by omega) ?_)
      · simp [World.setCell, World.alloc, Array.getElem?_modify, Array.getElem?_push, hh2, zeroL]
      · (repeat (first | with_reducible exact Below.refl _ _ | with_reducible assumption | with_reducible refine Below.drew ?_ | with_reducible refine below_drewN ?_ _ | (with_reducible refine Below.alloc ?_ ?_ _; rotate_left; · (first | (simp; done) | omega | (simp at *; omega))) | (with_reducible refine Below.setCell ?_ ?_ _; rotate_left; · (first | (simp only []; omega) | (simp; done) | (simp; omega))) | with_reducible refine Below.trans ?_ (by with_reducible assumption)))

/-- **lsa.Get** -/
theorem get_any (A : Option Addr) (n c : Nat) (l : List UInt8) (w : World) (h : Sl w 1 (.slice A n c) (B8 l)) (hnb : n ≤ 1000000000) : Calls Try.prog 106 #[.slice A n c] w (GetPost l w) := by
  by_cases hn : n < 20
  · exact get_short A n c l w h hn
  · cases hr : right (l.drop 2) with
    | false => exact get_sum A n c l w h (by omega) hr
    | true =>
      by_cases h16 : byt l 16 = 255
      · exact get_b16 A n c l w h (by omega) hr h16
      · by_cases h17 : byt l 17 = 255
        · exact get_b17 A n c l w h (by omega) hr h16 h17
        · exact get_ok A n c l w h (by omega) hnb hr h16 h17
end Go.Proofs.Ytgopkpogakjckaa
