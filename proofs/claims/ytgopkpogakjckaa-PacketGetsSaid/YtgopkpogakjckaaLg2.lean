/-
  Contract of the reference's Get.
-/
import Derived.Test.YtgopkpogakjckaaLsa8
import Derived.Test.YtgopkpogakjckaaLsa9
import Derived.Test.YtgopkpogakjckaaLg1
namespace Go.Proofs.Ytgopkpogakjckaa
set_option linter.unusedVariables false
set_option linter.unusedSimpArgs false
open Go Go.RowKit SM LM

theorem st_rlinks : ST Try.prog 75 134 4 24 := .mk Try.underlying75 (z := .agg #[.int .u32 0, .int .u32 0, .int .i64 0, .int .i64 0]) (by kernel_rfl) rfl (by omega)
/-- too short for what it should tell -/
theorem getE_short (l : List UInt8) (h20 : 20 ≤ l.length) (hr : right (l.drop 2) = true) (h16 : byt l 16 ≠ 255) (h17 : byt l 17 ≠ 255)
    (hs : (fld l 3 1 = 1 ∧ l.length < 24) ∨ (fld l 3 1 = 2 ∧ l.length < 24) ∨ (fld l 3 1 = 3 ∧ l.length < 28)) : getE l = 3 := by
  unfold getE
  rw [if_neg (by omega), if_neg (by rw [hr]; simp [h16, h17]), if_neg]
  rintro ⟨_, hp⟩
  have hl := congrArg List.length hp
  rw [putB_length] at hl
  have hk : (bodyL l).kty = (fld l 3 1 : Nat) := by
    unfold bodyL bodyOf
    (repeat' split) <;> rfl
  have ht : 4 ≤ (tellB (bodyL l)).length ∧ ((bodyL l).kty = 3 → 8 ≤ (tellB (bodyL l)).length) := by
    unfold tellB
    by_cases h1 : (bodyL l).kty = 1
    · rw [if_pos h1]; simp [be_length]; omega
    · by_cases h2 : (bodyL l).kty = 2
      · rw [if_neg h1, if_pos h2]; simp [be_length]; omega
      · rw [if_neg h1, if_neg h2]; simp [be_length]
  rcases hs with h | h | h
  · omega
  · omega
  · have := ht.2 (by omega); omega
def RefGetPost (l : List UInt8) (w : World) (e : Ending) (w' : World) : Prop :=
  ∃ A1 n1 c1 A2 n2 c2, e = .returned (.tuple #[.agg (lsaC (getL l) A1 n1 c1 A2 n2 c2), .int .i64 (getE l)]) ∧ IsLsa w' (getL l) A1 n1 c1 A2 n2 c2 ∧ Below w.heap.size w w' ∧ FreshA w.heap.size A1 ∧ FreshA w.heap.size A2
theorem refGetPost_no {l : List UInt8} {w w' : World} {k : Int} (h : getE l = k) (hk : k ≠ 0) (hb : Below w.heap.size w w') : RefGetPost l w (.returned (.tuple #[.agg (lsaC zeroL none 0 0 none 0 0), .int .i64 k])) w' := getPost_no h hk hb

set_option maxRecDepth 100000 in
set_option maxHeartbeats 1600000 in
theorem refGet_short (A : Option Addr) (n c : Nat) (l : List UInt8) (w : World) (h : Sl w 1 (.slice A n c) (B8 l)) (hn : n < 20) :
    Calls Try.prog 51 #[.slice A n c] w (RefGetPost l w) := by
  have hE : getE l = 4 := by unfold getE; rw [if_pos (by rw [h.len.1]; exact hn)]
  go_enter Try.func51, Try.ntmps51
  go_wp2_with fail
  refine ret_blk (v := .tuple #[.agg (lsaC zeroL none 0 0 none 0 0), .int .i64 4]) (g := w.heap.size) (T := 77) (cs := lsaC zeroL none 0 0 none 0 0) (fun W hW => by obtain ⟨hc, hf⟩ := blk_cells hW; simp [results, Try.results51, go_sem, hc, zeroL]) ?_ rfl (refGetPost_no hE (by omega) ?_)
  · exact heap_alloc_new w _
  · (repeat (first | with_reducible exact Below.refl _ _ | with_reducible assumption | with_reducible refine Below.drew ?_ | with_reducible refine below_drewN ?_ _ | (with_reducible refine Below.alloc ?_ ?_ _; rotate_left; · (first | (simp; done) | omega | (simp at *; omega))) | (with_reducible refine Below.setCell ?_ ?_ _; rotate_left; · (first | (simp only []; omega) | (simp; done) | (simp; omega))) | with_reducible refine Below.trans ?_ (by with_reducible assumption)))
set_option maxRecDepth 100000 in
set_option maxHeartbeats 1600000 in
theorem refGet_sum (A : Option Addr) (n c : Nat) (l : List UInt8) (w : World) (h : Sl w 1 (.slice A n c) (B8 l)) (hn : 20 ≤ n) (hr : right (l.drop 2) = false) :
    Calls Try.prog 51 #[.slice A n c] w (RefGetPost l w) := by
  have hE : Hid (getE l = 8) := by show _ = _; unfold getE; rw [if_neg (by rw [h.len.1]; omega), if_pos (.inl hr)]
  have HR := hid hr
  clear hr
  obtain ⟨hl1, hl2, hl3⟩ := h.len
  have HL := hid hl1
  clear hl1
  obtain ⟨b, off, rfl, hlt, c16⟩ := h.byte (k := 16) (by omega)
  obtain ⟨_, _, e1, _, c17⟩ := h.byte (k := 17) (by omega)
  injection e1 with e1
  injection e1 with e1 e2
  subst e1; subst e2
  have b16 := byt_lt l 16
  have b17 := byt_lt l 17
  go_enter Try.func51, Try.ntmps51
  go_wp2_with fail
  have h2 := h.alloc (.cells #[.int .i64 0, .int .i64 0, .int .u32 0, .int .u32 0, .int .i64 0, .slice none 0 0, .int .u32 0, .slice none 0 0, .int .i64 0] 77)
  have hh2 := heap_alloc_new w (.cells #[.int .i64 0, .int .i64 0, .int .u32 0, .int .u32 0, .int .i64 0, .slice none 0 0, .int .u32 0, .slice none 0 0, .int .i64 0] 77)
  have hbb2 := (Below.refl w.heap.size w).alloc (Nat.le_refl _) (.cells #[.int .i64 0, .int .i64 0, .int .u32 0, .int .u32 0, .int .i64 0, .slice none 0 0, .int .u32 0, .slice none 0 0, .int .i64 0] 77)
  have hs2 : (w.alloc (.cells #[.int .i64 0, .int .i64 0, .int .u32 0, .int .u32 0, .int .i64 0, .slice none 0 0, .int .u32 0, .slice none 0 0, .int .i64 0] 77)).heap.size = w.heap.size + 1 := by simp
  generalize w.alloc (.cells #[.int .i64 0, .int .i64 0, .int .u32 0, .int .u32 0, .int .i64 0, .slice none 0 0, .int .u32 0, .slice none 0 0, .int .i64 0] 77) = w2 at *
  have hdrop := sl_drop h2 2 (by omega)
  rw [if_neg (by omega)] at hdrop
  simp only [Option.map_some, addr_add] at hdrop
  refine (refRight_any _ _ _ _ w2 (by exact hdrop)).mono ?_
  rintro e w3 ⟨rfl, rfl⟩
  have k16 := (hbb2.cell (p := ⟨b, off + 16, none⟩) hlt).trans c16
  have k17 := (hbb2.cell (p := ⟨b, off + 17, none⟩) hlt).trans c17
  clear c16 c17 hdrop
  rw [HR.out]
  obtain ⟨hc2, hf2⟩ := blk_cells hh2
  go_wp2_with fail
  refine ret_blk (v := .tuple #[.agg (lsaC zeroL none 0 0 none 0 0), .int .i64 8]) (g := w.heap.size) (T := 77) (cs := lsaC zeroL none 0 0 none 0 0) (fun W hW => by obtain ⟨hc, hf⟩ := blk_cells hW; simp [results, Try.results51, go_sem, hc, zeroL]) ?_ rfl (refGetPost_no hE.out (by omega) ?_)
  · simp [World.setCell, World.alloc, Array.getElem?_modify, Array.getElem?_push, hh2, zeroL]
    try (rw [if_neg (by omega), if_neg (by omega)]; first | done | rfl)
  · (repeat (first | with_reducible exact Below.refl _ _ | with_reducible assumption | with_reducible refine Below.drew ?_ | with_reducible refine below_drewN ?_ _ | (with_reducible refine Below.alloc ?_ ?_ _; rotate_left; · (first | (simp; done) | omega | (simp at *; omega))) | (with_reducible refine Below.setCell ?_ ?_ _; rotate_left; · (first | (simp only []; omega) | (simp; done) | (simp; omega))) | with_reducible refine Below.trans ?_ (by with_reducible assumption)))
set_option maxRecDepth 100000 in
set_option maxHeartbeats 1600000 in
theorem refGet_b16 (A : Option Addr) (n c : Nat) (l : List UInt8) (w : World) (h : Sl w 1 (.slice A n c) (B8 l)) (hn : 20 ≤ n) (hr : right (l.drop 2) = true) (h16 : byt l 16 = 255) :
    Calls Try.prog 51 #[.slice A n c] w (RefGetPost l w) := by
  have hE : Hid (getE l = 8) := by show _ = _; unfold getE; rw [if_neg (by rw [h.len.1]; omega), if_pos (.inr (.inl h16))]
  have HR := hid hr
  have t16 : ((byt l 16 : Int) == 255) = true := by rw [h16]; rfl
  clear hr h16
  obtain ⟨hl1, hl2, hl3⟩ := h.len
  have HL := hid hl1
  clear hl1
  obtain ⟨b, off, rfl, hlt, c16⟩ := h.byte (k := 16) (by omega)
  obtain ⟨_, _, e1, _, c17⟩ := h.byte (k := 17) (by omega)
  injection e1 with e1
  injection e1 with e1 e2
  subst e1; subst e2
  have b16 := byt_lt l 16
  have b17 := byt_lt l 17
  go_enter Try.func51, Try.ntmps51
  go_wp2_with fail
  have h2 := h.alloc (.cells #[.int .i64 0, .int .i64 0, .int .u32 0, .int .u32 0, .int .i64 0, .slice none 0 0, .int .u32 0, .slice none 0 0, .int .i64 0] 77)
  have hh2 := heap_alloc_new w (.cells #[.int .i64 0, .int .i64 0, .int .u32 0, .int .u32 0, .int .i64 0, .slice none 0 0, .int .u32 0, .slice none 0 0, .int .i64 0] 77)
  have hbb2 := (Below.refl w.heap.size w).alloc (Nat.le_refl _) (.cells #[.int .i64 0, .int .i64 0, .int .u32 0, .int .u32 0, .int .i64 0, .slice none 0 0, .int .u32 0, .slice none 0 0, .int .i64 0] 77)
  have hs2 : (w.alloc (.cells #[.int .i64 0, .int .i64 0, .int .u32 0, .int .u32 0, .int .i64 0, .slice none 0 0, .int .u32 0, .slice none 0 0, .int .i64 0] 77)).heap.size = w.heap.size + 1 := by simp
  generalize w.alloc (.cells #[.int .i64 0, .int .i64 0, .int .u32 0, .int .u32 0, .int .i64 0, .slice none 0 0, .int .u32 0, .slice none 0 0, .int .i64 0] 77) = w2 at *
  have hdrop := sl_drop h2 2 (by omega)
  rw [if_neg (by omega)] at hdrop
  simp only [Option.map_some, addr_add] at hdrop
  refine (refRight_any _ _ _ _ w2 (by exact hdrop)).mono ?_
  rintro e w3 ⟨rfl, rfl⟩
  have k16 := (hbb2.cell (p := ⟨b, off + 16, none⟩) hlt).trans c16
  have k17 := (hbb2.cell (p := ⟨b, off + 17, none⟩) hlt).trans c17
  clear c16 c17 hdrop
  rw [HR.out]
  obtain ⟨hc2, hf2⟩ := blk_cells hh2
  go_wp2_with fail
  refine ret_blk (v := .tuple #[.agg (lsaC zeroL none 0 0 none 0 0), .int .i64 8]) (g := w.heap.size) (T := 77) (cs := lsaC zeroL none 0 0 none 0 0) (fun W hW => by obtain ⟨hc, hf⟩ := blk_cells hW; simp [results, Try.results51, go_sem, hc, zeroL]) ?_ rfl (refGetPost_no hE.out (by omega) ?_)
  · simp [World.setCell, World.alloc, Array.getElem?_modify, Array.getElem?_push, hh2, zeroL]
    try (rw [if_neg (by omega), if_neg (by omega)]; first | done | rfl)
  · (repeat (first | with_reducible exact Below.refl _ _ | with_reducible assumption | with_reducible refine Below.drew ?_ | with_reducible refine below_drewN ?_ _ | (with_reducible refine Below.alloc ?_ ?_ _; rotate_left; · (first | (simp; done) | omega | (simp at *; omega))) | (with_reducible refine Below.setCell ?_ ?_ _; rotate_left; · (first | (simp only []; omega) | (simp; done) | (simp; omega))) | with_reducible refine Below.trans ?_ (by with_reducible assumption)))
set_option maxRecDepth 100000 in
set_option maxHeartbeats 1600000 in
theorem refGet_b17 (A : Option Addr) (n c : Nat) (l : List UInt8) (w : World) (h : Sl w 1 (.slice A n c) (B8 l)) (hn : 20 ≤ n) (hr : right (l.drop 2) = true) (h16 : byt l 16 ≠ 255) (h17 : byt l 17 = 255) :
    Calls Try.prog 51 #[.slice A n c] w (RefGetPost l w) := by
  have hE : Hid (getE l = 8) := by show _ = _; unfold getE; rw [if_neg (by rw [h.len.1]; omega), if_pos (.inr (.inr h17))]
  have HR := hid hr
  have t16 : ((byt l 16 : Int) == 255) = false := by rw [beq_eq_false_iff_ne]; omega
  have t17 : ((byt l 17 : Int) == 255) = true := by rw [h17]; rfl
  clear hr h16 h17
  obtain ⟨hl1, hl2, hl3⟩ := h.len
  have HL := hid hl1
  clear hl1
  obtain ⟨b, off, rfl, hlt, c16⟩ := h.byte (k := 16) (by omega)
  obtain ⟨_, _, e1, _, c17⟩ := h.byte (k := 17) (by omega)
  injection e1 with e1
  injection e1 with e1 e2
  subst e1; subst e2
  have b16 := byt_lt l 16
  have b17 := byt_lt l 17
  go_enter Try.func51, Try.ntmps51
  go_wp2_with fail
  have h2 := h.alloc (.cells #[.int .i64 0, .int .i64 0, .int .u32 0, .int .u32 0, .int .i64 0, .slice none 0 0, .int .u32 0, .slice none 0 0, .int .i64 0] 77)
  have hh2 := heap_alloc_new w (.cells #[.int .i64 0, .int .i64 0, .int .u32 0, .int .u32 0, .int .i64 0, .slice none 0 0, .int .u32 0, .slice none 0 0, .int .i64 0] 77)
  have hbb2 := (Below.refl w.heap.size w).alloc (Nat.le_refl _) (.cells #[.int .i64 0, .int .i64 0, .int .u32 0, .int .u32 0, .int .i64 0, .slice none 0 0, .int .u32 0, .slice none 0 0, .int .i64 0] 77)
  have hs2 : (w.alloc (.cells #[.int .i64 0, .int .i64 0, .int .u32 0, .int .u32 0, .int .i64 0, .slice none 0 0, .int .u32 0, .slice none 0 0, .int .i64 0] 77)).heap.size = w.heap.size + 1 := by simp
  generalize w.alloc (.cells #[.int .i64 0, .int .i64 0, .int .u32 0, .int .u32 0, .int .i64 0, .slice none 0 0, .int .u32 0, .slice none 0 0, .int .i64 0] 77) = w2 at *
  have hdrop := sl_drop h2 2 (by omega)
  rw [if_neg (by omega)] at hdrop
  simp only [Option.map_some, addr_add] at hdrop
  refine (refRight_any _ _ _ _ w2 (by exact hdrop)).mono ?_
  rintro e w3 ⟨rfl, rfl⟩
  have k16 := (hbb2.cell (p := ⟨b, off + 16, none⟩) hlt).trans c16
  have k17 := (hbb2.cell (p := ⟨b, off + 17, none⟩) hlt).trans c17
  clear c16 c17 hdrop
  rw [HR.out]
  obtain ⟨hc2, hf2⟩ := blk_cells hh2
  go_wp2_with fail
  refine ret_blk (v := .tuple #[.agg (lsaC zeroL none 0 0 none 0 0), .int .i64 8]) (g := w.heap.size) (T := 77) (cs := lsaC zeroL none 0 0 none 0 0) (fun W hW => by obtain ⟨hc, hf⟩ := blk_cells hW; simp [results, Try.results51, go_sem, hc, zeroL]) ?_ rfl (refGetPost_no hE.out (by omega) ?_)
  · simp [World.setCell, World.alloc, Array.getElem?_modify, Array.getElem?_push, hh2, zeroL]
    try (rw [if_neg (by omega), if_neg (by omega)]; first | done | rfl)
  · (repeat (first | with_reducible exact Below.refl _ _ | with_reducible assumption | with_reducible refine Below.drew ?_ | with_reducible refine below_drewN ?_ _ | (with_reducible refine Below.alloc ?_ ?_ _; rotate_left; · (first | (simp; done) | omega | (simp at *; omega))) | (with_reducible refine Below.setCell ?_ ?_ _; rotate_left; · (first | (simp only []; omega) | (simp; done) | (simp; omega))) | with_reducible refine Below.trans ?_ (by with_reducible assumption)))

set_option maxRecDepth 100000 in
set_option maxHeartbeats 1600000 in
theorem refGet_few
    (A : Option Addr) (n c : Nat) (l : List UInt8) (w : World) (h : Sl w 1 (.slice A n c) (B8 l)) (hn : 20 ≤ n) (hnb : n ≤ 1000000000) (hr : right (l.drop 2) = true) (h16 : byt l 16 ≠ 255) (h17 : byt l 17 ≠ 255)
    (hs : (fld l 3 1 = 1 ∧ n < 24) ∨ (fld l 3 1 = 2 ∧ n < 24) ∨ (fld l 3 1 = 3 ∧ n < 28)) :
    Calls Try.prog 51 #[.slice A n c] w (RefGetPost l w) := by
  have hE : Hid (getE l = 3) := getE_short l (by rw [h.len.1]; exact hn) hr h16 h17 (by rw [h.len.1]; exact hs)
  rcases hs with ⟨hk, hs⟩ | ⟨hk, hs⟩ | ⟨hk, hs⟩
  · have t1 : ((fld l 3 1 : Int) == 1) = true := by rw [hk]; rfl
    clear hk
    have HR := hid hr
    have t16 : ((byt l 16 : Int) == 255) = false := by rw [beq_eq_false_iff_ne]; omega
    have t17 : ((byt l 17 : Int) == 255) = false := by rw [beq_eq_false_iff_ne]; omega
    have b31 := fld_bd l 3 1 (by omega)
    clear hr h16 h17
    obtain ⟨hl1, hl2, hl3⟩ := h.len
    have HL := hid hl1
    clear hl1
    obtain ⟨b, off, rfl, hlt, c16⟩ := h.byte (k := 16) (by omega)
    obtain ⟨_, _, e1, _, c17⟩ := h.byte (k := 17) (by omega)
    injection e1 with e1
    injection e1 with e1 e2
    subst e1; subst e2
    have b16 := byt_lt l 16
    have b17 := byt_lt l 17
    go_enter Try.func51, Try.ntmps51
    go_wp2_with fail
    have h2 := h.alloc (.cells #[.int .i64 0, .int .i64 0, .int .u32 0, .int .u32 0, .int .i64 0, .slice none 0 0, .int .u32 0, .slice none 0 0, .int .i64 0] 77)
    have hh2 := heap_alloc_new w (.cells #[.int .i64 0, .int .i64 0, .int .u32 0, .int .u32 0, .int .i64 0, .slice none 0 0, .int .u32 0, .slice none 0 0, .int .i64 0] 77)
    have hbb2 := (Below.refl w.heap.size w).alloc (Nat.le_refl _) (.cells #[.int .i64 0, .int .i64 0, .int .u32 0, .int .u32 0, .int .i64 0, .slice none 0 0, .int .u32 0, .slice none 0 0, .int .i64 0] 77)
    have hs2 : (w.alloc (.cells #[.int .i64 0, .int .i64 0, .int .u32 0, .int .u32 0, .int .i64 0, .slice none 0 0, .int .u32 0, .slice none 0 0, .int .i64 0] 77)).heap.size = w.heap.size + 1 := by simp
    generalize w.alloc (.cells #[.int .i64 0, .int .i64 0, .int .u32 0, .int .u32 0, .int .i64 0, .slice none 0 0, .int .u32 0, .slice none 0 0, .int .i64 0] 77) = w2 at *
    have hdrop := sl_drop h2 2 (by omega)
    rw [if_neg (by omega)] at hdrop
    simp only [Option.map_some, addr_add] at hdrop
    refine (refRight_any _ _ _ _ w2 (by exact hdrop)).mono ?_
    rintro e w3 ⟨rfl, rfl⟩
    have k16 := (hbb2.cell (p := ⟨b, off + 16, none⟩) hlt).trans c16
    have k17 := (hbb2.cell (p := ⟨b, off + 17, none⟩) hlt).trans c17
    clear c16 c17 hdrop
    rw [HR.out]
    go_wp2_with fail
    refine (refHead_any _ n c l w2 h2 hn).mono ?_
    rintro e w3 ⟨rfl, hb3⟩
    replace hh2 := blk_below hh2 hb3 (by omega)
    replace h2 := h2.below hb3
    replace hbb2 := hbb2.trans (hb3.mono hbb2.size)
    have hs3 := hb3.size
    rw [hs2] at hs3
    clear k16 k17 hb3 hs2
    have hlt3 : w.heap.size < w3.heap.size := by omega
    obtain ⟨hc2, hf2⟩ := blk_cells hh2
    go_wp2_with fail
    all_goals
      refine ret_blk (v := .tuple #[.agg (lsaC zeroL none 0 0 none 0 0), .int .i64 3]) (g := w.heap.size) (T := 77) (cs := lsaC zeroL none 0 0 none 0 0) (fun W hW => by obtain ⟨hc, hf⟩ := blk_cells hW; simp [results, Try.results51, go_sem, hc, zeroL]) ?_ rfl (refGetPost_no hE.out (by omega) ?_)
      · simp [World.setCell, World.alloc, Array.getElem?_modify, Array.getElem?_push, hh2, zeroL]
        try (rw [if_neg (by omega), if_neg (by omega)]; first | done | rfl)
      · (repeat (first | with_reducible exact Below.refl _ _ | with_reducible assumption | with_reducible refine Below.drew ?_ | with_reducible refine below_drewN ?_ _ | (with_reducible refine Below.alloc ?_ ?_ _; rotate_left; · (first | (simp; done) | omega | (simp at *; omega))) | (with_reducible refine Below.setCell ?_ ?_ _; rotate_left; · (first | (simp only []; omega) | (simp; done) | (simp; omega))) | with_reducible refine Below.trans ?_ (by with_reducible assumption)))
  · have t1 : ((fld l 3 1 : Int) == 1) = false := by rw [hk]; rfl
    have t2 : ((fld l 3 1 : Int) == 2) = true := by rw [hk]; rfl
    clear hk
    have HR := hid hr
    have t16 : ((byt l 16 : Int) == 255) = false := by rw [beq_eq_false_iff_ne]; omega
    have t17 : ((byt l 17 : Int) == 255) = false := by rw [beq_eq_false_iff_ne]; omega
    have b31 := fld_bd l 3 1 (by omega)
    clear hr h16 h17
    obtain ⟨hl1, hl2, hl3⟩ := h.len
    have HL := hid hl1
    clear hl1
    obtain ⟨b, off, rfl, hlt, c16⟩ := h.byte (k := 16) (by omega)
    obtain ⟨_, _, e1, _, c17⟩ := h.byte (k := 17) (by omega)
    injection e1 with e1
    injection e1 with e1 e2
    subst e1; subst e2
    have b16 := byt_lt l 16
    have b17 := byt_lt l 17
    go_enter Try.func51, Try.ntmps51
    go_wp2_with fail
    have h2 := h.alloc (.cells #[.int .i64 0, .int .i64 0, .int .u32 0, .int .u32 0, .int .i64 0, .slice none 0 0, .int .u32 0, .slice none 0 0, .int .i64 0] 77)
    have hh2 := heap_alloc_new w (.cells #[.int .i64 0, .int .i64 0, .int .u32 0, .int .u32 0, .int .i64 0, .slice none 0 0, .int .u32 0, .slice none 0 0, .int .i64 0] 77)
    have hbb2 := (Below.refl w.heap.size w).alloc (Nat.le_refl _) (.cells #[.int .i64 0, .int .i64 0, .int .u32 0, .int .u32 0, .int .i64 0, .slice none 0 0, .int .u32 0, .slice none 0 0, .int .i64 0] 77)
    have hs2 : (w.alloc (.cells #[.int .i64 0, .int .i64 0, .int .u32 0, .int .u32 0, .int .i64 0, .slice none 0 0, .int .u32 0, .slice none 0 0, .int .i64 0] 77)).heap.size = w.heap.size + 1 := by simp
    generalize w.alloc (.cells #[.int .i64 0, .int .i64 0, .int .u32 0, .int .u32 0, .int .i64 0, .slice none 0 0, .int .u32 0, .slice none 0 0, .int .i64 0] 77) = w2 at *
    have hdrop := sl_drop h2 2 (by omega)
    rw [if_neg (by omega)] at hdrop
    simp only [Option.map_some, addr_add] at hdrop
    refine (refRight_any _ _ _ _ w2 (by exact hdrop)).mono ?_
    rintro e w3 ⟨rfl, rfl⟩
    have k16 := (hbb2.cell (p := ⟨b, off + 16, none⟩) hlt).trans c16
    have k17 := (hbb2.cell (p := ⟨b, off + 17, none⟩) hlt).trans c17
    clear c16 c17 hdrop
    rw [HR.out]
    go_wp2_with fail
    refine (refHead_any _ n c l w2 h2 hn).mono ?_
    rintro e w3 ⟨rfl, hb3⟩
    replace hh2 := blk_below hh2 hb3 (by omega)
    replace h2 := h2.below hb3
    replace hbb2 := hbb2.trans (hb3.mono hbb2.size)
    have hs3 := hb3.size
    rw [hs2] at hs3
    clear k16 k17 hb3 hs2
    have hlt3 : w.heap.size < w3.heap.size := by omega
    obtain ⟨hc2, hf2⟩ := blk_cells hh2
    go_wp2_with fail
    all_goals
      refine ret_blk (v := .tuple #[.agg (lsaC zeroL none 0 0 none 0 0), .int .i64 3]) (g := w.heap.size) (T := 77) (cs := lsaC zeroL none 0 0 none 0 0) (fun W hW => by obtain ⟨hc, hf⟩ := blk_cells hW; simp [results, Try.results51, go_sem, hc, zeroL]) ?_ rfl (refGetPost_no hE.out (by omega) ?_)
      · simp [World.setCell, World.alloc, Array.getElem?_modify, Array.getElem?_push, hh2, zeroL]
        try (rw [if_neg (by omega), if_neg (by omega)]; first | done | rfl)
      · (repeat (first | with_reducible exact Below.refl _ _ | with_reducible assumption | with_reducible refine Below.drew ?_ | with_reducible refine below_drewN ?_ _ | (with_reducible refine Below.alloc ?_ ?_ _; rotate_left; · (first | (simp; done) | omega | (simp at *; omega))) | (with_reducible refine Below.setCell ?_ ?_ _; rotate_left; · (first | (simp only []; omega) | (simp; done) | (simp; omega))) | with_reducible refine Below.trans ?_ (by with_reducible assumption)))
  · have t1 : ((fld l 3 1 : Int) == 1) = false := by rw [hk]; rfl
    have t2 : ((fld l 3 1 : Int) == 2) = false := by rw [hk]; rfl
    have t3 : ((fld l 3 1 : Int) == 3) = true := by rw [hk]; rfl
    clear hk
    have HR := hid hr
    have t16 : ((byt l 16 : Int) == 255) = false := by rw [beq_eq_false_iff_ne]; omega
    have t17 : ((byt l 17 : Int) == 255) = false := by rw [beq_eq_false_iff_ne]; omega
    have b31 := fld_bd l 3 1 (by omega)
    clear hr h16 h17
    obtain ⟨hl1, hl2, hl3⟩ := h.len
    have HL := hid hl1
    clear hl1
    obtain ⟨b, off, rfl, hlt, c16⟩ := h.byte (k := 16) (by omega)
    obtain ⟨_, _, e1, _, c17⟩ := h.byte (k := 17) (by omega)
    injection e1 with e1
    injection e1 with e1 e2
    subst e1; subst e2
    have b16 := byt_lt l 16
    have b17 := byt_lt l 17
    go_enter Try.func51, Try.ntmps51
    go_wp2_with fail
    have h2 := h.alloc (.cells #[.int .i64 0, .int .i64 0, .int .u32 0, .int .u32 0, .int .i64 0, .slice none 0 0, .int .u32 0, .slice none 0 0, .int .i64 0] 77)
    have hh2 := heap_alloc_new w (.cells #[.int .i64 0, .int .i64 0, .int .u32 0, .int .u32 0, .int .i64 0, .slice none 0 0, .int .u32 0, .slice none 0 0, .int .i64 0] 77)
    have hbb2 := (Below.refl w.heap.size w).alloc (Nat.le_refl _) (.cells #[.int .i64 0, .int .i64 0, .int .u32 0, .int .u32 0, .int .i64 0, .slice none 0 0, .int .u32 0, .slice none 0 0, .int .i64 0] 77)
    have hs2 : (w.alloc (.cells #[.int .i64 0, .int .i64 0, .int .u32 0, .int .u32 0, .int .i64 0, .slice none 0 0, .int .u32 0, .slice none 0 0, .int .i64 0] 77)).heap.size = w.heap.size + 1 := by simp
    generalize w.alloc (.cells #[.int .i64 0, .int .i64 0, .int .u32 0, .int .u32 0, .int .i64 0, .slice none 0 0, .int .u32 0, .slice none 0 0, .int .i64 0] 77) = w2 at *
    have hdrop := sl_drop h2 2 (by omega)
    rw [if_neg (by omega)] at hdrop
    simp only [Option.map_some, addr_add] at hdrop
    refine (refRight_any _ _ _ _ w2 (by exact hdrop)).mono ?_
    rintro e w3 ⟨rfl, rfl⟩
    have k16 := (hbb2.cell (p := ⟨b, off + 16, none⟩) hlt).trans c16
    have k17 := (hbb2.cell (p := ⟨b, off + 17, none⟩) hlt).trans c17
    clear c16 c17 hdrop
    rw [HR.out]
    go_wp2_with fail
    refine (refHead_any _ n c l w2 h2 hn).mono ?_
    rintro e w3 ⟨rfl, hb3⟩
    replace hh2 := blk_below hh2 hb3 (by omega)
    replace h2 := h2.below hb3
    replace hbb2 := hbb2.trans (hb3.mono hbb2.size)
    have hs3 := hb3.size
    rw [hs2] at hs3
    clear k16 k17 hb3 hs2
    have hlt3 : w.heap.size < w3.heap.size := by omega
    obtain ⟨hc2, hf2⟩ := blk_cells hh2
    go_wp2_with fail
    all_goals
      refine ret_blk (v := .tuple #[.agg (lsaC zeroL none 0 0 none 0 0), .int .i64 3]) (g := w.heap.size) (T := 77) (cs := lsaC zeroL none 0 0 none 0 0) (fun W hW => by obtain ⟨hc, hf⟩ := blk_cells hW; simp [results, Try.results51, go_sem, hc, zeroL]) ?_ rfl (refGetPost_no hE.out (by omega) ?_)
      · simp [World.setCell, World.alloc, Array.getElem?_modify, Array.getElem?_push, hh2, zeroL]
        try (rw [if_neg (by omega), if_neg (by omega)]; first | done | rfl)
      · (repeat (first | with_reducible exact Below.refl _ _ | with_reducible assumption | with_reducible refine Below.drew ?_ | with_reducible refine below_drewN ?_ _ | (with_reducible refine Below.alloc ?_ ?_ _; rotate_left; · (first | (simp; done) | omega | (simp at *; omega))) | (with_reducible refine Below.setCell ?_ ?_ _; rotate_left; · (first | (simp only []; omega) | (simp; done) | (simp; omega))) | with_reducible refine Below.trans ?_ (by with_reducible assumption)))

end Go.Proofs.Ytgopkpogakjckaa
