/-
  Contract of disk's Read.
-/
import Derived.Test.YtfhlidlmipleaaaDk6
namespace Go.Proofs.Ytfhlidlmipleaaa
set_option linter.unusedVariables false
set_option linter.unusedSimpArgs false
open Go Go.RowKit

theorem SEC_get (l : List (List UInt8)) (hl : ∀ s ∈ l, s.length = 64) (k j : Nat) (hk : k < l.length) (hj : j < 64) : (SEC l)[k * 64 + j]? = (B8 (l.getD k zero64))[j]? := by
  unfold SEC
  induction l generalizing k with
  | nil => simp at hk
  | cons x l ih =>
    have hx : (B8 x).length = 64 := by rw [B8_length]; exact hl x (List.mem_cons_self ..)
    cases k with
    | zero =>
      simp only [List.flatMap_cons, Nat.zero_mul, Nat.zero_add, List.getD_cons_zero]
      rw [List.getElem?_append_left (by omega)]
    | succ k =>
      simp only [List.flatMap_cons, List.getD_cons_succ]
      rw [List.getElem?_append_right (by omega)]
      have : (k + 1) * 64 + j - (B8 x).length = k * 64 + j := by omega
      rw [this]
      exact ih (fun s hs => hl s (List.mem_cons_of_mem _ hs)) k (by simp at hk; omega)
theorem range_own {w : World} {base g n c : Nat} {e : TypeId} {l : List (List UInt8)} (h : w.ownsRow base e 64 (.slice (some ⟨g, 0, none⟩) n c) n (SEC l)) (hl : ∀ s ∈ l, s.length = 64) (k : Nat) (hk : k < l.length) (hkn : k < n) :
    w.rangeAt g (k * 64) (B8 (l.getD k zero64)) := by
  intro j v hv
  have h64 : (l.getD k zero64).length = 64 := by
    rw [List.getD_eq_getElem?_getD, List.getElem?_eq_getElem hk]
    exact hl _ (List.getElem_mem hk)
  have hj := (List.getElem?_eq_some_iff.1 hv).1
  rw [B8_length, h64] at hj
  rw [(own_cell h (k * 64 + j) (by omega)).1, SEC_get l hl k j hk hj, hv]
def readB (D : Dk) (i : Nat) : List UInt8 := (lookW D.wait (i : Int)).getD (D.stay.getD i zero64)
set_option maxRecDepth 100000 in
set_option maxHeartbeats 1600000 in
theorem read_any (base : Nat) (w : World) (D : Dk) (d gs cs r : Nat) (Ao : Option Addr) (co : Nat) (i : Nat) (h : DkAt base w D d gs cs r Ao co) (hi : i < D.stay.length) (hoff : D.off = false) :
    Calls Try.prog 15 #[.pointer (some ⟨d, 0, none⟩), .int .i64 (i : Int)] w fun e w' => ∃ g, e = .returned (.tuple #[.slice (some ⟨g, 0, none⟩) 64 64, .int .i64 0]) ∧ w.heap.size ≤ g ∧ g < w'.heap.size ∧
      Sl w' 1 (.slice (some ⟨g, 0, none⟩) 64 64) (B8 (readB D i)) ∧ Below w.heap.size w w' := by
  have HM : Hid (mayE D i = 0) := by show _ = _; unfold mayE; rw [if_neg (by rw [hoff]; exact Bool.false_ne_true), if_neg (by omega)]
  have hcap := own_lens h.stay
  have hs64 : (D.stay.getD i zero64).length = 64 := by
    rw [List.getD_eq_getElem?_getD, List.getElem?_eq_getElem hi]
    exact h.sec _ (List.getElem_mem hi)
  clear hoff
  go_enter Try.func15, Try.ntmps15
  go_wp2_with fail
  refine (may_any base w D d gs cs r Ao co i h).mono ?_
  rintro e w1 ⟨rfl, rfl⟩
  rw [HM.out]
  obtain ⟨es, clk, hmap, he⟩ := h.map
  have hlk := ilook (P := Try.prog) (w := w1) true Try.underlying141 Try.underlying3 (z := secV zero64) (by
    have h0 : (Try.prog.info? 146).map (fun i => (i.zero, i.size)) = some (some (secV zero64), 64) := by kernel_rfl
    exact (zero_of_info h0).1 w1) hmap he (i : Int)
  rw [if_pos rfl, wv_look, wv_has] at hlk
  obtain ⟨hcd, hfd⟩ := blk_cells h.blk
  have q0 := hcd 0
  have q1 := hcd 1
  simp at q0 q1
  cases ho : lookW D.wait (i : Int) with
  | some old =>
    have hlo : old.length = 64 := by have := lookW_len D.wait (i : Int) h.secw; rw [ho] at this; exact this
    have HB : Hid (readB D i = old) := by show _ = _; unfold readB; rw [ho]; rfl
    rw [ho] at hlk
    simp only [Option.getD_some, Option.isSome_some, secV] at hlk
    have hz64 : (B8 old).toArray.size = 64 := by simp [B8_length, hlo]
    clear ho
    go_wp2_with (refine wpList_store_new rfl 146 (.tmp 7) (.tmp 22) rfl (B8 old).toArray rfl rfl (sec_info old hlo) (by rw [hz64]; rfl) (sec_one old) ?_)
    go_wp2_with fail
    refine bodyPost_ret (v := .tuple #[.slice (some ⟨w1.heap.size, 0, none⟩) 64 64, .int .i64 0]) (by simp [results, Try.results15, go_sem]) rfl ⟨w1.heap.size, rfl, Nat.le_refl _, by simp, ?_, (Below.refl w1.heap.size w1).alloc (Nat.le_refl _) _⟩
    rw [HB.out]
    exact own_sl (own_made w1 0 146 1 64 _ (B8 old) (Nat.zero_le _) rfl (by rw [B8_length, hlo]) (by omega) (by omega))
  | none =>
    have HB : Hid (readB D i = D.stay.getD i zero64) := by show _ = _; unfold readB; rw [ho]; rfl
    rw [ho] at hlk
    simp only [Option.getD_none, Option.isSome_none, secV] at hlk
    have hz64 : (B8 zero64).toArray.size = 64 := by simp [B8_length, zero64]
    have h3 := h.below ((Below.refl w1.heap.size w1).alloc (Nat.le_refl _) (.cells (B8 zero64).toArray 146))
    have hrg := range_own h3.stay h3.sec i hi hi
    have p0 := (blk_cells h3.blk).1 0
    simp at p0
    generalize hsv : D.stay.getD i zero64 = sv at *
    have hy64 : (B8 sv).toArray.size = 64 := by simp [B8_length, hs64]
    have hin : (Try.prog.info? 146).map (·.size) = some (B8 sv).length := by have := sec_info sv hs64; simpa using this
    clear ho hsv
    go_wp2_with (first | (refine wpList_store_new rfl 146 (.tmp 7) (.tmp 22) rfl (B8 zero64).toArray rfl rfl (sec_info zero64 rfl) (by rw [hz64]; rfl) (sec_one zero64) ?_) | (refine wpList_load_mid rfl 146 (.tmp 31) rfl gs (i * 64) rfl (B8 sv) _ hrg Try.underlying146 rfl hin ?_) | (refine wpList_store_new rfl 146 (.tmp 7) (.tmp 32) rfl (B8 sv).toArray rfl rfl (sec_info sv hs64) (by rw [hy64]; exact hz64) (sec_one sv) ?_))
    go_wp2_with fail
    refine bodyPost_ret (v := .tuple #[.slice (some ⟨w1.heap.size, 0, none⟩) 64 64, .int .i64 0]) (by simp [results, Try.results15, go_sem]) rfl ⟨w1.heap.size, rfl, Nat.le_refl _, by simp, ?_, (Below.refl w1.heap.size w1).alloc (Nat.le_refl _) _⟩
    rw [HB.out]
    exact own_sl (own_made w1 0 146 1 64 _ (B8 sv) (Nat.zero_le _) rfl (by rw [B8_length, hs64]) (by omega) (by omega))
end Go.Proofs.Ytfhlidlmipleaaa
