/-
  Contracts of package packet and of its reference: numbers laid, as loud operations.
-/
import Derived.Test.YtgopkpogakjckaaPkM
import Derived.Test.YtgopkpogakjckaaRegP
import Derived.Test.YtgopkpogakjckaaRegE
namespace Go.Proofs.Ytgopkpogakjckaa
set_option linter.unusedVariables false
set_option linter.unusedSimpArgs false
open Go Go.RowKit SM LM PK

set_option maxRecDepth 100000 in
set_option maxHeartbeats 400000 in
theorem pput_nat (base n c size : Nat) (A : Option Addr) (l : List UInt8) (x : Nat) (w : World) (hown : w.ownsRow base 5 1 (.slice A n c) n (B8 l)) (hb : base ≤ w.heap.size)
    (hx : x < 18446744073709551616) (hs : size ≤ 8) (hn : n ≤ 1099511627776) :
    Calls Try.prog 38 #[.slice A n c, .int .u64 x, .int .i64 size] w fun e w' => ∃ A' c', e = .returned (.slice A' (n + size) c') ∧
      w'.ownsRow base 5 1 (.slice A' (n + size) c') (n + size) (B8 (l ++ be size x)) ∧ w.grownBy w' (Value.ownBlock (.slice A n c)) ∧ From w (Value.ownBlock (.slice A n c)) (Value.ownBlock (.slice A' (n + size) c')) := by
  go_enter Try.func38, Try.ntmps38
  go_wp2_with fail
  go_loopw [0, 7] (fun v i wr => ∃ (j : Nat) (A' : Option Addr) (c' : Nat), j ≤ size ∧ i = .int .i64 ((size : Int) - 1 - j) ∧ v = .slice A' (n + j) c' ∧
      wr.ownsRow base 5 1 (.slice A' (n + j) c') (n + j) (B8 (l ++ (be size x).take j)) ∧ w.grownBy wr (Value.ownBlock (.slice A n c)) ∧
      From w (Value.ownBlock (.slice A n c)) (Value.ownBlock (.slice A' (n + j) c')))
    (fun _ i _ => (intOf i + 1).toNat)
  case atStart => exact ⟨0, A, c, Nat.zero_le _, by simp, rfl, by simpa using hown, World.grownBy.refl _ _, From.refl _ _⟩
  case round =>
    obtain ⟨j, A', c', hj, rfl, rfl, hownr, hgr, hblk⟩ := hrel
    by_cases hlt : j < size
    · have hsl : Sl (wr.alloc (.cells #[.int .u8 ((x : Int) / 2 ^ (8 * (size - 1 - j)) % 256)] 5)) 1 (.slice (some ⟨wr.heap.size, 0, none⟩) 1 1) (B8 [UInt8.ofNat (x / 2 ^ (8 * (size - 1 - j)) % 256)]) := by
        refine sl_new _ _ _ _ _ _ rfl ?_ rfl (by simp)
        simp [B8]
      have HT := hid (be_take_succ size x j hlt)
      have hsz := hgr.size
      go_wp2_with (at_builtin; refine wpList_app rfl (.tmp 14) (.tmp 20) st_bytes rfl base rfl (hownr.alloc _) rfl hsl (B8_one _) (by simp [maxLen]; omega) (by omega) (by simp; omega) ?_)
      intro A3 c3 w3 hown3 hg3 hf3
      rw [← B8_append, List.append_assoc] at hown3
      go_wp2_with fail
      go_light
      have hg4 : wr.grownBy w3 (Value.ownBlock (.slice A' (n + j) c')) := grown_trans (World.grownBy_alloc wr _ _) (From.refl _ _) hg3
      have hf4 : From wr (Value.ownBlock (.slice A' (n + j) c')) (Value.ownBlock (.slice A3 (n + j + 1) c3)) := by
        rcases hf3 with h | h
        · exact .inl h
        · exact .inr ⟨_, h, by omega⟩
      refine ⟨⟨j + 1, A3, c3, by omega, by go_num, rfl, ?_, grown_trans hgr hblk hg4, hblk.trans hsz hf4⟩, by simp [intOf]; omega⟩
      rw [HT.out]
      exact hown3
    · obtain rfl : j = size := by omega
      go_wp2_with fail
      go_ret
      refine ⟨A', c', rfl, ?_, hgr, hblk⟩
      rw [List.take_of_length_le (by rw [be_length]; omega)] at hownr
      exact hownr

theorem pput_any (base n c size : Nat) (A : Option Addr) (l : List UInt8) (z : Int) (w : World) (hown : w.ownsRow base 5 1 (.slice A n c) n (B8 l)) (hb : base ≤ w.heap.size)
    (h0 : 0 ≤ z) (hx : z < 18446744073709551616) (hs : size ≤ 8) (hn : n ≤ 1099511627776) :
    Calls Try.prog 38 #[.slice A n c, .int .u64 z, .int .i64 size] w fun e w' => ∃ A' c', e = .returned (.slice A' (n + size) c') ∧
      w'.ownsRow base 5 1 (.slice A' (n + size) c') (n + size) (B8 (l ++ be size z.toNat)) ∧ Below base w w' ∧ w.grownBy w' (Value.ownBlock (.slice A n c)) ∧ From w (Value.ownBlock (.slice A n c)) (Value.ownBlock (.slice A' (n + size) c')) := by
  obtain ⟨x, rfl⟩ := Int.eq_ofNat_of_zero_le h0
  refine (pput_nat base n c size A l x w hown hb (by omega) hs hn).mono ?_
  rintro e w' ⟨A', c', rfl, h1, h2, h3⟩
  exact ⟨A', c', rfl, h1, grown_below hown h2 hb, h2, h3⟩

set_option maxRecDepth 100000 in
set_option maxHeartbeats 400000 in
theorem rnum_nat (base size : Nat) (x : Nat) (w : World) (hb : base ≤ w.heap.size) (hx : x < 18446744073709551616) (hs : size ≤ 8) :
    Calls Try.prog 42 #[.int .u64 x, .int .i64 size] w fun e w' => ∃ A' c', e = .returned (.slice A' size c') ∧
      w'.ownsRow base 5 1 (.slice A' size c') size (B8 (be size x)) ∧ Below w.heap.size w w' := by
  go_enter Try.func42, Try.ntmps42
  go_wp2_with fail
  go_loopw [5, 6] (fun v i wr => ∃ (j : Nat) (A' : Option Addr) (c' : Nat), j ≤ size ∧ i = .int .i64 ((size : Int) - 1 - j) ∧ v = .slice A' j c' ∧
      wr.ownsRow w.heap.size 5 1 (.slice A' j c') j (B8 ((be size x).take j)) ∧ Below w.heap.size w wr)
    (fun _ i _ => (intOf i + 1).toNat)
  case atStart => exact ⟨0, none, 0, Nat.zero_le _, by simp, rfl, by simpa [B8] using World.ownsRow_nil _ _ _ _, Below.refl _ _⟩
  case round =>
    obtain ⟨j, A', c', hj, rfl, rfl, hownr, hbl⟩ := hrel
    by_cases hlt : j < size
    · have hsl : Sl (wr.alloc (.cells #[.int .u8 ((x : Int) / 2 ^ (8 * (size - 1 - j)) % 256)] 5)) 1 (.slice (some ⟨wr.heap.size, 0, none⟩) 1 1) (B8 [UInt8.ofNat (x / 2 ^ (8 * (size - 1 - j)) % 256)]) := by
        refine sl_new _ _ _ _ _ _ rfl ?_ rfl (by simp)
        simp [B8]
      have HT := hid (be_take_succ size x j hlt)
      have hsz := hbl.size
      go_wp2_with (at_builtin; refine wpList_app rfl (.tmp 13) (.tmp 19) st_bytes rfl w.heap.size rfl (hownr.alloc _) rfl hsl (B8_one _) (by simp [maxLen]; omega) (by omega) (by simp; omega) ?_)
      intro A3 c3 w3 hown3 hg3 hf3
      rw [← B8_append] at hown3
      go_wp2_with fail
      go_light
      refine ⟨⟨j + 1, A3, c3, by omega, by go_num, rfl, by rw [HT.out]; exact hown3, (hbl.alloc hbl.size _).trans (grown_below (hownr.alloc _) hg3 (by simp; omega))⟩, by simp [intOf]; omega⟩
    · obtain rfl : j = size := by omega
      go_wp2_with fail
      go_ret
      refine ⟨A', c', rfl, ?_, hbl⟩
      rw [List.take_of_length_le (by rw [be_length]; omega)] at hownr
      exact own_base hownr hb
theorem rnum_any (base size : Nat) (z : Int) (w : World) (hb : base ≤ w.heap.size) (h0 : 0 ≤ z) (hx : z < 18446744073709551616) (hs : size ≤ 8) :
    Calls Try.prog 42 #[.int .u64 z, .int .i64 size] w fun e w' => ∃ A' c', e = .returned (.slice A' size c') ∧
      w'.ownsRow base 5 1 (.slice A' size c') size (B8 (be size z.toNat)) ∧ Below w.heap.size w w' := by
  obtain ⟨x, rfl⟩ := Int.eq_ofNat_of_zero_le h0
  exact rnum_nat base size x w hb (by omega) hs

/-- 'num' as a region that draws wants it: the block by its number -/

theorem pput_x {S : Nat → Prop} {base n c : Nat} {A : Option Addr} {l : List UInt8} (size : Nat) (z : Int) (w : World) (k1 : OwnF base 5 1 n (B8 l) (.slice A n c) S w) (hb : base ≤ w.heap.size) (h0 : 0 ≤ z) (hx : z < 18446744073709551616) (hs : size ≤ 8) (hn : n ≤ 1099511627776) :
    Calls Try.prog 38 #[.slice A n c, .int .u64 z, .int .i64 size] w fun e w' => ∃ v, e = .returned v ∧ LeavesRow S w base 5 1 (n + size) (B8 (l ++ be size z.toNat)) v w' := by
  refine (pput_any base n c size A l z w k1.2 hb h0 hx hs hn).mono ?_
  rintro e w' ⟨A', c', rfl, h1, h2, h3, h4⟩
  refine ⟨_, rfl, ⟨_, _, rfl⟩, own_kept k1 h3, fun g hg => ?_, h1⟩
  rcases h4 with h4 | ⟨g2, h4, h5⟩
  · exact .inl (k1.1 g (h4 ▸ hg))
  · have : g = g2 := by rw [h4] at hg; injection hg with hg; exact hg.symm
    subst this
    exact .inr ⟨h5, (h1.lt g hg).2⟩
theorem pput_0 {S : Nat → Prop} {base : Nat} (size : Nat) (z : Int) (w : World) (hb : base ≤ w.heap.size) (h0 : 0 ≤ z) (hx : z < 18446744073709551616) (hs : size ≤ 8) :
    Calls Try.prog 38 #[.slice none 0 0, .int .u64 z, .int .i64 size] w fun e w' => ∃ v, e = .returned v ∧ LeavesRow S w base 5 1 size (B8 (be size z.toNat)) v w' := by
  refine (pput_any base 0 0 size none [] z w (own_nilE _ _ _ _) hb h0 hx hs (by omega)).mono ?_
  rintro e w' ⟨A', c', rfl, h1, h2, h3, h4⟩
  simp only [Nat.zero_add, List.nil_append] at h1 h4 ⊢
  refine ⟨_, rfl, ⟨_, _, rfl⟩, Kept.of_grown h3 (by intro g hg; cases hg), fun g hg => ?_, h1⟩
  rcases h4 with h4 | ⟨g2, h4, h5⟩
  · rw [h4] at hg; cases hg
  · have : g = g2 := by rw [h4] at hg; injection hg with hg; exact hg.symm
    subst this
    exact .inr ⟨h5, (h1.lt g hg).2⟩
theorem rnum_x {S : Nat → Prop} {base : Nat} (size : Nat) (z : Int) (w : World) (hb : base ≤ w.heap.size) (h0 : 0 ≤ z) (hx : z < 18446744073709551616) (hs : size ≤ 8) :
    Calls Try.prog 42 #[.int .u64 z, .int .i64 size] w fun e w' => ∃ v, e = .returned v ∧ LeavesRow S w base 5 1 size (B8 (be size z.toNat)) v w' := by
  refine (rnum_any w.heap.size size z w (Nat.le_refl _) h0 hx hs).mono ?_
  rintro e w' ⟨A', c', rfl, h1, h2⟩
  exact ⟨_, rfl, ⟨_, _, rfl⟩, Kept.of_below h2, own_fresh h1 hb⟩
end Go.Proofs.Ytgopkpogakjckaa
