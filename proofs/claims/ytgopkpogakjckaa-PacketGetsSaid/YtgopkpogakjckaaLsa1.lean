/-
  Contracts of package lsa: numbers laid, headers.
-/
import Derived.Test.YtgopkpogakjckaaSums
import Derived.Test.YtgopkpogakjckaaLsaM
namespace Go.Proofs.Ytgopkpogakjckaa
set_option linter.unusedVariables false
set_option linter.unusedSimpArgs false
open Go.RowKit SM LM

set_option maxRecDepth 100000 in
set_option maxHeartbeats 400000 in
theorem put_nat (base n c size : Nat) (A : Option Addr) (l : List UInt8) (x : Nat) (w : World) (hown : w.ownsRow base 5 1 (.slice A n c) n (B8 l)) (hb : base ≤ w.heap.size)
    (hx : x < 18446744073709551616) (hs : size ≤ 8) (hn : n ≤ 1099511627776) :
    Calls Try.prog 104 #[.slice A n c, .int .u64 x, .int .i64 size] w fun e w' => ∃ A' c', e = .returned (.slice A' (n + size) c') ∧
      w'.ownsRow base 5 1 (.slice A' (n + size) c') (n + size) (B8 (l ++ be size x)) ∧ w.grownBy w' (Value.ownBlock (.slice A n c)) ∧ From w (Value.ownBlock (.slice A n c)) (Value.ownBlock (.slice A' (n + size) c')) := by
  go_enter Try.func104, Try.ntmps104
  go_wp2_with fail
  go_loopw [0, 7] (fun v i wr => ∃ (j : Nat) (A' : Option Addr) (c' : Nat), j ≤ size ∧ i = .int .i64 ((size : Int) - 1 - j) ∧ v = .slice A' (n + j) c' ∧
      wr.ownsRow base 5 1 (.slice A' (n + j) c') (n + j) (B8 (l ++ (be size x).take j)) ∧ w.grownBy wr (Value.ownBlock (.slice A n c)) ∧
      From w (Value.ownBlock (.slice A n c)) (Value.ownBlock (.slice A' (n + j) c')))
    (fun _ i _ => (intOf i + 1).toNat)
  case atStart => exact ⟨0, A, c, Nat.zero_le _, by simp, rfl, by simpa using hown, World.grownBy.refl _ _, From.refl _ _⟩
  case round =>
    obtain ⟨j, A', c', hj, rfl, rfl, hownr, hgr, hblk⟩ := hrel
    by_cases hlt : j < size
    · have hsl : Sl (wr.alloc (.cells #[.int .u8 ((x : Int) / 2 ^ (8 * (size - 1 - j)) % 256)] 5)) 1 (.slice (some ⟨wr.heap.size, 0, none⟩) 1 1) (B8 [UInt8.ofNat (x / 2 ^ (8 * (size - 1 - j)) % 256)]) := by
        refine sl_new _ _ _ _ _ _ rfl ?_ rfl (by simp)
        simp [B8]
      have HT := hid (be_take_succ size x j hlt)
      have hsz := hgr.size
      go_wp2_with (at_builtin; refine wpList_app rfl (.tmp 14) (.tmp 20) st_bytes rfl base rfl (hownr.alloc _) rfl hsl (B8_one _) (by simp [maxLen]; omega) (by omega) (by simp; omega) ?_)
      intro A3 c3 w3 hown3 hg3 hf3
      rw [← B8_append, List.append_assoc] at hown3
      go_wp2_with fail
      go_light
      have hg4 : wr.grownBy w3 (Value.ownBlock (.slice A' (n + j) c')) := grown_trans (World.grownBy_alloc wr _ _) (From.refl _ _) hg3
      have hf4 : From wr (Value.ownBlock (.slice A' (n + j) c')) (Value.ownBlock (.slice A3 (n + j + 1) c3)) := by
        rcases hf3 with h | h
        · exact .inl h
        · exact .inr ⟨_, h, by omega⟩
      refine ⟨⟨j + 1, A3, c3, by omega, by go_num, rfl, ?_, grown_trans hgr hblk hg4, hblk.trans hsz hf4⟩, by simp [intOf]; omega⟩
      rw [HT.out]
      exact hown3
    · obtain rfl : j = size := by omega
      go_wp2_with fail
      go_ret
      refine ⟨A', c', rfl, ?_, hgr, hblk⟩
      rw [List.take_of_length_le (by rw [be_length]; omega)] at hownr
      exact hownr

theorem put_any (base n c size : Nat) (A : Option Addr) (l : List UInt8) (z : Int) (w : World) (hown : w.ownsRow base 5 1 (.slice A n c) n (B8 l)) (hb : base ≤ w.heap.size)
    (h0 : 0 ≤ z) (hx : z < 18446744073709551616) (hs : size ≤ 8) (hn : n ≤ 1099511627776) :
    Calls Try.prog 104 #[.slice A n c, .int .u64 z, .int .i64 size] w fun e w' => ∃ A' c', e = .returned (.slice A' (n + size) c') ∧
      w'.ownsRow base 5 1 (.slice A' (n + size) c') (n + size) (B8 (l ++ be size z.toNat)) ∧ Below base w w' ∧ w.grownBy w' (Value.ownBlock (.slice A n c)) ∧ From w (Value.ownBlock (.slice A n c)) (Value.ownBlock (.slice A' (n + size) c')) := by
  obtain ⟨x, rfl⟩ := Int.eq_ofNat_of_zero_le h0
  refine (put_nat base n c size A l x w hown hb (by omega) hs hn).mono ?_
  rintro e w' ⟨A', c', rfl, h1, h2, h3⟩
  exact ⟨A', c', rfl, h1, grown_below hown h2 hb, h2, h3⟩

set_option maxRecDepth 100000 in
set_option maxHeartbeats 400000 in
theorem num_nat (base size : Nat) (x : Nat) (w : World) (hb : base ≤ w.heap.size) (hx : x < 18446744073709551616) (hs : size ≤ 8) :
    Calls Try.prog 80 #[.int .u64 x, .int .i64 size] w fun e w' => ∃ A' c', e = .returned (.slice A' size c') ∧
      w'.ownsRow base 5 1 (.slice A' size c') size (B8 (be size x)) ∧ Below w.heap.size w w' := by
  go_enter Try.func80, Try.ntmps80
  go_wp2_with fail
  go_loopw [5, 6] (fun v i wr => ∃ (j : Nat) (A' : Option Addr) (c' : Nat), j ≤ size ∧ i = .int .i64 ((size : Int) - 1 - j) ∧ v = .slice A' j c' ∧
      wr.ownsRow w.heap.size 5 1 (.slice A' j c') j (B8 ((be size x).take j)) ∧ Below w.heap.size w wr)
    (fun _ i _ => (intOf i + 1).toNat)
  case atStart => exact ⟨0, none, 0, Nat.zero_le _, by simp, rfl, by simpa [B8] using World.ownsRow_nil _ _ _ _, Below.refl _ _⟩
  case round =>
    obtain ⟨j, A', c', hj, rfl, rfl, hownr, hbl⟩ := hrel
    by_cases hlt : j < size
    · have hsl : Sl (wr.alloc (.cells #[.int .u8 ((x : Int) / 2 ^ (8 * (size - 1 - j)) % 256)] 5)) 1 (.slice (some ⟨wr.heap.size, 0, none⟩) 1 1) (B8 [UInt8.ofNat (x / 2 ^ (8 * (size - 1 - j)) % 256)]) := by
        refine sl_new _ _ _ _ _ _ rfl ?_ rfl (by simp)
        simp [B8]
      have HT := hid (be_take_succ size x j hlt)
      have hsz := hbl.size
      go_wp2_with (at_builtin; refine wpList_app rfl (.tmp 13) (.tmp 19) st_bytes rfl w.heap.size rfl (hownr.alloc _) rfl hsl (B8_one _) (by simp [maxLen]; omega) (by omega) (by simp; omega) ?_)
      intro A3 c3 w3 hown3 hg3 hf3
      rw [← B8_append] at hown3
      go_wp2_with fail
      go_light
      refine ⟨⟨j + 1, A3, c3, by omega, by go_num, rfl, by rw [HT.out]; exact hown3, (hbl.alloc hbl.size _).trans (grown_below (hownr.alloc _) hg3 (by simp; omega))⟩, by simp [intOf]; omega⟩
    · obtain rfl : j = size := by omega
      go_wp2_with fail
      go_ret
      refine ⟨A', c', rfl, ?_, hbl⟩
      rw [List.take_of_length_le (by rw [be_length]; omega)] at hownr
      exact own_base hownr hb
theorem num_any (base size : Nat) (z : Int) (w : World) (hb : base ≤ w.heap.size) (h0 : 0 ≤ z) (hx : z < 18446744073709551616) (hs : size ≤ 8) :
    Calls Try.prog 80 #[.int .u64 z, .int .i64 size] w fun e w' => ∃ A' c', e = .returned (.slice A' size c') ∧
      w'.ownsRow base 5 1 (.slice A' size c') size (B8 (be size z.toNat)) ∧ Below w.heap.size w w' := by
  obtain ⟨x, rfl⟩ := Int.eq_ofNat_of_zero_le h0
  exact num_nat base size x w hb (by omega) hs

/-- 'num' as a region that draws wants it: the block by its number -/
theorem num_g (k : Nat) (z : Int) (w : World) (h0 : 0 ≤ z) (hx : z < 18446744073709551616) (hs : k + 1 ≤ 8) :
    Calls Try.prog 80 #[.int .u64 z, .int .i64 ((k + 1 : Nat) : Int)] w fun e w' => ∃ g c', e = .returned (.slice (some ⟨g, 0, none⟩) (k + 1) c') ∧
      w'.ownsRow w.heap.size 5 1 (.slice (some ⟨g, 0, none⟩) (k + 1) c') (k + 1) (B8 (be (k + 1) z.toNat)) ∧ Below w.heap.size w w' ∧ w.grownBy w' none ∧ w.heap.size ≤ g ∧ g < w'.heap.size := by
  refine (num_any w.heap.size (k + 1) z w (Nat.le_refl _) h0 hx hs).mono ?_
  rintro e w' ⟨A', c', rfl, h1, h2⟩
  obtain ⟨g, rfl, h3, h4⟩ := own_some h1 (by omega)
  exact ⟨g, c', rfl, h1, h2, below_grown h2 none, h3, h4⟩
/-- append onto a row that is there, inside a region that draws, the block by its number -/
theorem step_appg {P : Program} {w : World} {ops : Array Oper} {o : Oper} {a : Act} {K : Act → World → Prop} {Q : Exit → Act → World → Prop} {E : Prop} (hgd : o.guard = none) (s x : Operand)
    {t e : TypeId} {size bytes : Nat} (hT : ST P t e size bytes) (ho : o.op = .call { callee := .builtin .append, args := #[s, x], argTypes := #[t, t] })
    (base : Nat) {n c g : Nat} {xs : List Value} (hs : a.eval s = .slice (some ⟨g, 0, none⟩) n c) (hn : 0 < n) (hown : w.ownsRow base e size (.slice (some ⟨g, 0, none⟩) n c) n xs)
    {m c2 : Nat} {A2 : Option Addr} {news : List Value} (hx : a.eval x = .slice A2 m c2) (hr : Sl w size (.slice A2 m c2) news) (h1 : ∀ u ∈ news, u.oneCell' = true)
    (h63 : n + m ≤ maxLen) (hby : (n + m) * bytes ≤ 140737488355328) (hbase : base ≤ w.heap.size)
    (h : ∀ g' c' w', w'.ownsRow base e size (.slice (some ⟨g', 0, none⟩) (n + m) c') (n + m) (xs ++ news) → Below base w w' → w.grownBy w' (some g) →
      (g' = g ∨ w.heap.size ≤ g') → g' < w'.heap.size → K (a.put o.dst (.slice (some ⟨g', 0, none⟩) (n + m) c')) w') :
    if Region.wanted o (yielded ops a.tmps) = true then Oper.wp P o a w K Q else E := by
  refine step_app hgd s x hT ho base hs hown hx hr h1 h63 hby hbase fun A' c' w' h2 h3 h4 h5 => ?_
  obtain ⟨g', rfl, h6, h7⟩ := own_some h2 (by omega)
  refine h g' c' w' h2 h3 h4 ?_ h7
  rcases h5 with h5 | ⟨g2, h5, h8⟩
  · simp [Value.ownBlock] at h5
    exact .inl h5
  · simp [Value.ownBlock] at h5
    exact .inr (by omega)
end Go.Proofs.Ytgopkpogakjckaa
