/-
  Plain words of package journal: the sum, numbers, slots, frames. Contracts of crc, Crc, num, get, Takes.
-/
import Derived.Test.YtfhlidlmipleaaaDkJ
namespace Go.Proofs.Ytfhlidlmipleaaa
set_option linter.unusedVariables false
set_option linter.unusedSimpArgs false
open Go Go.RowKit LM

def crcStep (n : Nat) : Nat := if n % 2 = 1 then (n / 2) ^^^ 3988292384 else n / 2
def crcN : Nat → Nat → Nat
  | 0, n => n
  | j + 1, n => crcStep (crcN j n)
def crcB (n c : Nat) : Nat := crcN 8 (n ^^^ c)
def crcL (n : Nat) (l : List UInt8) : Nat := l.foldl (fun m c => crcB m c.toNat) n
/-- the sum of bytes -/
def crcOf (l : List UInt8) : Nat := 4294967295 - crcL 4294967295 l
theorem crcStep_lt {n : Nat} (h : n < 4294967296) : crcStep n < 4294967296 := by
  unfold crcStep
  split
  · exact Nat.xor_lt_two_pow (n := 32) (by omega) (by omega)
  · omega
theorem crcN_lt {n : Nat} (h : n < 4294967296) (j : Nat) : crcN j n < 4294967296 := by
  induction j with
  | zero => exact h
  | succ j ih => exact crcStep_lt ih
theorem crcB_lt {n c : Nat} (h : n < 4294967296) (hc : c < 256) : crcB n c < 4294967296 := crcN_lt (Nat.xor_lt_two_pow (n := 32) h (by omega)) 8
theorem crcL_lt {n : Nat} (h : n < 4294967296) (l : List UInt8) : crcL n l < 4294967296 := by
  unfold crcL
  induction l generalizing n with
  | nil => exact h
  | cons c l ih => exact ih (crcB_lt h c.toNat_lt)
theorem crcL_more (n : Nat) (l : List UInt8) (k : Nat) (h : k < l.length) : crcL n (l.take (k + 1)) = crcB (crcL n (l.take k)) (byt l k) := by
  unfold crcL byt
  rw [List.take_add_one, List.getElem?_eq_getElem h, Option.toList_some, List.foldl_append]
  simp [List.getD_eq_getElem?_getD, List.getElem?_eq_getElem h]
theorem crcL_app (n : Nat) (a b : List UInt8) : crcL n (a ++ b) = crcL (crcL n a) b := by unfold crcL; rw [List.foldl_append]
theorem wrap32 (n : Int) : IntKind.u32.wrap n = n % 4294967296 := by simp [IntKind.wrap, IntKind.bits, IntKind.signed]
theorem xor32 (a b : Nat) (ha : a < 4294967296) (hb : b < 4294967296) : bits .xor .u32 (a : Int) (b : Int) = ((a ^^^ b : Nat) : Int) := by
  have hx : a ^^^ b < 2 ^ 32 := Nat.xor_lt_two_pow (by omega) (by omega)
  have h1 : (BitVec.ofInt 32 (a : Int)).toNat = a := by
    rw [BitVec.ofInt_natCast, BitVec.toNat_ofNat]; exact Nat.mod_eq_of_lt (by omega)
  have h2 : (BitVec.ofInt 32 (b : Int)).toNat = b := by
    rw [BitVec.ofInt_natCast, BitVec.toNat_ofNat]; exact Nat.mod_eq_of_lt (by omega)
  show IntKind.u32.wrap ((BitVec.ofInt 32 (a : Int) ^^^ BitVec.ofInt 32 (b : Int)).toNat : Int) = _
  rw [BitVec.toNat_xor, h1, h2, wrap32]
  omega
theorem and32 (a b : Nat) (ha : a < 4294967296) (hb : b < 4294967296) : bits .and .u32 (a : Int) (b : Int) = ((a &&& b : Nat) : Int) := by
  have hx : a &&& b < 2 ^ 32 := Nat.and_lt_two_pow _ (by omega)
  have h1 : (BitVec.ofInt 32 (a : Int)).toNat = a := by
    rw [BitVec.ofInt_natCast, BitVec.toNat_ofNat]; exact Nat.mod_eq_of_lt (by omega)
  have h2 : (BitVec.ofInt 32 (b : Int)).toNat = b := by
    rw [BitVec.ofInt_natCast, BitVec.toNat_ofNat]; exact Nat.mod_eq_of_lt (by omega)
  show IntKind.u32.wrap ((BitVec.ofInt 32 (a : Int) &&& BitVec.ofInt 32 (b : Int)).toNat : Int) = _
  rw [BitVec.toNat_and, h1, h2, wrap32]
  omega
theorem not32 (m : Nat) (h : m < 4294967296) : 4294967295 ^^^ m = 4294967295 - m := by
  have h1 : (BitVec.ofNat 32 4294967295 ^^^ BitVec.ofNat 32 m) = ~~~ (BitVec.ofNat 32 m) := by
    have : BitVec.ofNat 32 4294967295 = BitVec.allOnes 32 := by decide
    rw [this, BitVec.allOnes_xor]
  have h2 := congrArg BitVec.toNat h1
  simp [BitVec.toNat_not] at h2
  rw [Nat.mod_eq_of_lt h] at h2
  omega
theorem step_bits (z : Nat) (hz : z < 4294967296) : bits BinOp.xor IntKind.u32 ((z : Int) / 2) (bits BinOp.and IntKind.u32 3988292384 (-bits BinOp.and IntKind.u32 (z : Int) 1 % 4294967296)) = ((crcStep z : Nat) : Int) := by
  have h1 : bits BinOp.and IntKind.u32 (z : Int) 1 = ((z % 2 : Nat) : Int) := by
    rw [show (1 : Int) = ((1 : Nat) : Int) from rfl, and32 z 1 hz (by omega), Nat.and_one_is_mod]
  have h2 : ((z : Int) / 2) = ((z / 2 : Nat) : Int) := by omega
  rw [h1, h2]
  unfold crcStep
  rcases (by omega : z % 2 = 0 ∨ z % 2 = 1) with h | h
  · rw [h, if_neg (by omega), show (-((0 : Nat) : Int) % 4294967296) = ((0 : Nat) : Int) by decide, show (3988292384 : Int) = ((3988292384 : Nat) : Int) from rfl, and32 _ _ (by omega) (by omega), Nat.and_zero, xor32 _ _ (by omega) (by omega), Nat.xor_zero]
  · rw [h, if_pos rfl, show (-((1 : Nat) : Int) % 4294967296) = ((4294967295 : Nat) : Int) by decide, show (3988292384 : Int) = ((3988292384 : Nat) : Int) from rfl, and32 _ _ (by omega) (by omega), show 3988292384 &&& 4294967295 = 3988292384 by decide, xor32 _ _ (by omega) (by omega)]
set_option maxRecDepth 100000 in
set_option maxHeartbeats 800000 in
theorem crc_any (x : Nat) (hx : x < 4294967296) (A : Option Addr) (n c : Nat) (l : List UInt8) (w : World) (hS : Sl w 1 (.slice A n c) (B8 l)) :
    Calls Try.prog 108 #[.int .u32 x, .slice A n c] w fun e w' => e = .returned (.int .u32 (crcL x l)) ∧ w' = w := by
  obtain ⟨hn, hnc, hc⟩ := hS.len
  go_enter Try.func108, Try.ntmps108
  go_wp2_with fail
  go_loopw [0, 9] (fun v i wr => ∃ k : Nat, k ≤ n ∧ i = .int .i64 k ∧ v = .int .u32 (crcL x (l.take k)) ∧ wr = w) (fun _ i _ => n - (intOf i).toNat)
  case atStart => exact ⟨0, Nat.zero_le _, rfl, by simp [crcL], rfl⟩
  case round =>
    obtain ⟨k, hk, rfl, rfl, rfl⟩ := hrel
    have hm := crcL_lt hx (l.take k)
    by_cases hkn : k < n
    · have HC := hid (crcL_more x l k (by omega))
      obtain ⟨b, off, rfl, hb, hcell⟩ := hS.byte hkn
      have hby := byt_lt l k
      generalize byt l k = y at *
      generalize crcL x (l.take k) = m at *
      go_wp2_with fail
      go_loopw [0, 17] (fun v i wr2 => ∃ j : Nat, j ≤ 8 ∧ i = .int .i64 j ∧ v = .int .u32 (crcN j (m ^^^ y)) ∧ wr2 = wr) (fun _ i _ => 8 - (intOf i).toNat)
      case atStart => exact ⟨0, Nat.zero_le _, rfl, by rw [xor32 m y hm (by omega)] <;> rfl, rfl⟩
      case round =>
        obtain ⟨j, hj, rfl, rfl, rfl⟩ := hrel
        have hz := crcN_lt (Nat.xor_lt_two_pow (n := 32) hm (by omega : y < 2 ^ 32)) j
        by_cases hj8 : j < 8
        · have HN : Hid (crcN (j + 1) (m ^^^ y) = crcStep (crcN j (m ^^^ y))) := hid rfl
          generalize crcN j (m ^^^ y) = z at *
          go_wp2_with fail
          go_light
          exact ⟨⟨j + 1, by omega, by go_num, by rw [HN.out, step_bits z hz], trivial⟩, by simp [intOf]; omega⟩
        · obtain rfl : j = 8 := by omega
          go_wp2_with fail
          go_light
          exact ⟨⟨k + 1, by omega, by go_num, by rw [HC.out, crcB], trivial⟩, by simp [intOf]; omega⟩
    · obtain rfl : k = n := by omega
      go_wp2_with fail
      go_ret
      rw [List.take_of_length_le (by omega)]
      exact ⟨rfl, rfl⟩
set_option maxRecDepth 100000 in
set_option maxHeartbeats 800000 in
theorem Crc_any (A : Option Addr) (n c : Nat) (l : List UInt8) (w : World) (hS : Sl w 1 (.slice A n c) (B8 l)) :
    Calls Try.prog 56 #[.slice A n c] w fun e w' => e = .returned (.int .u32 (crcOf l)) ∧ w' = w := by
  have hz := crcL_lt (n := 4294967295) (by omega) l
  obtain ⟨cz, hcz⟩ : ∃ cz, crcOf l = cz := ⟨_, rfl⟩
  have ec : bits BinOp.xor IntKind.u32 IntKind.u32.max ((crcL 4294967295 l : Nat) : Int) = (cz : Int) := by
    rw [← hcz, show IntKind.u32.max = ((4294967295 : Nat) : Int) from rfl, xor32 _ _ (by omega) hz, not32 _ hz]
    rfl
  rw [hcz]
  have hz2 : cz < 4294967296 := by rw [← hcz]; unfold crcOf; omega
  clear hcz
  go_enter Try.func56, Try.ntmps56
  go_wp2_with fail
  refine (crc_any 4294967295 (by omega) A n c l w hS).mono ?_
  rintro e w' ⟨rfl, rfl⟩
  generalize crcL 4294967295 l = z at *
  go_wp2_with fail
  go_ret
  exact ⟨rfl, rfl⟩
def takesN (n : Nat) : Nat := (n + 82) / 64
set_option maxRecDepth 100000 in
set_option maxHeartbeats 800000 in
theorem takes_any (n : Nat) (hn : n ≤ 1099511627776) (w : World) :
    Calls Try.prog 58 #[.int .i64 n] w fun e w' => e = .returned (.int .i64 (takesN n)) ∧ w' = w := by
  go_enter Try.func58, Try.ntmps58
  go_wp2_with fail
  go_ret
  exact ⟨ret_int (by unfold takesN; omega), rfl⟩
def getN (l : List UInt8) : Nat := l.foldl (fun m c => (m * 256 + c.toNat) % 18446744073709551616) 0
theorem getN_lt (l : List UInt8) : getN l < 18446744073709551616 := by
  unfold getN
  have : ∀ (l : List UInt8) (m : Nat), m < 18446744073709551616 → l.foldl (fun m c => (m * 256 + c.toNat) % 18446744073709551616) m < 18446744073709551616 := by
    intro l
    induction l with
    | nil => intro m h; exact h
    | cons c l ih => intro m h; exact ih _ (Nat.mod_lt _ (by omega))
  exact this l 0 (by omega)
theorem getN_more (l : List UInt8) (k : Nat) (h : k < l.length) : getN (l.take (k + 1)) = (getN (l.take k) * 256 + byt l k) % 18446744073709551616 := by
  unfold getN byt
  rw [List.take_add_one, List.getElem?_eq_getElem h, Option.toList_some, List.foldl_append]
  simp [List.getD_eq_getElem?_getD, List.getElem?_eq_getElem h]
set_option maxRecDepth 100000 in
set_option maxHeartbeats 800000 in
theorem get_any (A : Option Addr) (n c : Nat) (l : List UInt8) (w : World) (hS : Sl w 1 (.slice A n c) (B8 l)) :
    Calls Try.prog 154 #[.slice A n c] w fun e w' => e = .returned (.int .u64 (getN l)) ∧ w' = w := by
  obtain ⟨hn, hnc, hc⟩ := hS.len
  go_enter Try.func154, Try.ntmps154
  go_wp2_with fail
  go_loopw [3, 8] (fun v i wr => ∃ k : Nat, k ≤ n ∧ i = .int .i64 k ∧ v = .int .u64 (getN (l.take k)) ∧ wr = w) (fun _ i _ => n - (intOf i).toNat)
  case atStart => exact ⟨0, Nat.zero_le _, rfl, by simp [getN], rfl⟩
  case round =>
    obtain ⟨k, hk, rfl, rfl, rfl⟩ := hrel
    have hm := getN_lt (l.take k)
    by_cases hkn : k < n
    · have HC := hid (getN_more l k (by omega))
      obtain ⟨b, off, rfl, hb, hcell⟩ := hS.byte hkn
      have hby := byt_lt l k
      generalize byt l k = y at *
      generalize getN (l.take k) = m at *
      go_wp2_with fail
      go_light
      exact ⟨⟨k + 1, by omega, by go_num, by rw [HC.out, IntKind.wrap_u64, IntKind.wrap_u64]; exact congrArg _ (by omega), trivial⟩, by simp [intOf]; omega⟩
    · obtain rfl : k = n := by omega
      go_wp2_with fail
      go_ret
      rw [List.take_of_length_le (by omega)]
      exact ⟨rfl, rfl⟩
set_option maxRecDepth 100000 in
set_option maxHeartbeats 800000 in
theorem numJ_any (base n c size : Nat) (A : Option Addr) (l : List UInt8) (x : Nat) (w : World) (hown : w.ownsRow base 5 1 (.slice A n c) n (B8 l)) (hb : base ≤ w.heap.size)
    (hx : x < 18446744073709551616) (hs : size ≤ 8) (hn : n ≤ 1099511627776) :
    Calls Try.prog 155 #[.slice A n c, .int .u64 x, .int .i64 size] w fun e w' => ∃ A' c', e = .returned (.slice A' (n + size) c') ∧
      w'.ownsRow base 5 1 (.slice A' (n + size) c') (n + size) (B8 (l ++ be size x)) ∧ w.grownBy w' (Value.ownBlock (.slice A n c)) ∧ From w (Value.ownBlock (.slice A n c)) (Value.ownBlock (.slice A' (n + size) c')) := by
  go_enter Try.func155, Try.ntmps155
  go_wp2_with fail
  go_loopw [0, 7] (fun v i wr => ∃ (j : Nat) (A' : Option Addr) (c' : Nat), j ≤ size ∧ i = .int .i64 (8 * ((size : Int) - 1 - j)) ∧ v = .slice A' (n + j) c' ∧
      wr.ownsRow base 5 1 (.slice A' (n + j) c') (n + j) (B8 (l ++ (be size x).take j)) ∧ w.grownBy wr (Value.ownBlock (.slice A n c)) ∧
      From w (Value.ownBlock (.slice A n c)) (Value.ownBlock (.slice A' (n + j) c')))
    (fun _ i _ => (intOf i + 8).toNat)
  case atStart => exact ⟨0, A, c, Nat.zero_le _, by simp, rfl, by simpa using hown, World.grownBy.refl _ _, From.refl _ _⟩
  case round =>
    obtain ⟨j, A', c', hj, rfl, rfl, hownr, hgr, hblk⟩ := hrel
    by_cases hlt : j < size
    · have hsl : Sl (wr.alloc (.cells #[.int .u8 ((x : Int) / 2 ^ (8 * (size - 1 - j)) % 256)] 5)) 1 (.slice (some ⟨wr.heap.size, 0, none⟩) 1 1) (B8 [UInt8.ofNat (x / 2 ^ (8 * (size - 1 - j)) % 256)]) := by
        refine sl_new _ _ _ _ _ _ rfl ?_ rfl (by simp)
        simp [B8]
      have HT := hid (be_take_succ size x j hlt)
      have hsz := hgr.size
      have e8 : 8 * ((size : Int) - 1 - j) = ((8 * (size - 1 - j) : Nat) : Int) := by omega
      rw [e8]
      go_wp2_with (at_builtin; refine wpList_app rfl (.tmp 15) (.tmp 20) st_bytes rfl base rfl (hownr.alloc _) rfl hsl (B8_one _) (by simp [maxLen]; omega) (by omega) (by simp; omega) ?_)
      intro A3 c3 w3 hown3 hg3 hf3
      rw [← B8_append, List.append_assoc] at hown3
      go_wp2_with fail
      go_light
      have hg4 : wr.grownBy w3 (Value.ownBlock (.slice A' (n + j) c')) := grown_trans (World.grownBy_alloc wr _ _) (From.refl _ _) hg3
      have hf4 : From wr (Value.ownBlock (.slice A' (n + j) c')) (Value.ownBlock (.slice A3 (n + j + 1) c3)) := by
        rcases hf3 with h | h
        · exact .inl h
        · exact .inr ⟨_, h, by omega⟩
      refine ⟨⟨j + 1, A3, c3, by omega, by go_num, rfl, ?_, grown_trans hgr hblk hg4, hblk.trans hsz hf4⟩, by simp [intOf]; omega⟩
      rw [HT.out]
      exact hown3
    · obtain rfl : j = size := by omega
      go_wp2_with fail
      go_ret
      refine ⟨A', c', rfl, ?_, hgr, hblk⟩
      rw [List.take_of_length_le (by rw [be_length]; omega)] at hownr
      exact hownr
end Go.Proofs.Ytfhlidlmipleaaa
