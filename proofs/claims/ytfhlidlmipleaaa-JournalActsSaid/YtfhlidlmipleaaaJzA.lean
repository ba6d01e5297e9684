/-
  Plain words of package journal: the sum, numbers, slots, frames. Contracts of crc, Crc, num, get, Takes.
  append onto a row of bytes of the call's own: of a string; of zeros that are made.
  Contract of slot.
  bytes.Equal, bytes.Clone; a part of a slice of bytes.
  Contracts of able, current.
  What a journal is in memory; contracts of size, next, noted.
  A journal and its disk; contracts of noted, sure.
  Contract of frame.
  Contract of rest.
  Contract of add.
  Rows of entries; contracts of may, Free.
  Contract of All.
-/
import Derived.Test.YtfhlidlmipleaaaDkJ
import Derived.Test.YtfhlidlmipleaaaBase
import Derived.Lib.AppendStr
import Derived.Test.YtfhlidlmipleaaaRegE
import Derived.Test.YtfhlidlmipleaaaStr
import Derived.Test.YtfhlidlmipleaaaLsa5
import Derived.Test.YtfhlidlmipleaaaDkL
namespace Go.Proofs.Ytfhlidlmipleaaa
set_option linter.unusedVariables false
set_option linter.unusedSimpArgs false
open Go Go.RowKit LM

def crcStep (n : Nat) : Nat := if n % 2 = 1 then (n / 2) ^^^ 3988292384 else n / 2
def crcN : Nat → Nat → Nat
  | 0, n => n
  | j + 1, n => crcStep (crcN j n)
def crcB (n c : Nat) : Nat := crcN 8 (n ^^^ c)
def crcL (n : Nat) (l : List UInt8) : Nat := l.foldl (fun m c => crcB m c.toNat) n
/-- the sum of bytes -/
def crcOf (l : List UInt8) : Nat := 4294967295 - crcL 4294967295 l
theorem crcStep_lt {n : Nat} (h : n < 4294967296) : crcStep n < 4294967296 := by
  unfold crcStep
  split
  · exact Nat.xor_lt_two_pow (n := 32) (by omega) (by omega)
  · omega
theorem crcN_lt {n : Nat} (h : n < 4294967296) (j : Nat) : crcN j n < 4294967296 := by
  induction j with
  | zero => exact h
  | succ j ih => exact crcStep_lt ih
theorem crcB_lt {n c : Nat} (h : n < 4294967296) (hc : c < 256) : crcB n c < 4294967296 := crcN_lt (Nat.xor_lt_two_pow (n := 32) h (by omega)) 8
theorem crcL_lt {n : Nat} (h : n < 4294967296) (l : List UInt8) : crcL n l < 4294967296 := by
  unfold crcL
  induction l generalizing n with
  | nil => exact h
  | cons c l ih => exact ih (crcB_lt h c.toNat_lt)
theorem crcL_more (n : Nat) (l : List UInt8) (k : Nat) (h : k < l.length) : crcL n (l.take (k + 1)) = crcB (crcL n (l.take k)) (byt l k) := by
  unfold crcL byt
  rw [List.take_add_one, List.getElem?_eq_getElem h, Option.toList_some, List.foldl_append]
  simp [List.getD_eq_getElem?_getD, List.getElem?_eq_getElem h]
theorem crcL_app (n : Nat) (a b : List UInt8) : crcL n (a ++ b) = crcL (crcL n a) b := by unfold crcL; rw [List.foldl_append]
theorem wrap32 (n : Int) : IntKind.u32.wrap n = n % 4294967296 := by simp [IntKind.wrap, IntKind.bits, IntKind.signed]
theorem xor32 (a b : Nat) (ha : a < 4294967296) (hb : b < 4294967296) : bits .xor .u32 (a : Int) (b : Int) = ((a ^^^ b : Nat) : Int) := by
  have hx : a ^^^ b < 2 ^ 32 := Nat.xor_lt_two_pow (by omega) (by omega)
  have h1 : (BitVec.ofInt 32 (a : Int)).toNat = a := by
    rw [BitVec.ofInt_natCast, BitVec.toNat_ofNat]; exact Nat.mod_eq_of_lt (by omega)
  have h2 : (BitVec.ofInt 32 (b : Int)).toNat = b := by
    rw [BitVec.ofInt_natCast, BitVec.toNat_ofNat]; exact Nat.mod_eq_of_lt (by omega)
  show IntKind.u32.wrap ((BitVec.ofInt 32 (a : Int) ^^^ BitVec.ofInt 32 (b : Int)).toNat : Int) = _
  rw [BitVec.toNat_xor, h1, h2, wrap32]
  omega
theorem and32 (a b : Nat) (ha : a < 4294967296) (hb : b < 4294967296) : bits .and .u32 (a : Int) (b : Int) = ((a &&& b : Nat) : Int) := by
  have hx : a &&& b < 2 ^ 32 := Nat.and_lt_two_pow _ (by omega)
  have h1 : (BitVec.ofInt 32 (a : Int)).toNat = a := by
    rw [BitVec.ofInt_natCast, BitVec.toNat_ofNat]; exact Nat.mod_eq_of_lt (by omega)
  have h2 : (BitVec.ofInt 32 (b : Int)).toNat = b := by
    rw [BitVec.ofInt_natCast, BitVec.toNat_ofNat]; exact Nat.mod_eq_of_lt (by omega)
  show IntKind.u32.wrap ((BitVec.ofInt 32 (a : Int) &&& BitVec.ofInt 32 (b : Int)).toNat : Int) = _
  rw [BitVec.toNat_and, h1, h2, wrap32]
  omega
theorem not32 (m : Nat) (h : m < 4294967296) : 4294967295 ^^^ m = 4294967295 - m := by
  have h1 : (BitVec.ofNat 32 4294967295 ^^^ BitVec.ofNat 32 m) = ~~~ (BitVec.ofNat 32 m) := by
    have : BitVec.ofNat 32 4294967295 = BitVec.allOnes 32 := by decide
    rw [this, BitVec.allOnes_xor]
  have h2 := congrArg BitVec.toNat h1
  simp [BitVec.toNat_not] at h2
  rw [Nat.mod_eq_of_lt h] at h2
  omega
theorem step_bits (z : Nat) (hz : z < 4294967296) : bits BinOp.xor IntKind.u32 ((z : Int) / 2) (bits BinOp.and IntKind.u32 3988292384 (-bits BinOp.and IntKind.u32 (z : Int) 1 % 4294967296)) = ((crcStep z : Nat) : Int) := by
  have h1 : bits BinOp.and IntKind.u32 (z : Int) 1 = ((z % 2 : Nat) : Int) := by
    rw [show (1 : Int) = ((1 : Nat) : Int) from rfl, and32 z 1 hz (by omega), Nat.and_one_is_mod]
  have h2 : ((z : Int) / 2) = ((z / 2 : Nat) : Int) := by omega
  rw [h1, h2]
  unfold crcStep
  rcases (by omega : z % 2 = 0 ∨ z % 2 = 1) with h | h
  · rw [h, if_neg (by omega), show (-((0 : Nat) : Int) % 4294967296) = ((0 : Nat) : Int) by decide, show (3988292384 : Int) = ((3988292384 : Nat) : Int) from rfl, and32 _ _ (by omega) (by omega), Nat.and_zero, xor32 _ _ (by omega) (by omega), Nat.xor_zero]
  · rw [h, if_pos rfl, show (-((1 : Nat) : Int) % 4294967296) = ((4294967295 : Nat) : Int) by decide, show (3988292384 : Int) = ((3988292384 : Nat) : Int) from rfl, and32 _ _ (by omega) (by omega), show 3988292384 &&& 4294967295 = 3988292384 by decide, xor32 _ _ (by omega) (by omega)]
set_option maxRecDepth 100000 in
set_option maxHeartbeats 800000 in
theorem crc_any (x : Nat) (hx : x < 4294967296) (A : Option Addr) (n c : Nat) (l : List UInt8) (w : World) (hS : Sl w 1 (.slice A n c) (B8 l)) :
    Calls Try.prog 108 #[.int .u32 x, .slice A n c] w fun e w' => e = .returned (.int .u32 (crcL x l)) ∧ w' = w := by
  obtain ⟨hn, hnc, hc⟩ := hS.len
  go_enter Try.func108, Try.ntmps108
  go_wp2_with fail
  go_loopw [0, 9] (fun v i wr => ∃ k : Nat, k ≤ n ∧ i = .int .i64 k ∧ v = .int .u32 (crcL x (l.take k)) ∧ wr = w) (fun _ i _ => n - (intOf i).toNat)
  case atStart => exact ⟨0, Nat.zero_le _, rfl, by simp [crcL], rfl⟩
  case round =>
    obtain ⟨k, hk, rfl, rfl, rfl⟩ := hrel
    have hm := crcL_lt hx (l.take k)
    by_cases hkn : k < n
    · have HC := hid (crcL_more x l k (by omega))
      obtain ⟨b, off, rfl, hb, hcell⟩ := hS.byte hkn
      have hby := byt_lt l k
      generalize byt l k = y at *
      generalize crcL x (l.take k) = m at *
      go_wp2_with fail
      go_loopw [0, 17] (fun v i wr2 => ∃ j : Nat, j ≤ 8 ∧ i = .int .i64 j ∧ v = .int .u32 (crcN j (m ^^^ y)) ∧ wr2 = wr) (fun _ i _ => 8 - (intOf i).toNat)
      case atStart => exact ⟨0, Nat.zero_le _, rfl, by rw [xor32 m y hm (by omega)] <;> rfl, rfl⟩
      case round =>
        obtain ⟨j, hj, rfl, rfl, rfl⟩ := hrel
        have hz := crcN_lt (Nat.xor_lt_two_pow (n := 32) hm (by omega : y < 2 ^ 32)) j
        by_cases hj8 : j < 8
        · have HN : Hid (crcN (j + 1) (m ^^^ y) = crcStep (crcN j (m ^^^ y))) := hid rfl
          generalize crcN j (m ^^^ y) = z at *
          go_wp2_with fail
          go_light
          exact ⟨⟨j + 1, by omega, by go_num, by rw [HN.out, step_bits z hz], trivial⟩, by simp [intOf]; omega⟩
        · obtain rfl : j = 8 := by omega
          go_wp2_with fail
          go_light
          exact ⟨⟨k + 1, by omega, by go_num, by rw [HC.out, crcB], trivial⟩, by simp [intOf]; omega⟩
    · obtain rfl : k = n := by omega
      go_wp2_with fail
      go_ret
      rw [List.take_of_length_le (by omega)]
      exact ⟨rfl, rfl⟩
set_option maxRecDepth 100000 in
set_option maxHeartbeats 800000 in
theorem Crc_any (A : Option Addr) (n c : Nat) (l : List UInt8) (w : World) (hS : Sl w 1 (.slice A n c) (B8 l)) :
    Calls Try.prog 56 #[.slice A n c] w fun e w' => e = .returned (.int .u32 (crcOf l)) ∧ w' = w := by
  have hz := crcL_lt (n := 4294967295) (by omega) l
  obtain ⟨cz, hcz⟩ : ∃ cz, crcOf l = cz := ⟨_, rfl⟩
  have ec : bits BinOp.xor IntKind.u32 IntKind.u32.max ((crcL 4294967295 l : Nat) : Int) = (cz : Int) := by
    rw [← hcz, show IntKind.u32.max = ((4294967295 : Nat) : Int) from rfl, xor32 _ _ (by omega) hz, not32 _ hz]
    rfl
  rw [hcz]
  have hz2 : cz < 4294967296 := by rw [← hcz]; unfold crcOf; omega
  clear hcz
  go_enter Try.func56, Try.ntmps56
  go_wp2_with fail
  refine (crc_any 4294967295 (by omega) A n c l w hS).mono ?_
  rintro e w' ⟨rfl, rfl⟩
  generalize crcL 4294967295 l = z at *
  go_wp2_with fail
  go_ret
  exact ⟨rfl, rfl⟩
def takesN (n : Nat) : Nat := (n + 82) / 64
set_option maxRecDepth 100000 in
set_option maxHeartbeats 800000 in
theorem takes_any (n : Nat) (hn : n ≤ 1099511627776) (w : World) :
    Calls Try.prog 58 #[.int .i64 n] w fun e w' => e = .returned (.int .i64 (takesN n)) ∧ w' = w := by
  go_enter Try.func58, Try.ntmps58
  go_wp2_with fail
  go_ret
  exact ⟨ret_int (by unfold takesN; omega), rfl⟩
def getN (l : List UInt8) : Nat := l.foldl (fun m c => (m * 256 + c.toNat) % 18446744073709551616) 0
theorem getN_lt (l : List UInt8) : getN l < 18446744073709551616 := by
  unfold getN
  have : ∀ (l : List UInt8) (m : Nat), m < 18446744073709551616 → l.foldl (fun m c => (m * 256 + c.toNat) % 18446744073709551616) m < 18446744073709551616 := by
    intro l
    induction l with
    | nil => intro m h; exact h
    | cons c l ih => intro m h; exact ih _ (Nat.mod_lt _ (by omega))
  exact this l 0 (by omega)
theorem getN_more (l : List UInt8) (k : Nat) (h : k < l.length) : getN (l.take (k + 1)) = (getN (l.take k) * 256 + byt l k) % 18446744073709551616 := by
  unfold getN byt
  rw [List.take_add_one, List.getElem?_eq_getElem h, Option.toList_some, List.foldl_append]
  simp [List.getD_eq_getElem?_getD, List.getElem?_eq_getElem h]
set_option maxRecDepth 100000 in
set_option maxHeartbeats 800000 in
theorem get_any (A : Option Addr) (n c : Nat) (l : List UInt8) (w : World) (hS : Sl w 1 (.slice A n c) (B8 l)) :
    Calls Try.prog 154 #[.slice A n c] w fun e w' => e = .returned (.int .u64 (getN l)) ∧ w' = w := by
  obtain ⟨hn, hnc, hc⟩ := hS.len
  go_enter Try.func154, Try.ntmps154
  go_wp2_with fail
  go_loopw [3, 8] (fun v i wr => ∃ k : Nat, k ≤ n ∧ i = .int .i64 k ∧ v = .int .u64 (getN (l.take k)) ∧ wr = w) (fun _ i _ => n - (intOf i).toNat)
  case atStart => exact ⟨0, Nat.zero_le _, rfl, by simp [getN], rfl⟩
  case round =>
    obtain ⟨k, hk, rfl, rfl, rfl⟩ := hrel
    have hm := getN_lt (l.take k)
    by_cases hkn : k < n
    · have HC := hid (getN_more l k (by omega))
      obtain ⟨b, off, rfl, hb, hcell⟩ := hS.byte hkn
      have hby := byt_lt l k
      generalize byt l k = y at *
      generalize getN (l.take k) = m at *
      go_wp2_with fail
      go_light
      exact ⟨⟨k + 1, by omega, by go_num, by rw [HC.out, IntKind.wrap_u64, IntKind.wrap_u64]; exact congrArg _ (by omega), trivial⟩, by simp [intOf]; omega⟩
    · obtain rfl : k = n := by omega
      go_wp2_with fail
      go_ret
      rw [List.take_of_length_le (by omega)]
      exact ⟨rfl, rfl⟩
set_option maxRecDepth 100000 in
set_option maxHeartbeats 800000 in
theorem numJ_any (base n c size : Nat) (A : Option Addr) (l : List UInt8) (x : Nat) (w : World) (hown : w.ownsRow base 5 1 (.slice A n c) n (B8 l)) (hb : base ≤ w.heap.size)
    (hx : x < 18446744073709551616) (hs : size ≤ 8) (hn : n ≤ 1099511627776) :
    Calls Try.prog 155 #[.slice A n c, .int .u64 x, .int .i64 size] w fun e w' => ∃ A' c', e = .returned (.slice A' (n + size) c') ∧
      w'.ownsRow base 5 1 (.slice A' (n + size) c') (n + size) (B8 (l ++ be size x)) ∧ w.grownBy w' (Value.ownBlock (.slice A n c)) ∧ From w (Value.ownBlock (.slice A n c)) (Value.ownBlock (.slice A' (n + size) c')) := by
  go_enter Try.func155, Try.ntmps155
  go_wp2_with fail
  go_loopw [0, 7] (fun v i wr => ∃ (j : Nat) (A' : Option Addr) (c' : Nat), j ≤ size ∧ i = .int .i64 (8 * ((size : Int) - 1 - j)) ∧ v = .slice A' (n + j) c' ∧
      wr.ownsRow base 5 1 (.slice A' (n + j) c') (n + j) (B8 (l ++ (be size x).take j)) ∧ w.grownBy wr (Value.ownBlock (.slice A n c)) ∧
      From w (Value.ownBlock (.slice A n c)) (Value.ownBlock (.slice A' (n + j) c')))
    (fun _ i _ => (intOf i + 8).toNat)
  case atStart => exact ⟨0, A, c, Nat.zero_le _, by simp, rfl, by simpa using hown, World.grownBy.refl _ _, From.refl _ _⟩
  case round =>
    obtain ⟨j, A', c', hj, rfl, rfl, hownr, hgr, hblk⟩ := hrel
    by_cases hlt : j < size
    · have hsl : Sl (wr.alloc (.cells #[.int .u8 ((x : Int) / 2 ^ (8 * (size - 1 - j)) % 256)] 5)) 1 (.slice (some ⟨wr.heap.size, 0, none⟩) 1 1) (B8 [UInt8.ofNat (x / 2 ^ (8 * (size - 1 - j)) % 256)]) := by
        refine sl_new _ _ _ _ _ _ rfl ?_ rfl (by simp)
        simp [B8]
      have HT := hid (be_take_succ size x j hlt)
      have hsz := hgr.size
      have e8 : 8 * ((size : Int) - 1 - j) = ((8 * (size - 1 - j) : Nat) : Int) := by omega
      rw [e8]
      go_wp2_with (at_builtin; refine wpList_app rfl (.tmp 15) (.tmp 20) st_bytes rfl base rfl (hownr.alloc _) rfl hsl (B8_one _) (by simp [maxLen]; omega) (by omega) (by simp; omega) ?_)
      intro A3 c3 w3 hown3 hg3 hf3
      rw [← B8_append, List.append_assoc] at hown3
      go_wp2_with fail
      go_light
      have hg4 : wr.grownBy w3 (Value.ownBlock (.slice A' (n + j) c')) := grown_trans (World.grownBy_alloc wr _ _) (From.refl _ _) hg3
      have hf4 : From wr (Value.ownBlock (.slice A' (n + j) c')) (Value.ownBlock (.slice A3 (n + j + 1) c3)) := by
        rcases hf3 with h | h
        · exact .inl h
        · exact .inr ⟨_, h, by omega⟩
      refine ⟨⟨j + 1, A3, c3, by omega, by go_num, rfl, ?_, grown_trans hgr hblk hg4, hblk.trans hsz hf4⟩, by simp [intOf]; omega⟩
      rw [HT.out]
      exact hown3
    · obtain rfl : j = size := by omega
      go_wp2_with fail
      go_ret
      refine ⟨A', c', rfl, ?_, hgr, hblk⟩
      rw [List.take_of_length_le (by rw [be_length]; omega)] at hownr
      exact hownr
end Go.Proofs.Ytfhlidlmipleaaa
namespace Go.Proofs.Ytfhlidlmipleaaa
set_option linter.unusedVariables false
set_option linter.unusedSimpArgs false
open Go Go.RowKit

theorem str_cells (l : List UInt8) : Go.Lib.strCells (S8 l) = B8 l := rfl
theorem S8_len (l : List UInt8) : (S8 l).size = l.length := by show l.toArray.size = _; simp
/-- append of a string onto a row of bytes -/
theorem app_str {P : Program} (w : World) {t u e : TypeId} {i : TypeInfo} (ty : TypeId) (ht : P.underlying t = some (.slice e)) (hu : P.underlying u = some .string) (hi : P.info? e = some i) (hz : i.zero = some (.int .u8 0)) (hs1 : i.size = 1) (hby : i.bytes = 1)
    (base n c : Nat) (A : Option Addr) (xs : List Value) (hown : w.ownsRow base e 1 (.slice A n c) n xs) (s : List UInt8) (hb : n + s.length ≤ 140737488355328) (hbase : base ≤ w.heap.size) :
    ∃ A' c' w', (Builtin.append_ #[t, u] ty #[.slice A n c, .string (S8 s)]).run P w = .ok (.slice A' (n + s.length) c') w' ∧
      w'.ownsRow base e 1 (.slice A' (n + s.length) c') (n + s.length) (xs ++ B8 s) ∧ w.grownBy w' (Value.ownBlock (.slice A n c)) ∧
      (Value.ownBlock (.slice A' (n + s.length) c') = Value.ownBlock (.slice A n c) ∨ Value.ownBlock (.slice A' (n + s.length) c') = some w.heap.size) := by
  have hS := S8_len s
  obtain ⟨v', w', hr, h2, h3, h4⟩ := Go.Lib.run_append_own_string (P := P) w base t u ty e i ht hu hi hz hs1 hby (.slice A n c) n xs hown (S8 s) (by simp [maxLen]; omega) (by omega) hbase
  rw [hS, str_cells] at h2
  have hxl : xs.length = n := by simpa using hown.1
  rcases hown.2 with ⟨hv, rfl⟩ | ⟨g, cap, cur, hv, hbg, hg, hnc, hcm, hcs, htake⟩
  · injection hv with e1 e2 e3
    subst e1; subst e3
    by_cases hm : s.length = 0
    · obtain rfl := h4.2 ⟨rfl, by omega⟩
      obtain rfl : s = [] := List.eq_nil_of_length_eq_zero hm
      exact ⟨none, 0, w', hr, h2, h3, .inl rfl⟩
    · have hr2 := run_append_nil_string (P := P) w t u ty e i (.int .u8 0) ht hu hi hz (S8 s) (by omega) (by omega) (by rw [hby]; omega)
      rw [hr] at hr2
      injection hr2 with e1 e2
      subst e1
      refine ⟨_, _, w', by rw [hr, hS, Nat.zero_add], by simpa [hS] using h2, h3, .inr ?_⟩
      simp [Value.ownBlock]
  · injection hv with e1 e2 e3
    subst e1; subst e3
    by_cases hroom : n + s.length ≤ c
    · have hcs' : cur.size = c := by simpa using hcs
      have hr2 := Go.Lib.run_append_room_string (P := P) w t u ty e i ht hu hi hs1 g n c cur hg (S8 s) (by omega) (by omega)
      rw [hr] at hr2
      injection hr2 with e1 e2
      subst e1
      exact ⟨_, _, w', by rw [hr, hS], by simpa [hS] using h2, h3, .inl rfl⟩
    · have holds : ∀ j u, xs[j]? = some u → w.cell? ((⟨g, 0, none⟩ : Addr).add j) = some u := hown.cells (g := g) rfl
      have hr2 := Go.Lib.run_append_grow_string (P := P) w t u ty e i (.int .u8 0) ht hu hi hz ⟨g, 0, none⟩ n c xs (by rw [hs1]; simpa using hxl) holds (S8 s) (by omega) (by omega) (by rw [hby]; exact growslice_fits (by omega) (by omega))
      rw [hr] at hr2
      injection hr2 with e1 e2
      subst e1
      refine ⟨_, _, w', by rw [hr, hS], by simpa [hS] using h2, h3, .inr ?_⟩
      simp [Value.ownBlock]
theorem zero_cells (k : Nat) : Builtin.zeroCells (Value.int .u8 0).cells k = (B8 (List.replicate k 0)).toArray := by
  apply Array.ext'
  apply List.ext_getElem
  · simp [Builtin.zeroCells, Value.cells, B8]
  · intro i h1 h2
    simp [Builtin.zeroCells, Value.cells, B8] at h1 ⊢
    simp [Nat.mod_one]
/-- append of zeros is append of a string of zeros -/
theorem app_zeros_eq {P : Program} (w : World) {t u ti e : TypeId} {i : TypeInfo} (ty : TypeId) (ht : P.underlying t = some (.slice e)) (hu : P.underlying u = some .string) (hti : P.underlying ti = some (.int .i64)) (hi : P.info? e = some i) (hz : i.zero = some (.int .u8 0)) (hs1 : i.size = 1) (hby : i.bytes = 1)
    (n c : Nat) (A : Option Addr) (k : Nat) (hnc : n ≤ c) (olds : Array Value) (hold : (Builtin.firstCells 1 n (.slice A n c)).run P w.drew = .ok olds w.drew) (hk : n + k ≤ 140737488355328) :
    (Builtin.append_ #[t, ti] ty #[.slice A n c, .int .i64 k]).run P w = (Builtin.append_ #[t, u] ty #[.slice A n c, .string (S8 (List.replicate k 0))]).run P w := by
  have hw : IntKind.i64.wrap (k : Int) = k := by rw [IntKind.wrap_i64]; omega
  have hneg : ¬ ((k : Int) < 0) := by omega
  have h48i : ¬ (281474976710656 < (k : Int)) := by omega
  have h63' : ¬ (9223372036854775807 < ((n : Int) + (k : Int))) := by omega
  have hf : ∀ w' : World, (Builtin.firstCells 1 k (.string (S8 (List.replicate k 0)))).run P w' = .ok (B8 (List.replicate k 0)).toArray w' := by
    intro w'
    have h := Go.Lib.run_firstCells_string (P := P) w' 1 (S8 (List.replicate k 0))
    rw [S8_len, List.length_replicate, str_cells] at h
    exact h
  have hgr : c < n + k → ¬ (281474976710656 < Builtin.nextslicecap (n + k) c) := fun h => by
    have := nextslicecap_le h
    omega
  rcases Nat.eq_zero_or_pos k with rfl | h0
  · have hw0 : IntKind.i64.wrap 0 = 0 := by decide
    have := hf w
    simp [B8] at this
    rcases A with _ | ad <;> simp [Builtin.append_, run_underlying ht, run_underlying hu, run_underlying hti, sizeOf, typeInfo, zeroValue, hi, hz, asInt, asIntOf, hw0, hs1, hby, Builtin.lenOf, S8_len, hnc, B8, this]
  · have hk0 : k ≠ 0 := by omega
    by_cases hroom : n + k ≤ c
    · have := hf w
      rcases A with _ | ad <;> simp [Builtin.append_, run_underlying ht, run_underlying hu, run_underlying hti, sizeOf, typeInfo, zeroValue, hi, hz, asInt, asIntOf, hw, hs1, hby, Builtin.lenOf, S8_len, hroom, this, hneg, h48i, hk0, zero_cells]
    · have hnc2 := hgr (by omega)
      have := hf w.drew
      simp [Builtin.append_, run_underlying ht, run_underlying hu, run_underlying hti, sizeOf, typeInfo, zeroValue, hi, hz, asInt, asIntOf, hw, hs1, hby, Builtin.lenOf, S8_len, hroom, this, hneg, h48i, h63', hnc2, hk0, zero_cells, Question.forced, hold]
theorem own_first {P : Program} {w : World} {base n c : Nat} {A : Option Addr} {e : TypeId} {xs : List Value} (hown : w.ownsRow base e 1 (.slice A n c) n xs) : n ≤ c ∧ ∃ olds : Array Value, (Builtin.firstCells 1 n (.slice A n c)).run P w.drew = .ok olds w.drew := by
  have hxl : xs.length = n := by simpa using hown.1
  rcases hown.2 with ⟨hv, rfl⟩ | ⟨g, cap, cur, hv, hbg, hg, hnc, hcm, hcs, htake⟩
  · injection hv with e1 e2 e3
    subst e1; subst e3
    exact ⟨Nat.le_refl _, _, run_firstCells_none w.drew 1 0 0 0⟩
  · injection hv with e1 e2 e3
    subst e1; subst e3
    exact ⟨hnc, _, run_firstCells_some (P := P) w.drew 1 n ⟨g, 0, none⟩ n c xs (by omega) (by simpa using hown.cells (g := g) rfl)⟩
theorem app_zeros {P : Program} (w : World) {t u ti e : TypeId} {i : TypeInfo} (ty : TypeId) (ht : P.underlying t = some (.slice e)) (hu : P.underlying u = some .string) (hti : P.underlying ti = some (.int .i64)) (hi : P.info? e = some i) (hz : i.zero = some (.int .u8 0)) (hs1 : i.size = 1) (hby : i.bytes = 1)
    (base n c : Nat) (A : Option Addr) (xs : List Value) (hown : w.ownsRow base e 1 (.slice A n c) n xs) (k : Nat) (hb : n + k ≤ 140737488355328) (hbase : base ≤ w.heap.size) :
    ∃ A' c' w', (Builtin.append_ #[t, ti] ty #[.slice A n c, .int .i64 k]).run P w = .ok (.slice A' (n + k) c') w' ∧
      w'.ownsRow base e 1 (.slice A' (n + k) c') (n + k) (xs ++ B8 (List.replicate k 0)) ∧ w.grownBy w' (Value.ownBlock (.slice A n c)) ∧
      (Value.ownBlock (.slice A' (n + k) c') = Value.ownBlock (.slice A n c) ∨ Value.ownBlock (.slice A' (n + k) c') = some w.heap.size) := by
  obtain ⟨hnc, olds, hold⟩ := own_first (P := P) hown
  rw [app_zeros_eq w ty ht hu hti hi hz hs1 hby n c A k hnc olds hold hb]
  have h := app_str w ty ht hu hi hz hs1 hby base n c A xs hown (List.replicate k 0) (by simpa using hb) hbase
  simp only [List.length_replicate] at h
  exact h
/-- the two as operations of a walk -/
theorem wpList_app_str {P : Program} {w : World} {ops : Array Oper} {rest : List Oper} {o : Oper} {a : Act} {Q : Exit → Act → World → Prop} (hgd : o.guard = none) (s x : Operand)
    {t u e : TypeId} (hT : ST P t e 1 1) (hz0 : (P.info? e).map (fun i => i.zero) = some (some (.int .u8 0))) (hu : P.underlying u = some .string) (ho : o.op = .call { callee := .builtin .append, args := #[s, x], argTypes := #[t, u] })
    (base : Nat) {n c : Nat} {A : Option Addr} {xs : List Value} (hs : a.eval s = .slice A n c) (hown : w.ownsRow base e 1 (.slice A n c) n xs)
    (l : List UInt8) (hx : a.eval x = .string (S8 l)) (hby : n + l.length ≤ 140737488355328) (hbase : base ≤ w.heap.size)
    (h : ∀ A' c' w', w'.ownsRow base e 1 (.slice A' (n + l.length) c') (n + l.length) (xs ++ B8 l) → w.grownBy w' (Value.ownBlock (.slice A n c)) →
      (Value.ownBlock (.slice A' (n + l.length) c') = Value.ownBlock (.slice A n c) ∨ Value.ownBlock (.slice A' (n + l.length) c') = some w.heap.size) →
      wpList P ops Q rest (a.put o.dst (.slice A' (n + l.length) c')) w') : wpList P ops Q (o :: rest) a w := by
  obtain ⟨ht, _, i, z, hi, hz, hs1, hb1, _⟩ := hT
  have hzz : i.zero = some (.int .u8 0) := by rw [hi] at hz0; simpa using hz0
  obtain ⟨A', c', w', hrun, h2, h3, h4⟩ := app_str (P := P) w o.type ht hu hi hzz hs1 hb1 base n c A xs hown l hby hbase
  refine wpList_plain hgd fun _ hK => ?_
  unfold Oper.wp execOp
  simp only [ho, resolve, invoke, builtin, Sem.run_bind, Sem.run_pure, Result.andThen_ok, List.map_toArray, List.map_cons, List.map_nil, hs, hx, hrun]
  exact hK _ _ (h A' c' w' h2 h3 h4)
theorem wpList_app_zeros {P : Program} {w : World} {ops : Array Oper} {rest : List Oper} {o : Oper} {a : Act} {Q : Exit → Act → World → Prop} (hgd : o.guard = none) (s x : Operand)
    {t u ti e : TypeId} (hT : ST P t e 1 1) (hz0 : (P.info? e).map (fun i => i.zero) = some (some (.int .u8 0))) (hu : P.underlying u = some .string) (hti : P.underlying ti = some (.int .i64)) (ho : o.op = .call { callee := .builtin .append, args := #[s, x], argTypes := #[t, ti] })
    (base : Nat) {n c : Nat} {A : Option Addr} {xs : List Value} (hs : a.eval s = .slice A n c) (hown : w.ownsRow base e 1 (.slice A n c) n xs)
    (k : Nat) (hx : a.eval x = .int .i64 k) (hby : n + k ≤ 140737488355328) (hbase : base ≤ w.heap.size)
    (h : ∀ A' c' w', w'.ownsRow base e 1 (.slice A' (n + k) c') (n + k) (xs ++ B8 (List.replicate k 0)) → w.grownBy w' (Value.ownBlock (.slice A n c)) →
      (Value.ownBlock (.slice A' (n + k) c') = Value.ownBlock (.slice A n c) ∨ Value.ownBlock (.slice A' (n + k) c') = some w.heap.size) →
      wpList P ops Q rest (a.put o.dst (.slice A' (n + k) c')) w') : wpList P ops Q (o :: rest) a w := by
  obtain ⟨ht, _, i, z, hi, hz, hs1, hb1, _⟩ := hT
  have hzz : i.zero = some (.int .u8 0) := by rw [hi] at hz0; simpa using hz0
  obtain ⟨A', c', w', hrun, h2, h3, h4⟩ := app_zeros (P := P) w o.type ht hu hti hi hzz hs1 hb1 base n c A xs hown k hby hbase
  refine wpList_plain hgd fun _ hK => ?_
  unfold Oper.wp execOp
  simp only [ho, resolve, invoke, builtin, Sem.run_bind, Sem.run_pure, Result.andThen_ok, List.map_toArray, List.map_cons, List.map_nil, hs, hx, hrun]
  exact hK _ _ (h A' c' w' h2 h3 h4)
end Go.Proofs.Ytfhlidlmipleaaa
namespace Go.Proofs.Ytfhlidlmipleaaa
set_option linter.unusedVariables false
set_option linter.unusedSimpArgs false
open Go Go.RowKit LM

def slotB (gen half : Nat) : List UInt8 := [87, 65, 89, 83] ++ be 8 gen ++ [UInt8.ofNat half] ++ List.replicate 47 0
def slotJ (gen half : Nat) : List UInt8 := slotB gen half ++ be 4 (crcOf (slotB gen half))
theorem slotB_len (gen half : Nat) : (slotB gen half).length = 60 := by simp [slotB, be_length]
theorem slotJ_len (gen half : Nat) : (slotJ gen half).length = 64 := by simp [slotJ, slotB_len, be_length]
theorem crcOf_lt (l : List UInt8) : crcOf l < 4294967296 := by unfold crcOf; omega
theorem info_u8 : (Try.prog.info? 5).map (fun i => i.zero) = some (some (.int .u8 0)) := by kernel_rfl
theorem und_str : Try.prog.underlying 9 = some .string := by kernel_rfl
theorem und_int : Try.prog.underlying 3 = some (.int .i64) := by kernel_rfl
theorem mk0 (w : World) (c : Nat) (hc : c ≤ 1099511627776) : ∃ w1, (Instr.makeSlice 27 (.int .i64 0) (.int .i64 (c : Int))).run Try.prog w = .ok (.slice (some ⟨w.heap.size, 0, none⟩) 0 c) w1 ∧ w1.ownsRow w.heap.size 5 1 (.slice (some ⟨w.heap.size, 0, none⟩) 0 c) 0 (B8 []) ∧ w.grownBy w1 none := by
  obtain ⟨ht, _, i, z, hi, hz, hsi, hby, hzs⟩ := st_bytes
  exact run_make_own (P := Try.prog) w w.heap.size 27 5 i z 1 ht hi hz hsi .i64 .i64 c (by rw [hby]; omega) (by simp [maxLen]; omega) (Nat.le_refl _)
theorem grown_none_below {w w' : World} (h : w.grownBy w' none) : Below w.heap.size w w' := (Below.refl _ _).grown h (Nat.le_refl _) (by intro k hk; cases hk)
set_option maxRecDepth 100000 in
set_option maxHeartbeats 800000 in
theorem slot_any (gen half : Nat) (w : World) (hg : gen < 18446744073709551616) (hh : half < 256) :
    Calls Try.prog 112 #[.int .u64 gen, .int .i64 half] w fun e w' => ∃ A c, e = .returned (.slice A 64 c) ∧ w'.ownsRow w.heap.size 5 1 (.slice A 64 c) 64 (B8 (slotJ gen half)) ∧ Below w.heap.size w w' := by
  obtain ⟨w1, hm0, hown, hgr⟩ := mk0 w 64 (by omega)
  have hm : (Instr.makeSlice 27 (.int .i64 0) (.int .i64 64)).run Try.prog w = .ok (.slice (some ⟨w.heap.size, 0, none⟩) 0 64) w1 := hm0
  clear hm0
  have hz1 := hgr.size
  have HS : Hid ([87, 65, 89, 83] ++ be 8 gen ++ [UInt8.ofNat half] ++ List.replicate 47 0 = slotB gen half) := hid rfl
  have HJ : Hid (slotB gen half ++ be 4 (crcOf (slotB gen half)) = slotJ gen half) := hid rfl
  have hbw := grown_none_below hgr
  generalize hbs : w.heap.size = B at *
  go_enter Try.func112, Try.ntmps112
  go_wp2_with (at_builtin; refine wpList_app_str rfl (.tmp 7) (.const (.string ⟨#[87, 65, 89, 83]⟩)) st_bytes info_u8 und_str rfl B rfl hown [87, 65, 89, 83] rfl (by simp) hz1 ?_)
  intro A2 c2 w2 hown2 hg2 hf2
  have hz2 : B ≤ w2.heap.size := Nat.le_trans hz1 hg2.size
  have hb2 := hbw.trans (grown_below hown hg2 hz1)
  rw [← B8_append, List.nil_append] at hown2
  clear hf2 hg2 hown hgr hm hbw
  go_wp2_with fail
  refine (numJ_any B 4 c2 8 A2 _ gen w2 hown2 hz2 hg (by omega) (by omega)).mono ?_
  rintro e w3 ⟨A3, c3, rfl, hown3, hg3, hf3⟩
  have hz3 : B ≤ w3.heap.size := Nat.le_trans hz2 hg3.size
  have hb3 := hb2.trans (grown_below hown2 hg3 hz2)
  clear hf3 hg3 hown2 hb2
  have hsl : Sl (w3.alloc (.cells #[.int .u8 (half : Int)] 5)) 1 (.slice (some ⟨w3.heap.size, 0, none⟩) 1 1) (B8 [UInt8.ofNat half]) := by
    refine sl_new _ _ _ _ _ _ rfl ?_ rfl (by simp)
    simp [B8]; omega
  have hbb := hb3.alloc hz3 (.cells #[.int .u8 (half : Int)] 5)
  have hzz : B ≤ (w3.alloc (.cells #[.int .u8 (half : Int)] 5)).heap.size := by simp; omega
  have hoo := hown3.alloc (.cells #[.int .u8 (half : Int)] 5)
  go_wp2_with (at_builtin; refine wpList_app rfl (.tmp 10) (.tmp 13) st_bytes rfl B rfl hoo rfl hsl (B8_one _) (by simp [maxLen]) (by omega) (by simp; omega) ?_)
  intro A4 c4 w4 hown4 hg4 hf4
  have hb4 := hbb.trans (grown_below hoo hg4 hzz)
  rw [← B8_append] at hown4
  clear hsl hoo hbb hown3 hb3 hg4 hf4
  have hz4 : B ≤ w4.heap.size := by rw [← hbs]; exact hb4.size
  go_wp2_with (at_builtin; refine wpList_app_zeros rfl (.tmp 15) (.tmp 18) st_bytes info_u8 und_str und_int rfl B rfl hown4 47 rfl (by omega) hz4 ?_)
  intro A5 c5 w5 hown5 hg5 hf5
  have hb5 := hb4.trans (grown_below hown4 hg5 hz4)
  have hz5 : B ≤ w5.heap.size := by rw [← hbs]; exact hb5.size
  rw [← B8_append] at hown5
  replace hown5 : w5.ownsRow B 5 1 (.slice A5 60 c5) 60 (B8 (slotB gen half)) := hown5
  clear hown4 hb4 hg5 hf5
  go_wp2_with fail
  refine (Crc_any A5 _ c5 _ w5 (own_sl hown5)).mono ?_
  rintro e w6 ⟨rfl, rfl⟩
  have hcl := crcOf_lt (slotB gen half)
  have HJ2 : Hid (slotB gen half ++ be 4 (crcOf (slotB gen half)) = slotJ gen half) := hid rfl
  generalize crcOf (slotB gen half) = cr at *
  go_wp2_with fail
  refine (numJ_any B 60 c5 4 A5 _ cr w6 hown5 hz5 (by omega) (by omega) (by omega)).mono ?_
  rintro e w7 ⟨A7, c7, rfl, hown7, hg7, hf7⟩
  have hb7 := hb5.trans (grown_below hown5 hg7 hz5)
  rw [HJ2.out] at hown7
  clear hf7 hg7 hown5 hb5
  go_wp2_with fail
  go_ret
  exact ⟨A7, c7, rfl, hown7, hb7⟩
end Go.Proofs.Ytfhlidlmipleaaa
namespace Go.Proofs.Ytfhlidlmipleaaa
set_option linter.unusedVariables false
set_option linter.unusedSimpArgs false
open Go Go.RowKit SM LM

theorem ba_loop (b : ByteArray) (i : Nat) (r : List UInt8) (hi : i ≤ b.data.toList.length) : ByteArray.toList.loop b i r = r.reverse ++ b.data.toList.drop i := by
  have hs : b.size = b.data.toList.length := Array.length_toList.symm
  generalize hk : b.data.toList.length - i = k
  induction k generalizing i r with
  | zero =>
    unfold ByteArray.toList.loop
    rw [if_neg (by omega), List.drop_of_length_le (by omega)]
    simp
  | succ k ih =>
    unfold ByteArray.toList.loop
    rw [if_pos (by omega), ih (i + 1) _ (by omega) (by omega)]
    have hlt : i < b.data.toList.length := by omega
    rw [List.drop_eq_getElem_cons hlt]
    have hget : b.get! i = b.data.toList[i] := by
      unfold ByteArray.get!
      simp at hlt
      simp [getElem!_pos, hlt]
    simp [hget]
theorem ba_toList (b : ByteArray) : b.toList = b.data.toList := by
  unfold ByteArray.toList
  rw [ba_loop b 0 [] (by omega)]
  simp
theorem S8_toList (l : List UInt8) : (S8 l).toList = l := ba_toList _

set_option maxRecDepth 100000 in
set_option maxHeartbeats 400000 in
theorem bytesEqual_any (A1 : Option Addr) (n1 c1 : Nat) (A2 : Option Addr) (n2 c2 : Nat) (l1 l2 : List UInt8) (w : World) (h1 : Sl w 1 (.slice A1 n1 c1) (B8 l1)) (h2 : Sl w 1 (.slice A2 n2 c2) (B8 l2)) :
    Calls Try.prog 92 #[.slice A1 n1 c1, .slice A2 n2 c2] w fun e w' => e = .returned (.bool (l1 == l2)) ∧ w = w' := by
  have hs1 := bstr h1
  have hs2 := bstr h2
  go_enter Try.func92, Try.ntmps92
  go_wp2_with fail
  go_ret
  refine ⟨ret_bool ?_, rfl⟩
  rw [S8_toList, S8_toList]

/-- a part of a slice of bytes -/
theorem sl_mid {w : World} {b off n c : Nat} {l : List UInt8} (h : Sl w 1 (.slice (some ⟨b, off, none⟩) n c) (B8 l)) (i j : Nat) (hij : i ≤ j) (hj : j ≤ n) (hi : i < n) :
    Sl w 1 (.slice (some ⟨b, off + i, none⟩) (j - i) (c - i)) (B8 ((l.drop i).take (j - i))) := by
  have h1 := sl_drop h i (by omega)
  have hc := h.len.2.1
  rw [if_neg (by omega)] at h1
  simp only [Option.map_some, addr_add] at h1
  exact h1.take (j - i) (by omega)
set_option maxRecDepth 100000 in
set_option maxHeartbeats 400000 in
theorem clone_any (b off n c : Nat) (l : List UInt8) (w : World) (h : Sl w 1 (.slice (some ⟨b, off, none⟩) n c) (B8 l)) (hn : n ≤ 1099511627776) :
    Calls Try.prog 119 #[.slice (some ⟨b, off, none⟩) n c] w fun e w' => ∃ A' c', e = .returned (.slice A' n c') ∧ w'.ownsRow w.heap.size 5 1 (.slice A' n c') n (B8 l) ∧ Below w.heap.size w w' := by
  have hown : (w.alloc (.cells #[] 5)).ownsRow w.heap.size 5 1 (.slice (some ⟨w.heap.size, 0, none⟩) 0 0) 0 [] := own_empty w _ _ _ _ rfl (Nat.le_refl _)
  have hb := (Below.refl w.heap.size w).alloc (Nat.le_refl _) (.cells #[] 5)
  have hz : w.heap.size ≤ (w.alloc (.cells #[] 5)).heap.size := by simp
  have h1 := h.alloc (.cells #[] 5)
  have q22 : ∀ (w : World) (a : Option Addr) (n c n' c' : Nat), (binOp .eql 27 (.slice a n c) (.slice none n' c')).run Try.prog w = .ok (.bool a.isNone) w := fun w a n c n' c' => Lib.run_eql_slice_nil w _ _ a n c n' c' Try.underlying27
  go_enter Try.func119, Try.ntmps119
  go_wp2_with (at_builtin; refine wpList_app rfl (.tmp 5) (.tmp 6) st_bytes rfl w.heap.size rfl hown rfl h1 (B8_one _) (by simp [maxLen]; omega) (by omega) hz ?_)
  intro A2 c2 w2 hown2 hg2 hf2
  have hb2 := hb.trans (grown_below hown hg2 hz)
  go_wp2_with fail
  go_ret
  exact ⟨A2, c2, rfl, hown2, hb2⟩
end Go.Proofs.Ytfhlidlmipleaaa
namespace Go.Proofs.Ytfhlidlmipleaaa
set_option linter.unusedVariables false
set_option linter.unusedSimpArgs false
open Go Go.RowKit LM

set_option maxRecDepth 100000 in
set_option maxHeartbeats 400000 in
theorem able_nil (w : World) : Calls Try.prog 109 #[.pointer none] w fun e w' => e = .returned (.bool false) ∧ w' = w := by
  go_enter Try.func109, Try.ntmps109
  go_wp2_with fail
  go_ret
  exact ⟨rfl, rfl⟩
set_option maxRecDepth 100000 in
set_option maxHeartbeats 400000 in
theorem able_any (base : Nat) (w : World) (D : Dk) (d : Nat) (I : Nat → Prop) (h : Dsk base w D d I) :
    Calls Try.prog 109 #[.pointer (some ⟨d, 0, none⟩)] w fun e w' => e = .returned (.bool (decide (4 ≤ (D.stay.length : Int)))) ∧ w' = w := by
  go_enter Try.func109, Try.ntmps109
  go_wp2_with fail
  refine (dsk_size base w D d I h).mono ?_
  rintro e w' ⟨rfl, rfl⟩
  go_wp2_with fail
  go_ret
  exact ⟨rfl, rfl⟩
def curStep (D : Dk) (i : Nat) (gh : Nat × Nat) : Nat × Nat :=
  if byt (readE D i) 12 < 2 ∧ gh.1 < getN (((readE D i).drop 4).take 8) ∧ getN (((readE D i).drop 4).take 8) % 2 = i ∧ readE D i = slotJ (getN (((readE D i).drop 4).take 8)) (byt (readE D i) 12)
  then (getN (((readE D i).drop 4).take 8), byt (readE D i) 12) else gh
def curN (D : Dk) : Nat → Nat × Nat
  | 0 => (0, 0)
  | i + 1 => curStep D i (curN D i)
theorem curN_lt (D : Dk) (i : Nat) : (curN D i).1 < 18446744073709551616 ∧ (curN D i).2 < 2 := by
  induction i with
  | zero => simp [curN]
  | succ i ih =>
    unfold curN curStep
    split
    · rename_i h
      exact ⟨getN_lt _, h.1⟩
    · exact ih
/-- the error of current; what it tells -/
def curE (D : Dk) : Int := if D.off = true then 2 else 0
def curG (D : Dk) : Nat := if D.off = true then 0 else (curN D 2).1
def curH (D : Dk) : Nat := if D.off = true then 0 else (curN D 2).2
theorem mayE_on {D : Dk} {i : Int} (ho : D.off = false) (h0 : 0 ≤ i) (h1 : i < D.stay.length) : mayE D i = 0 := by
  unfold mayE
  rw [if_neg (by rw [ho]; exact Bool.false_ne_true), if_neg (by omega)]
theorem mayE_off {D : Dk} {i : Int} (ho : D.off = true) : mayE D i = 2 := by
  unfold mayE
  rw [if_pos ho]
theorem lookW_mem {l : List (Int × List UInt8)} {x : Int} {v : List UInt8} (h : lookW l x = some v) : ∃ p ∈ l, p.2 = v := by
  induction l with
  | nil => cases h
  | cons p t ih =>
    unfold lookW at h
    split at h
    · injection h with h
      exact ⟨p, by simp, h⟩
    · obtain ⟨q, h1, h2⟩ := ih h
      exact ⟨q, by simp [h1], h2⟩
theorem readB_len {base : Nat} {w : World} {D : Dk} {d : Nat} {I : Nat → Prop} (h : Dsk base w D d I) (x : Nat) (hx : x < D.stay.length) : (readB D x).length = 64 := by
  obtain ⟨gs, cs, r, Ao, co, h, _⟩ := h
  unfold readB
  cases hl : lookW D.wait x with
  | none =>
    simp only [Option.getD_none]
    rw [List.getD_eq_getElem?_getD, List.getElem?_eq_getElem hx]
    exact h.sec _ (List.getElem_mem hx)
  | some v =>
    obtain ⟨p, hp, rfl⟩ := lookW_mem hl
    exact h.secw p hp
theorem readE_on {D : Dk} {x : Nat} (ho : D.off = false) (h1 : x < D.stay.length) : readE D (x : Int) = readB D x := by
  unfold readE
  rw [if_pos (mayE_on ho (by omega) (by omega))]
  rfl
set_option maxRecDepth 100000 in
set_option maxHeartbeats 1600000 in
theorem current_any (base : Nat) (w : World) (D : Dk) (d : Nat) (I : Nat → Prop) (h : Dsk base w D d I) (hl : 2 ≤ D.stay.length) :
    Calls Try.prog 110 #[.pointer (some ⟨d, 0, none⟩)] w fun e w' => e = .returned (.tuple #[.int .u64 (curG D), .int .i64 (curH D), .int .i64 (curE D)]) ∧ Below w.heap.size w w' := by
  cases ho : D.off with
  | true =>
    have e1 : curG D = 0 := by unfold curG; rw [if_pos ho]
    have e2 : curH D = 0 := by unfold curH; rw [if_pos ho]
    have e3 : curE D = 2 := by unfold curE; rw [if_pos ho]
    rw [e1, e2, e3]
    clear e1 e2 e3
    have hm := mayE_off (i := 0) ho
    go_enter Try.func110, Try.ntmps110
    go_wp2_with fail
    go_loopw [5, 6, 12] (fun v u i wr => v = .int .u64 0 ∧ u = .int .i64 0 ∧ i = .int .i64 0 ∧ wr = w) (fun _ _ i _ => 2 - (intOf i).toNat)
    case atStart => exact ⟨rfl, rfl, rfl, rfl⟩
    case round =>
      obtain ⟨rfl, rfl, rfl, rfl⟩ := hrel
      go_wp2_with fail
      refine (dsk_read base wr D d I 0 h).mono ?_
      rintro e w' ⟨A, n, c, rfl, hs, hb⟩
      rw [hm]
      clear hm
      go_wp2_with fail
      refine bodyPost_ret (v := .tuple #[.int .u64 0, .int .i64 0, .int .i64 2]) (by simp [results, Try.results110, go_sem]) rfl ⟨rfl, hb⟩
  | false =>
    have hn : ¬ D.off = true := by rw [ho]; exact Bool.false_ne_true
    have e1 : curG D = (curN D 2).1 := by unfold curG; rw [if_neg hn]
    have e2 : curH D = (curN D 2).2 := by unfold curH; rw [if_neg hn]
    have e3 : curE D = 0 := by unfold curE; rw [if_neg hn]
    rw [e1, e2, e3]
    clear e1 e2 e3
    go_enter Try.func110, Try.ntmps110
    go_wp2_with fail
    go_loopw [5, 6, 12] (fun v u x wr => ∃ i : Nat, i ≤ 2 ∧ v = .int .u64 (curN D i).1 ∧ u = .int .i64 (curN D i).2 ∧ x = .int .i64 i ∧ Below w.heap.size w wr) (fun _ _ x _ => 2 - (intOf x).toNat)
    case atStart => exact ⟨0, Nat.zero_le _, rfl, rfl, rfl, Below.refl _ _⟩
    case round =>
      obtain ⟨i, hi, rfl, rfl, rfl, hb⟩ := hrel
      have hlt := curN_lt D i
      by_cases hi2 : i < 2
      · have hm := mayE_on (i := (i : Int)) ho (by omega) (by omega)
        have hr := readE_on (x := i) ho (by omega)
        have hlen := readB_len h i (by omega)
        have hD := h.below hb
        have HC0 : Hid (curN D (i + 1) = curStep D i (curN D i)) := hid rfl
        go_wp2_with fail
        refine (dsk_read base wr D d I i hD).mono ?_
        rintro e w' ⟨A, n, c, rfl, hs, hb2⟩
        rw [hm]
        rw [hr] at hs
        have hb3 := hb.trans (hb2.mono hb.size)
        have hn64 := hs.len
        rw [hlen] at hn64
        obtain ⟨rfl, hnc, hcm⟩ := hn64
        obtain ⟨b, off, rfl, hbl, hcell⟩ := hs.byte (k := 12) (by omega)
        have HCS : Hid (curStep D i (curN D i) = if byt (readB D i) 12 < 2 ∧ (curN D i).1 < getN (((readB D i).drop 4).take 8) ∧ getN (((readB D i).drop 4).take 8) % 2 = i ∧ readB D i = slotJ (getN (((readB D i).drop 4).take 8)) (byt (readB D i) 12)
            then (getN (((readB D i).drop 4).take 8), byt (readB D i) 12) else curN D i) := hid (by unfold curStep; rw [hr])
        have hmid := sl_mid hs 4 12 (by omega) (by omega) (by omega)
        clear hm hr hD h hb2 hb
        have hgl := getN_lt (((readB D i).drop 4).take 8)
        have hhl := byt_lt (readB D i) 12
        generalize hgg : getN (((readB D i).drop 4).take 8) = g at *
        generalize byt (readB D i) 12 = hf at *
        generalize readB D i = bb at *
        obtain ⟨gn, gh, hq⟩ : ∃ a b, curN D i = (a, b) := ⟨_, _, rfl⟩
        rw [hq] at HCS hlt HC0
        simp only [hq]
        simp only at hlt HCS
        clear hq
        go_wp2_with fail
        have zc := fun (z : WK (fun _ => False) w') => (wat_cell (p := ⟨b, off + 12, none⟩) hbl (fun e => e) z).trans hcell
        refine wp_region_loud (fun _ => False) [(2, plainL [] (.int .u64 g))] (fun _ => Fact.none) (by kernel_rfl) (by kernel_rfl) (.cons (plainL_ok _ _) .nil) good_nothing sat_none (WX.out ?_)
        repeat (first | (refine wx_quietU (by rfl) (by rfl) (by rfl) (fun K hK => ?_); go_big_quiet_op; refine hK _ ?_; clear hK K) | (refine wx_quietG (by rfl) (by rfl) (by rfl) (by rfl) (by rfl) (fun K hK => ?_); go_big_quiet_op; refine hK _ ?_; clear hK K) | (refine wx_skipG (by rfl) (by rfl) (by rfl) (fun K hK => ?_); go_simp; refine hK _ ?_; clear hK K) | (refine wx_skipN (by rfl) (by rfl) (by rfl) (fun K hK => ?_); go_simp; refine hK _ ?_; clear hK K))
        refine wx_loudU (us := []) (by rfl) (by rfl) (fun S wS hC hS hU => runs_enter (f := 154) (by go_simp <;> rfl) ?_) (fun v hv K hK => ?_)
        · refine (get_any _ 8 (c - 4) _ wS (hmid.below hC.below)).mono ?_
          rintro e w9 ⟨rfl, rfl⟩
          exact ⟨_, rfl, by rw [← hgg]; rfl, Kept.refl _ _, trivial⟩
        obtain rfl := hv; (go_simp; refine hK _ ?_; clear hK K)
        repeat (first | (refine wx_quietU (by rfl) (by rfl) (by rfl) (fun K hK => ?_); go_big_quiet_op; refine hK _ ?_; clear hK K) | (refine wx_quietG (by rfl) (by rfl) (by rfl) (by rfl) (by rfl) (fun K hK => ?_); go_big_quiet_op; refine hK _ ?_; clear hK K) | (refine wx_skipG (by rfl) (by rfl) (by rfl) (fun K hK => ?_); go_simp; refine hK _ ?_; clear hK K) | (refine wx_skipN (by rfl) (by rfl) (by rfl) (fun K hK => ?_); go_simp; refine hK _ ?_; clear hK K))
        refine wx_nil fun w9 hsat => ?_
        have hb9 := sat_below hsat
        have hb4 := hb3.trans (hb9.mono hb3.size)
        have hs9 := hs.below hb9
        clear hsat zc hcell hmid hb3 hb9 hs hgg
        by_cases c1 : hf < 2
        · by_cases c2 : gn < g
          · by_cases c3 : g % 2 = i
            · have q3 : (((g : Int) % 2) == (i : Int)) = true := beq_iff_eq.2 (by omega)
              go_wp2_with fail
              refine (slot_any g hf w9 hgl hhl).mono ?_
              rintro e w10 ⟨A3, ca, rfl, hown, hb10⟩
              have hs10 := hs9.below hb10
              have hb5 := hb4.trans (hb10.mono hb4.size)
              clear hb10 hs9 hb4
              by_cases c4 : bb = slotJ g hf
              · have q4 : (bb == slotJ g hf) = true := beq_iff_eq.2 c4
                have HC : Hid (curN D (i + 1) = (g, hf)) := hid (by rw [HC0.out, HCS.out, if_pos ⟨c1, c2, c3, c4⟩])
                have hsl := own_sl hown
                clear c4 HC0 HCS c3 hown
                generalize slotJ g hf = sl at *
                go_wp2_with fail
                refine (bytesEqual_any _ _ _ _ _ _ bb sl w10 hs10 hsl).mono ?_
                rintro e w11 ⟨rfl, rfl⟩
                rw [q4]
                go_wp2_with fail
                go_light
                exact ⟨⟨i + 1, by omega, by rw [HC.out], by rw [HC.out], by go_num, hb5⟩, by simp [intOf]; omega⟩
              · have q4 : (bb == slotJ g hf) = false := beq_eq_false_iff_ne.2 c4
                have HC : Hid (curN D (i + 1) = (gn, gh)) := hid (by rw [HC0.out, HCS.out, if_neg (fun h => c4 h.2.2.2)])
                have hsl := own_sl hown
                clear c4 HC0 HCS c3 hown
                generalize slotJ g hf = sl at *
                go_wp2_with fail
                refine (bytesEqual_any _ _ _ _ _ _ bb sl w10 hs10 hsl).mono ?_
                rintro e w11 ⟨rfl, rfl⟩
                rw [q4]
                go_wp2_with fail
                go_light
                exact ⟨⟨i + 1, by omega, by rw [HC.out], by rw [HC.out], by go_num, hb5⟩, by simp [intOf]; omega⟩
            · have q3 : (((g : Int) % 2) == (i : Int)) = false := beq_eq_false_iff_ne.2 (fun h => c3 (by omega))
              have HC : Hid (curN D (i + 1) = (gn, gh)) := hid (by rw [HC0.out, HCS.out, if_neg (fun h => c3 h.2.2.1)])
              clear c3 HC0 HCS
              have hb5 := hb4
              go_wp2_with fail
              go_light
              exact ⟨⟨i + 1, by omega, by rw [HC.out], by rw [HC.out], by go_num, hb5⟩, by simp [intOf]; omega⟩
          · have HC : Hid (curN D (i + 1) = (gn, gh)) := hid (by rw [HC0.out, HCS.out, if_neg (fun h => c2 h.2.1)])
            clear HC0 HCS
            have hb5 := hb4
            go_wp2_with fail
            go_light
            exact ⟨⟨i + 1, by omega, by rw [HC.out], by rw [HC.out], by go_num, hb5⟩, by simp [intOf]; omega⟩
        · have HC : Hid (curN D (i + 1) = (gn, gh)) := hid (by rw [HC0.out, HCS.out, if_neg (fun h => c1 h.1)])
          clear HC0 HCS
          have hb5 := hb4
          go_wp2_with fail
          go_light
          exact ⟨⟨i + 1, by omega, by rw [HC.out], by rw [HC.out], by go_num, hb5⟩, by simp [intOf]; omega⟩
      · obtain rfl : i = 2 := by omega
        go_wp2_with fail
        refine bodyPost_ret (v := .tuple #[.int .u64 (curN D 2).1, .int .i64 (curN D 2).2, .int .i64 0]) (by simp [results, Try.results110, go_sem]) rfl ⟨rfl, hb⟩
end Go.Proofs.Ytfhlidlmipleaaa
namespace Go.Proofs.Ytfhlidlmipleaaa
set_option linter.unusedVariables false
set_option linter.unusedSimpArgs false
open Go Go.RowKit LM

theorem st_rows : ST Try.prog 123 27 1 24 := .mk Try.underlying123 (z := .slice none 0 0) (by kernel_rfl) rfl (by omega)
structure Jn where
  gen : Nat
  half : Nat
  all : List (List UInt8)
  used : Nat
  gone : Bool
abbrev jnC (J : Jn) (d : Nat) (Aa : Option Addr) (ca : Nat) : Array Value := #[.pointer (some ⟨d, 0, none⟩), .int .u64 J.gen, .int .i64 J.half, .slice Aa J.all.length ca, .int .i64 J.used, .bool J.gone]
/-- a journal: its block j, its disk's block d, the row of its entries, the entries' blocks E -/
structure JnAt (base : Nat) (w : World) (J : Jn) (j d : Nat) (Aa : Option Addr) (ca : Nat) (vs : List Value) (E : Nat → Prop) : Prop where
  blk : w.heap[j]? = some (.cells (jnC J d Aa ca) 201 (0, 0))
  row : w.ownsRow base 27 1 (.slice Aa J.all.length ca) J.all.length vs
  ent : ∀ k, k < J.all.length → ∃ g off n c, vs[k]? = some (.slice (some ⟨g, off, none⟩) n c) ∧ Sl w 1 (.slice (some ⟨g, off, none⟩) n c) (B8 (J.all.getD k [])) ∧ E g
  ebd : ∀ g, E g → base ≤ g ∧ g < w.heap.size
  jb : base ≤ j
  jr : Value.ownBlock (.slice Aa J.all.length ca) ≠ some j
  je : ¬ E j
  re : ∀ g, Value.ownBlock (.slice Aa J.all.length ca) = some g → ¬ E g
def Jrn (base : Nat) (w : World) (J : Jn) (j d : Nat) (K : Nat → Prop) : Prop := ∃ Aa ca vs E, JnAt base w J j d Aa ca vs E ∧ ∀ b, K b ↔ (b = j ∨ Value.ownBlock (.slice Aa J.all.length ca) = some b ∨ E b)
theorem Jrn.bd {base : Nat} {w : World} {J : Jn} {j d : Nat} {K : Nat → Prop} (h : Jrn base w J j d K) : ∀ b, K b → base ≤ b ∧ b < w.heap.size := by
  obtain ⟨Aa, ca, vs, E, h, hK⟩ := h
  intro b hb
  rcases (hK b).1 hb with rfl | e | e
  · exact ⟨h.jb, (Array.getElem?_eq_some_iff.1 h.blk).1⟩
  · exact h.row.lt b e |> fun x => ⟨x.1, x.2⟩
  · exact h.ebd b e
theorem Jrn.kept {base : Nat} {w w' : World} {J : Jn} {j d : Nat} {K S : Nat → Prop} (h : Jrn base w J j d K) (hk : Kept S w w') (hd : ∀ b, K b → ¬ S b) : Jrn base w' J j d K := by
  obtain ⟨Aa, ca, vs, E, h, hK⟩ := h
  refine ⟨Aa, ca, vs, E, ⟨blk_kept h.blk hk (hd j ((hK j).2 (.inl rfl))), ownsRow_kept h.row hk (fun g hg => hd g ((hK g).2 (.inr (.inl hg)))), fun k hk2 => ?_, fun g hg => ⟨(h.ebd g hg).1, Nat.lt_of_lt_of_le (h.ebd g hg).2 hk.size⟩, h.jb, h.jr, h.je, h.re⟩, hK⟩
  obtain ⟨g, off, n, c, h1, h2, h3⟩ := h.ent k hk2
  exact ⟨g, off, n, c, h1, sl_kept h2 hk (fun ad had => by injection had with had; subst had; exact hd g ((hK g).2 (.inr (.inr h3)))), h3⟩
theorem Jrn.below {base : Nat} {w w' : World} {J : Jn} {j d : Nat} {K : Nat → Prop} (h : Jrn base w J j d K) (hb : Below w.heap.size w w') : Jrn base w' J j d K := h.kept (S := fun _ => False) (Kept.of_below hb) (fun _ _ x => x)
theorem Jrn.mem {base : Nat} {w : World} {J : Jn} {j d : Nat} {K : Nat → Prop} (h : Jrn base w J j d K) : K j := by
  obtain ⟨Aa, ca, vs, E, h, hK⟩ := h
  exact (hK j).2 (.inl rfl)
/-- its own cells -/
theorem Jrn.cells {base : Nat} {w : World} {J : Jn} {j d : Nat} {K : Nat → Prop} (h : Jrn base w J j d K) : ∃ (Aa : Option Addr) (ca : Nat), j < w.heap.size ∧ J.all.length ≤ ca ∧ ca ≤ 9223372036854775807 ∧ w.cell? ⟨j, 0, none⟩ = some (.pointer (some ⟨d, 0, none⟩)) ∧ w.cell? ⟨j, 1, none⟩ = some (.int .u64 J.gen) ∧ w.cell? ⟨j, 2, none⟩ = some (.int .i64 J.half) ∧
    w.cell? ⟨j, 3, none⟩ = some (.slice Aa J.all.length ca) ∧ w.cell? ⟨j, 4, none⟩ = some (.int .i64 J.used) ∧ w.cell? ⟨j, 5, none⟩ = some (.bool J.gone) := by
  obtain ⟨Aa, ca, vs, E, h, hK⟩ := h
  obtain ⟨c, _⟩ := blk_cells h.blk
  have hl := own_lens h.row
  exact ⟨Aa, ca, (Array.getElem?_eq_some_iff.1 h.blk).1, hl.1, hl.2, by simpa using c 0, by simpa using c 1, by simpa using c 2, by simpa using c 3, by simpa using c 4, by simpa using c 5⟩
/-- a disk that a journal may lie on: its order has no sector twice -/
structure FitJ (D : Dk) (n : Nat) : Prop where
  len : D.stay.length = n
  nod : D.order.Nodup
  ok : ∀ x ∈ D.order, 0 ≤ x ∧ x < D.stay.length
  has : ∀ x ∈ D.order, (lookW D.wait x).isSome = true
def sizeJ (D : Dk) : Nat := (D.stay.length - 2) / 2
def nextJ (D : Dk) (J : Jn) : Nat := 2 + J.half * sizeJ D + J.used
set_option maxRecDepth 100000 in
set_option maxHeartbeats 800000 in
theorem size_any' (base : Nat) (w : World) (D : Dk) (J : Jn) (j d : Nat) (I K : Nat → Prop) (hd : Dsk base w D d I) (hj : Jrn base w J j d K) (h2 : 2 ≤ D.stay.length) (h3 : D.stay.length ≤ 1024) :
    Calls Try.prog 122 #[.pointer (some ⟨j, 0, none⟩)] w fun e w' => e = .returned (.int .i64 (sizeJ D)) ∧ w' = w := by
  obtain ⟨Aa, ca, hjl, _, _, q0, q1, q2, q3, q4, q5⟩ := hj.cells
  clear q1 q2 q3 q4 q5
  go_enter Try.func122, Try.ntmps122
  go_wp2_with fail
  refine (dsk_size base w D d I hd).mono ?_
  rintro e w' ⟨rfl, rfl⟩
  go_wp2_with fail
  go_ret
  exact ⟨ret_int (by unfold sizeJ; omega), rfl⟩
set_option maxRecDepth 100000 in
set_option maxHeartbeats 800000 in
theorem next_any (base : Nat) (w : World) (D : Dk) (J : Jn) (j d : Nat) (I K : Nat → Prop) (hd : Dsk base w D d I) (hj : Jrn base w J j d K) (h2 : 2 ≤ D.stay.length) (h3 : D.stay.length ≤ 1024) (hh : J.half < 2) (hu : J.used ≤ 1099511627776) :
    Calls Try.prog 117 #[.pointer (some ⟨j, 0, none⟩)] w fun e w' => e = .returned (.int .i64 (nextJ D J)) ∧ Below w.heap.size w w' := by
  obtain ⟨Aa, ca, hjl, _, _, q0, q1, q2, q3, q4, q5⟩ := hj.cells
  have z2 := fun (z : WK (fun _ => False) w) => (wat_cell (p := ⟨j, 2, none⟩) hjl (fun e => e) z).trans q2
  have z4 := fun (z : WK (fun _ => False) w) => (wat_cell (p := ⟨j, 4, none⟩) hjl (fun e => e) z).trans q4
  clear q0 q1 q2 q3 q4 q5
  have hs : sizeJ D ≤ 511 := by unfold sizeJ; omega
  have HN : Hid (nextJ D J = 2 + J.half * sizeJ D + J.used) := hid rfl
  have hmul : ∃ m : Nat, m ≤ 511 ∧ J.half * sizeJ D = m := by
    rcases (by omega : J.half = 0 ∨ J.half = 1) with h | h
    · exact ⟨0, by omega, by rw [h]; omega⟩
    · exact ⟨sizeJ D, hs, by rw [h]; omega⟩
  obtain ⟨m, hm, hmm⟩ := hmul
  go_enter Try.func117, Try.ntmps117
  go_wp2_with fail
  refine wp_region_loud (fun _ => False) [(5, plainL [] (.int .i64 (sizeJ D)))] (fun _ => Fact.none) (by kernel_rfl) (by kernel_rfl) (.cons (plainL_ok _ _) .nil) good_nothing sat_none (WX.out ?_)
  repeat (first | (refine wx_quietU (by rfl) (by rfl) (by rfl) (fun K hK => ?_); go_big_quiet_op; refine hK _ ?_; clear hK K) | (refine wx_quietG (by rfl) (by rfl) (by rfl) (by rfl) (by rfl) (fun K hK => ?_); go_big_quiet_op; refine hK _ ?_; clear hK K) | (refine wx_skipG (by rfl) (by rfl) (by rfl) (fun K hK => ?_); go_simp; refine hK _ ?_; clear hK K) | (refine wx_skipN (by rfl) (by rfl) (by rfl) (fun K hK => ?_); go_simp; refine hK _ ?_; clear hK K))
  refine wx_loudU (us := []) (by rfl) (by rfl) (fun S wS hC hS hU => runs_enter (f := 122) (by go_simp <;> rfl) ?_) (fun v hv K hK => ?_)
  · refine (size_any' base wS D J j d I K (hd.below hC.below) (hj.below hC.below) h2 h3).mono ?_
    rintro e w9 ⟨rfl, rfl⟩
    exact ⟨_, rfl, rfl, Kept.refl _ _, trivial⟩
  obtain rfl := hv; (go_simp; refine hK _ ?_; clear hK K)
  have em : (J.half : Int) * (sizeJ D : Int) = (m : Int) := by rw [← hmm]; simp
  repeat (first | (refine wx_quietU (by rfl) (by rfl) (by rfl) (fun K hK => ?_); go_big_quiet_op; refine hK _ ?_; clear hK K) | (refine wx_quietG (by rfl) (by rfl) (by rfl) (by rfl) (by rfl) (fun K hK => ?_); go_big_quiet_op; refine hK _ ?_; clear hK K) | (refine wx_skipG (by rfl) (by rfl) (by rfl) (fun K hK => ?_); go_simp; refine hK _ ?_; clear hK K) | (refine wx_skipN (by rfl) (by rfl) (by rfl) (fun K hK => ?_); go_simp; refine hK _ ?_; clear hK K))
  refine wx_nil fun w9 hsat => ?_
  have hb9 := sat_below hsat
  clear hsat z2 z4
  go_wp2_with fail
  go_ret
  exact ⟨ret_int (by rw [HN.out]; omega), hb9⟩
end Go.Proofs.Ytfhlidlmipleaaa
namespace Go.Proofs.Ytfhlidlmipleaaa
set_option linter.unusedVariables false
set_option linter.unusedSimpArgs false
open Go Go.RowKit LM

structure Jd (base : Nat) (w : World) (D : Dk) (J : Jn) (j d : Nat) (I K : Nat → Prop) : Prop where
  dk : Dsk base w D d I
  jn : Jrn base w J j d K
  dis : ∀ b, I b → K b → False
/-- a step of both -/
structure Stp (base : Nat) (w w' : World) (D' : Dk) (J' : Jn) (j d : Nat) (I K I' K' : Nat → Prop) : Prop where
  jd : Jd base w' D' J' j d I' K'
  kp : Kept (fun b => I b ∨ K b) w w'
  sub : ∀ b, I' b ∨ K' b → (I b ∨ K b) ∨ w.heap.size ≤ b
theorem Jd.below {base : Nat} {w w' : World} {D : Dk} {J : Jn} {j d : Nat} {I K : Nat → Prop} (h : Jd base w D J j d I K) (hb : Below w.heap.size w w') : Jd base w' D J j d I K := ⟨h.dk.below hb, h.jn.below hb, h.dis⟩
theorem Jd.lt {base : Nat} {w : World} {D : Dk} {J : Jn} {j d : Nat} {I K : Nat → Prop} (h : Jd base w D J j d I K) : ∀ b, I b ∨ K b → base ≤ b ∧ b < w.heap.size := by
  rintro b (hb | hb)
  · exact h.dk.bd b hb
  · exact h.jn.bd b hb
theorem Stp.refl {base : Nat} {w : World} {D : Dk} {J : Jn} {j d : Nat} {I K : Nat → Prop} (h : Jd base w D J j d I K) : Stp base w w D J j d I K I K := ⟨h, Kept.refl _ _, fun _ hb => .inl hb⟩
theorem Stp.ofBelow {base : Nat} {w w' : World} {D : Dk} {J : Jn} {j d : Nat} {I K : Nat → Prop} (h : Jd base w D J j d I K) (hb : Below w.heap.size w w') : Stp base w w' D J j d I K I K := ⟨h.below hb, Kept.of_below hb, fun _ hb => .inl hb⟩
theorem Stp.trans {base : Nat} {w w1 w2 : World} {D1 D2 : Dk} {J1 J2 : Jn} {j d : Nat} {I K I1 K1 I2 K2 : Nat → Prop} (h : Stp base w w1 D1 J1 j d I K I1 K1) (k : Stp base w1 w2 D2 J2 j d I1 K1 I2 K2) : Stp base w w2 D2 J2 j d I K I2 K2 := by
  refine ⟨k.jd, h.kp.step k.kp (fun b hb => h.sub b hb), fun b hb => ?_⟩
  rcases k.sub b hb with h1 | h1
  · exact h.sub b h1
  · exact .inr (Nat.le_trans h.kp.size h1)
/-- the disk turned -/
theorem Jd.turn {base : Nat} {w w' : World} {D D' : Dk} {J : Jn} {j d : Nat} {I I' K : Nat → Prop} (h : Jd base w D J j d I K) (hd : Dsk base w' D' d I') (ht : Turn I w w' I') : Stp base w w' D' J j d I K I' K :=
  ⟨⟨hd, h.jn.kept ht.1 (fun b hb hi => h.dis b hi hb), fun b hb hk => by
    rcases ht.2 b hb with h1 | h1
    · exact h.dis b h1 hk
    · have := (h.jn.bd b hk).2; omega⟩, ht.1.wider (fun b hb => .inl hb), fun b hb => by
    rcases hb with hb | hb
    · rcases ht.2 b hb with h1 | h1
      · exact .inl (.inl h1)
      · exact .inr h1
    · exact .inl (.inr hb)⟩
/-- the journal's own block written -/
theorem Jd.own {base : Nat} {w w' : World} {D : Dk} {J J' : Jn} {j d : Nat} {I K : Nat → Prop} (h : Jd base w D J j d I K) (hk : Kept (fun b => b = j) w w') (hb : ∀ Aa ca, w.heap[j]? = some (.cells (jnC J d Aa ca) 201 (0, 0)) → w'.heap[j]? = some (.cells (jnC J' d Aa ca) 201 (0, 0))) (ha : J'.all = J.all) :
    Stp base w w' D J' j d I K I K := by
  have hm := h.jn.mem
  refine ⟨⟨h.dk.kept hk (fun b hb e => h.dis b hb (e ▸ hm)), ?_, h.dis⟩, hk.wider (fun b hb => .inr (hb ▸ hm)), fun b hb => .inl hb⟩
  obtain ⟨Aa, ca, vs, E, h1, hK⟩ := h.jn
  refine ⟨Aa, ca, vs, E, ⟨hb Aa ca h1.blk, ?_, fun k hk2 => ?_, fun g hg => ⟨(h1.ebd g hg).1, Nat.lt_of_lt_of_le (h1.ebd g hg).2 hk.size⟩, h1.jb, by rw [ha]; exact h1.jr, h1.je, by rw [ha]; exact h1.re⟩, by rw [ha]; exact hK⟩
  · rw [ha]
    exact ownsRow_kept h1.row hk (fun g hg e => h1.jr (by rw [hg, e]))
  · rw [ha] at hk2 ⊢
    obtain ⟨g, off, n, c, h2, h3, h4⟩ := h1.ent k hk2
    exact ⟨g, off, n, c, h2, sl_kept h3 hk (fun ad had e => by injection had with had; subst had; simp only at e; exact h1.je (e ▸ h4)), h4⟩
theorem FitJ.step {D : Dk} {n : Nat} (h : FitJ D n) : FitJ (stepD D).1 n := by
  obtain ⟨h1, h2, h3⟩ := stepD_same D
  exact ⟨by rw [h1]; exact h.len, by rw [h3]; exact h.nod, by rw [h1, h3]; exact h.ok, by rw [h2, h3]; exact h.has⟩
theorem FitJ.write {D : Dk} {n : Nat} (h : FitJ D n) (i : Int) (l : List UInt8) : FitJ (wrD D i l) n := by
  unfold wrD
  by_cases h1 : mayE D i ≠ 0
  · rw [if_pos h1]; exact h
  · rw [if_neg h1]
    split
    · exact h
    · split
      · have hs := h.step
        obtain ⟨_, h4, h5⟩ := may0 (by omega : mayE D i = 0)
        have hst := (stepD_same D).1
        unfold laidD
        split
        · refine ⟨hs.len, hs.nod, hs.ok, fun x hx => ?_⟩
          simp only [lookW_put]
          split
          · rfl
          · exact hs.has x hx
        · rename_i hno
          refine ⟨hs.len, ?_, fun x hx => ?_, fun x hx => ?_⟩
          · refine List.nodup_append.2 ⟨hs.nod, by simp, fun a ha b hb e => ?_⟩
            simp at hb
            subst hb; subst e
            exact hno (hs.has a ha)
          · rcases List.mem_append.1 hx with hx | hx
            · exact hs.ok x hx
            · simp at hx; subst hx; simp only []; rw [hst]; exact ⟨h4, h5⟩
          · simp only [lookW_put]
            rcases List.mem_append.1 hx with hx | hx
            · split
              · rfl
              · exact hs.has x hx
            · simp at hx; rw [if_pos hx.symm]; rfl
      · exact h.step
theorem FitJ.flush {D : Dk} {n : Nat} (h : FitJ D n) : FitJ (flD D) n := by
  unfold flD
  split
  · exact h
  · split
    · have hs := h.step
      refine ⟨?_, by simp [flushD], by simp [flushD], by simp [flushD]⟩
      show (crashTo _ _ _).stay.length = _
      rw [crashTo_stay]
      exact hs.len
    · exact h.step
theorem nodup_le (n : Nat) : ∀ (l : List Int), l.Nodup → (∀ x ∈ l, 0 ≤ x ∧ x < n) → l.length ≤ n := by
  induction n with
  | zero =>
    intro l _ h
    cases l with
    | nil => simp
    | cons x t => have := h x (by simp); omega
  | succ n ih =>
    intro l hl h
    have h2 := ih (l.erase (n : Int)) (hl.erase _) (fun x hx => by
      have h3 := (List.Nodup.mem_erase_iff hl).1 hx
      have := h x h3.2
      have := h3.1
      omega)
    have h4 : l.length ≤ (l.erase (n : Int)).length + 1 := by
      rw [List.length_erase]
      split <;> omega
    omega
theorem FitJ.few {D : Dk} {n : Nat} (h : FitJ D n) : D.order.length ≤ n := nodup_le n D.order h.nod (fun x hx => by have := h.ok x hx; rw [h.len] at this; exact this)
def noteJ (J : Jn) (e : Int) : Jn := if e = 2 then { J with gone := true } else J
set_option maxRecDepth 100000 in
set_option maxHeartbeats 800000 in
theorem noted_any (base : Nat) (w : World) (D : Dk) (J : Jn) (j d : Nat) (I K : Nat → Prop) (h : Jd base w D J j d I K) (e : Int) :
    Calls Try.prog 116 #[.pointer (some ⟨j, 0, none⟩), .int .i64 e] w fun x w' => x = .returned (.int .i64 e) ∧ Stp base w w' D (noteJ J e) j d I K I K := by
  by_cases he : e = 2
  · subst he
    have hN : noteJ J 2 = { J with gone := true } := rfl
    rw [hN]
    clear hN
    have hjn := h.jn
    obtain ⟨Aa, ca, vs, E, h1, hK⟩ := hjn
    obtain ⟨c, f⟩ := blk_cells h1.blk
    have q5 := c 5
    have f5 := f 5
    simp at q5
    have hs : Stp base w (w.setCell ⟨j, 5, none⟩ (.bool true)) D { J with gone := true } j d I K I K := by
      refine h.own ((Kept.refl (fun b => b = j) w).setCell (p := ⟨j, 5, none⟩) (.inl rfl) _) (fun Aa ca hb => ?_) rfl
      have := blk_set hb 5 (.bool true)
      simpa using this
    clear h1 h c hK
    go_enter Try.func116, Try.ntmps116
    go_wp2_with fail
    go_ret
    exact ⟨rfl, hs⟩
  · have hN : noteJ J e = J := by unfold noteJ; rw [if_neg he]
    rw [hN]
    have hs := Stp.refl h
    clear h hN
    go_enter Try.func116, Try.ntmps116
    go_wp2_with fail
    go_ret
    exact ⟨rfl, hs⟩
def sureE (D : Dk) (i : Int) (l : List UInt8) : Int := if wrE D i l = 0 then flE (wrD D i l) else wrE D i l
def sureD (D : Dk) (i : Int) (l : List UInt8) : Dk := if wrE D i l = 0 then flD (wrD D i l) else wrD D i l
theorem FitJ.sure {D : Dk} {n : Nat} (h : FitJ D n) (i : Int) (l : List UInt8) : FitJ (sureD D i l) n := by
  unfold sureD
  split
  · exact (h.write i l).flush
  · exact h.write i l
theorem Stp.size {base : Nat} {w w' : World} {D' : Dk} {J' : Jn} {j d : Nat} {I K I' K' : Nat → Prop} (h : Stp base w w' D' J' j d I K I' K') : w.heap.size ≤ w'.heap.size := h.kp.size
theorem Stp.nb {base : Nat} {w w' : World} {D' : Dk} {J' : Jn} {j d : Nat} {I K I' K' : Nat → Prop} (h : Stp base w w' D' J' j d I K I' K') {b : Nat} (hb : b < w.heap.size) (h1 : ¬ (I b ∨ K b)) : ¬ (I' b ∨ K' b) := by
  intro h2
  rcases h.sub b h2 with h3 | h3
  · exact h1 h3
  · omega
theorem sl_sameJ {w w' : World} {size n c : Nat} {A : Option Addr} {xs : List Value} (h : Sl w size (.slice A n c) xs) (hs : ∀ ad, A = some ad → w'.heap[ad.block]? = w.heap[ad.block]?) : Sl w' size (.slice A n c) xs := by
  obtain ⟨A', n', c', he, hl, hnc, hcm, hr⟩ := h
  injection he with e1 e2 e3
  subst e1; subst e2; subst e3
  refine ⟨_, _, _, rfl, hl, hnc, hcm, fun hn => ?_⟩
  obtain ⟨b, off, rfl, hlt, hc⟩ := hr hn
  have hb := hs _ rfl
  simp only at hb
  refine ⟨b, off, rfl, ?_, fun i hi => (World.cell?_of_block (a := ⟨b, off + i, none⟩) hb).trans (hc i hi)⟩
  rcases Nat.lt_or_ge b w'.heap.size with h | h
  · exact h
  · rw [Array.getElem?_eq_none h, Array.getElem?_eq_getElem hlt] at hb
    cases hb
theorem Jrn.same {base : Nat} {w w' : World} {J : Jn} {j d : Nat} {K : Nat → Prop} (h : Jrn base w J j d K) (hs : ∀ b, K b → w'.heap[b]? = w.heap[b]?) : Jrn base w' J j d K := by
  obtain ⟨Aa, ca, vs, E, h, hK⟩ := h
  have own : ∀ {e : TypeId} {size n : Nat} {v : Value} {xs : List Value}, w.ownsRow base e size v n xs → (∀ g, v.ownBlock = some g → K g) → w'.ownsRow base e size v n xs := by
    intro e size n v xs ho hg
    refine ⟨ho.1, ?_⟩
    rcases ho.2 with h1 | ⟨g, cap, cur, hv, hb, hgg, rest⟩
    · exact .inl h1
    · exact .inr ⟨g, cap, cur, hv, hb, (hs g (hg g (by rw [hv]; rfl))).trans hgg, rest⟩
  refine ⟨Aa, ca, vs, E, ⟨(hs j ((hK j).2 (.inl rfl))).trans h.blk, own h.row (fun g hg => (hK g).2 (.inr (.inl hg))), fun k hk => ?_, fun g hg => ⟨(h.ebd g hg).1, ?_⟩, h.jb, h.jr, h.je, h.re⟩, hK⟩
  · obtain ⟨g, off, n, c, h1, h2, h3⟩ := h.ent k hk
    exact ⟨g, off, n, c, h1, sl_sameJ h2 (fun ad had => by injection had with had; subst had; exact hs g ((hK g).2 (.inr (.inr h3)))), h3⟩
  · have e := hs g ((hK g).2 (.inr (.inr hg)))
    rcases Nat.lt_or_ge g w'.heap.size with h4 | h4
    · exact h4
    · rw [Array.getElem?_eq_none h4, Array.getElem?_eq_getElem (h.ebd g hg).2] at e
      cases e
/-- both, as a region's fact -/
def JdF (base : Nat) (D : Dk) (J : Jn) (j d : Nat) : Fact := fun S w => ∃ I K, (∀ b, I b ∨ K b → S b) ∧ Jd base w D J j d I K
theorem good_jd (base : Nat) (D : Dk) (J : Jn) (j d : Nat) : Good (JdF base D J j d) := fun S S' w w' h1 h2 ⟨I, K, h3, h4⟩ => ⟨I, K, fun b hb => h1 b (h3 b hb), ⟨h4.dk.same fun b hb => h2 b (h3 b (.inl hb)), h4.jn.same fun b hb => h2 b (h3 b (.inr hb)), h4.dis⟩⟩
set_option maxRecDepth 100000 in
set_option maxHeartbeats 1600000 in
theorem sure_any (base n : Nat) (w : World) (D : Dk) (J : Jn) (j d : Nat) (I K : Nat → Prop) (h : Jd base w D J j d I K) (hF : FitJ D n) (hn : n ≤ 1000) (hbase : base ≤ w.heap.size) (i : Int) (b off c : Nat) (l : List UInt8) (hl : Sl w 1 (.slice (some ⟨b, off, none⟩) 64 c) (B8 l)) (hnb : ¬ I b) :
    Calls Try.prog 111 #[.pointer (some ⟨j, 0, none⟩), .int .i64 i, .slice (some ⟨b, off, none⟩) 64 c] w fun e w' => e = .returned (.int .i64 (sureE D i l)) ∧ ∃ I', Stp base w w' (sureD D i l) (noteJ J (sureE D i l)) j d I K I' K := by
  obtain ⟨Aa, ca, hjl, _, _, q0, q1, q2, q3, q4, q5⟩ := h.jn.cells
  clear q1 q2 q3 q4 q5
  have hfew := hF.few
  by_cases h0 : wrE D i l = 0
  · have e1 : sureE D i l = flE (wrD D i l) := by unfold sureE; rw [if_pos h0]
    have e2 : sureD D i l = flD (wrD D i l) := by unfold sureD; rw [if_pos h0]
    rw [e1, e2]
    go_enter Try.func111, Try.ntmps111
    go_wp2_with fail
    refine (dsk_write base w D d I i b off 64 c l h.dk hbase hl (.inl rfl) (by omega) hnb).mono ?_
    rintro e w1 ⟨rfl, I1, hd1, ht1⟩
    have s1 := h.turn hd1 ht1
    have hF1 := hF.write i l
    rw [h0]
    obtain ⟨Aa1, ca1, hjl1, _, _, q0', _⟩ := s1.jd.jn.cells
    clear q0 e1 e2 h0 hd1 ht1 h hl
    go_wp2_with fail
    refine (dsk_flush base w1 (wrD D i l) d I1 s1.jd.dk (Nat.le_trans hbase s1.size) hF1.ok).mono ?_
    rintro e w2 ⟨rfl, I2, hd2, ht2⟩
    have s2 := s1.trans (s1.jd.turn hd2 ht2)
    clear q0' s1 hd2 ht2
    go_wp2_with fail
    refine (noted_any base w2 (flD (wrD D i l)) J j d I2 K s2.jd (flE (wrD D i l))).mono ?_
    rintro e w3 ⟨rfl, s3⟩
    have s4 := s2.trans s3
    clear s2 s3
    go_wp2_with fail
    go_ret
    exact ⟨rfl, I2, s4⟩
  · have e1 : sureE D i l = wrE D i l := by unfold sureE; rw [if_neg h0]
    have e2 : sureD D i l = wrD D i l := by unfold sureD; rw [if_neg h0]
    rw [e1, e2]
    go_enter Try.func111, Try.ntmps111
    go_wp2_with fail
    refine (dsk_write base w D d I i b off 64 c l h.dk hbase hl (.inl rfl) (by omega) hnb).mono ?_
    rintro e w1 ⟨rfl, I1, hd1, ht1⟩
    have s1 := h.turn hd1 ht1
    have hF1 := hF.write i l
    clear q0 e1 e2 hd1 ht1 h hl
    go_wp2_with fail
    refine (noted_any base w1 (wrD D i l) J j d I1 K s1.jd (wrE D i l)).mono ?_
    rintro e w3 ⟨rfl, s3⟩
    have s4 := s1.trans s3
    clear s1 s3
    go_wp2_with fail
    go_ret
    exact ⟨rfl, I1, s4⟩
end Go.Proofs.Ytfhlidlmipleaaa
namespace Go.Proofs.Ytfhlidlmipleaaa
set_option linter.unusedVariables false
set_option linter.unusedSimpArgs false
open Go Go.RowKit LM

def headJ (gen idx n : Nat) : List UInt8 := [70] ++ be 8 gen ++ be 4 idx ++ be 2 n
def sumJ (gen idx : Nat) (l : List UInt8) : Nat := crcOf (headJ gen idx l.length ++ l)
def frameJ (gen idx : Nat) (l : List UInt8) : List UInt8 := (headJ gen idx l.length ++ be 4 (sumJ gen idx l) ++ l) ++ List.replicate (takesN l.length * 64 - (19 + l.length)) 0
theorem headJ_len (gen idx n : Nat) : (headJ gen idx n).length = 15 := by simp [headJ, be_length]
theorem takesN_ge (n : Nat) : n + 19 ≤ takesN n * 64 := by unfold takesN; omega
theorem frameJ_len (gen idx : Nat) (l : List UInt8) : (frameJ gen idx l).length = takesN l.length * 64 := by
  have := takesN_ge l.length
  simp [frameJ, headJ_len, be_length]
  omega
theorem sumJ_eq (gen idx : Nat) (l : List UInt8) : ((4294967295 ^^^ crcL (crcL 4294967295 (headJ gen idx l.length)) l : Nat)) = sumJ gen idx l := by
  rw [← crcL_app, not32 _ (crcL_lt (by omega) _)]
  rfl
set_option maxRecDepth 100000 in
set_option maxHeartbeats 1600000 in
theorem frame_any (base : Nat) (w : World) (J : Jn) (j d : Nat) (K : Nat → Prop) (h : Jrn base w J j d K) (hg : J.gen < 18446744073709551616) (ha : J.all.length ≤ 1099511627776) (A : Option Addr) (n c : Nat) (l : List UInt8) (hl : Sl w 1 (.slice A n c) (B8 l)) (hn : n ≤ 1099511627776) :
    Calls Try.prog 114 #[.pointer (some ⟨j, 0, none⟩), .slice A n c] w fun e w' => ∃ A' c', e = .returned (.slice A' (takesN n * 64) c') ∧ w'.ownsRow w.heap.size 5 1 (.slice A' (takesN n * 64) c') (takesN n * 64) (B8 (frameJ J.gen J.all.length l)) ∧ Below w.heap.size w w' := by
  obtain ⟨Aa, ca, hjl, hca1, hca2, q0, q1, q2, q3, q4, q5⟩ := h.cells
  have hll := hl.len.1
  have htk := takesN_ge n
  have htk2 : takesN n * 64 ≤ n + 82 := by unfold takesN; omega
  have HF : Hid ((headJ J.gen J.all.length l.length ++ be 4 (sumJ J.gen J.all.length l) ++ l) ++ List.replicate (takesN l.length * 64 - (19 + l.length)) 0 = frameJ J.gen J.all.length l) := hid rfl
  rw [hll] at HF
  have HS := hid (sumJ_eq J.gen J.all.length l)
  rw [hll] at HS
  have hsl : sumJ J.gen J.all.length l < 4294967296 := crcOf_lt _
  clear q0 q2 q4 q5
  have hrow : (w.alloc (.cells #[.int .u8 70] 5)).ownsRow w.heap.size 5 1 (.slice (some ⟨w.heap.size, 0, none⟩) 1 1) 1 (B8 [70]) := World.ownsRow_lit (size := 1) w #[.int .u8 70] 1 (Nat.le_refl _) (by simp [maxLen]) (by simp)
  have hal := (Below.refl w.heap.size w).alloc (Nat.le_refl _) (.cells #[.int .u8 70] 5)
  have hz1 : w.heap.size ≤ (w.alloc (.cells #[.int .u8 70] 5)).heap.size := by simp
  have q3' := (hal.cell (p := ⟨j, 3, none⟩) hjl).trans q3
  go_enter Try.func114, Try.ntmps114
  go_wp2_with fail
  generalize hB : w.heap.size = B at *
  generalize w.alloc (.cells #[.int .u8 70] 5) = w1 at *
  refine (numJ_any B 1 1 8 _ _ J.gen w1 hrow hz1 hg (by omega) (by omega)).mono ?_
  rintro e w2 ⟨A2, c2, rfl, hown2, hg2, hf2⟩
  have hz2 : B ≤ w2.heap.size := Nat.le_trans hz1 hg2.size
  have hb2 := hal.trans (grown_below hrow hg2 hz1)
  have q32 := (hb2.cell (p := ⟨j, 3, none⟩) hjl).trans q3
  clear hf2 hg2 hrow hal q3' q1
  go_wp2_with fail
  refine (numJ_any B 9 c2 4 A2 _ J.all.length w2 hown2 hz2 (by omega) (by omega) (by omega)).mono ?_
  rintro e w3 ⟨A3, c3, rfl, hown3, hg3, hf3⟩
  have hz3 : B ≤ w3.heap.size := Nat.le_trans hz2 hg3.size
  have hb3 := hb2.trans (grown_below hown2 hg3 hz2)
  clear hf3 hg3 hown2 hb2 q32 q3
  go_wp2_with fail
  refine (numJ_any B 13 c3 2 A3 _ n w3 hown3 hz3 (by omega) (by omega) (by omega)).mono ?_
  rintro e w4 ⟨A4, c4, rfl, hown4, hg4, hf4⟩
  have hz4 : B ≤ w4.heap.size := Nat.le_trans hz3 hg4.size
  have hb4 := hb3.trans (grown_below hown3 hg4 hz3)
  replace hown4 : w4.ownsRow B 5 1 (.slice A4 15 c4) 15 (B8 (headJ J.gen J.all.length n)) := hown4
  clear hf4 hg4 hown3 hb3
  have hl4 := hl.below (hB ▸ hb4)
  go_wp2_with fail
  refine (crc_any 4294967295 (by omega) A4 15 c4 _ w4 (own_sl hown4)).mono ?_
  rintro e w5 ⟨rfl, rfl⟩
  have hcl := crcL_lt (n := 4294967295) (by omega) (headJ J.gen J.all.length n)
  have hcl2 := crcL_lt hcl l
  go_wp2_with fail
  refine (crc_any _ hcl A n c l w5 hl4).mono ?_
  rintro e w6 ⟨rfl, rfl⟩
  have eb : bits BinOp.xor IntKind.u32 IntKind.u32.max ((crcL (crcL 4294967295 (headJ J.gen J.all.length n)) l : Nat) : Int) = ((sumJ J.gen J.all.length l : Nat) : Int) := by
    rw [show IntKind.u32.max = ((4294967295 : Nat) : Int) from rfl, xor32 _ _ (by omega) hcl2, HS.out]
  clear HS hcl
  generalize crcL (crcL 4294967295 (headJ J.gen J.all.length n)) l = cl at *
  generalize sumJ J.gen J.all.length l = sm at *
  have ew : IntKind.u64.wrap (sm : Int) = sm := by rw [IntKind.wrap_u64]; omega
  go_wp2_with fail
  refine (numJ_any B 15 c4 4 A4 _ sm w6 hown4 hz4 (by omega) (by omega) (by omega)).mono ?_
  rintro e w7 ⟨A7, c7, rfl, hown7, hg7, hf7⟩
  have hz7 : B ≤ w7.heap.size := Nat.le_trans hz4 hg7.size
  have hb7 := hb4.trans (grown_below hown4 hg7 hz4)
  have hl7 := hl.below (hB ▸ hb7)
  clear hf7 hg7 hown4 hb4 hl4 eb hcl2
  go_wp2_with (at_builtin; refine wpList_app rfl (.tmp 34) (.tmp 35) st_bytes rfl B rfl hown7 rfl hl7 (B8_one _) (by simp [maxLen]; omega) (by omega) hz7 ?_)
  intro A8 c8 w8 hown8 hg8 hf8
  have hz8 : B ≤ w8.heap.size := Nat.le_trans hz7 hg8.size
  have hb8 := hb7.trans (grown_below hown7 hg8 hz7)
  rw [← B8_append] at hown8
  clear hf8 hg8 hown7 hb7 hl7
  obtain ⟨kz, hkz⟩ : ∃ kz : Nat, takesN n * 64 - (19 + n) = kz := ⟨_, rfl⟩
  have ez : (takesN n : Int) * 64 - (19 + (n : Int)) = (kz : Int) := by omega
  rw [hkz] at HF
  go_wp2_with fail
  refine (takes_any n hn w8).mono ?_
  rintro e w9 ⟨rfl, rfl⟩
  go_wp2_with (at_builtin; refine wpList_app_zeros rfl (.tmp 37) (.tmp 44) st_bytes info_u8 und_str und_int rfl B rfl hown8 kz rfl (by omega) hz8 ?_)
  intro A10 c10 w10 hown10 hg10 hf10
  have hb10 := hb8.trans (grown_below hown8 hg10 hz8)
  have e19 : 19 + n + kz = takesN n * 64 := by omega
  rw [← B8_append, ← List.append_assoc (headJ J.gen J.all.length n) (be 4 sm) l, HF.out, e19] at hown10
  rw [e19]
  clear hg10 hown8 hb8 ez hkz HF e19 hf10
  go_wp2_with fail
  go_ret
  exact ⟨A10, c10, rfl, by rw [hB]; exact hown10, by rw [hB]; exact hb10⟩
end Go.Proofs.Ytfhlidlmipleaaa
namespace Go.Proofs.Ytfhlidlmipleaaa
set_option linter.unusedVariables false
set_option linter.unusedSimpArgs false
open Go Go.RowKit LM

def chunk (f : List UInt8) (k : Nat) : List UInt8 := (f.drop (64 * k)).take 64
/-- the sectors of a frame behind the first one, the first k of them -/
def restS (D : Dk) (nx : Nat) (f : List UInt8) : Nat → Dk × Int
  | 0 => (D, 0)
  | k + 1 => if (restS D nx f k).2 ≠ 0 then restS D nx f k else (wrD (restS D nx f k).1 ((nx + (k + 1) : Nat) : Int) (chunk f (k + 1)), wrE (restS D nx f k).1 ((nx + (k + 1) : Nat) : Int) (chunk f (k + 1)))
theorem restS_stuck (D : Dk) (nx : Nat) (f : List UInt8) (k i : Nat) (h : (restS D nx f k).2 ≠ 0) : restS D nx f (k + i) = restS D nx f k := by
  induction i with
  | zero => rfl
  | succ i ih =>
    rw [← Nat.add_assoc]
    show (if (restS D nx f (k + i)).2 ≠ 0 then restS D nx f (k + i) else _) = _
    rw [ih, if_pos h]
theorem FitJ.rest {D : Dk} {n : Nat} (h : FitJ D n) (nx : Nat) (f : List UInt8) (k : Nat) : FitJ (restS D nx f k).1 n := by
  induction k with
  | zero => exact h
  | succ k ih =>
    unfold restS
    split
    · exact ih
    · exact ih.write _ _
theorem nextJ_len {D D' : Dk} (h : D'.stay.length = D.stay.length) (J : Jn) : nextJ D' J = nextJ D J := by
  unfold nextJ sizeJ
  rw [h]
theorem chunk_len {f : List UInt8} {m k : Nat} (h : f.length = 64 * m) (hk : k < m) : (chunk f k).length = 64 := by
  simp [chunk]
  omega
theorem sizeJ_le {D : Dk} (h : D.stay.length ≤ 1024) : sizeJ D ≤ 511 := by unfold sizeJ; omega
theorem nextJ_le {D : Dk} {J : Jn} (h : D.stay.length ≤ 1024) (hh : J.half < 2) : nextJ D J ≤ 513 + J.used := by
  have hs := sizeJ_le h
  unfold nextJ
  rcases (by omega : J.half = 0 ∨ J.half = 1) with h | h <;> rw [h] <;> omega
set_option maxRecDepth 100000 in
set_option maxHeartbeats 3200000 in
theorem rest_any (base n : Nat) (w : World) (D : Dk) (J : Jn) (j d : Nat) (I K : Nat → Prop) (h : Jd base w D J j d I K) (hF : FitJ D n) (hn : 2 ≤ n ∧ n ≤ 1000) (hbase : base ≤ w.heap.size) (hh : J.half < 2) (hu : J.used ≤ 1099511627776)
    (b off c m : Nat) (f : List UInt8) (hl : Sl w 1 (.slice (some ⟨b, off, none⟩) (64 * m) c) (B8 f)) (hnb : ¬ (I b ∨ K b)) (hm : 1 ≤ m ∧ m ≤ 1099511627776) :
    Calls Try.prog 115 #[.pointer (some ⟨j, 0, none⟩), .slice (some ⟨b, off, none⟩) (64 * m) c] w fun e w' => e = .returned (.int .i64 (restS D (nextJ D J) f (m - 1)).2) ∧ ∃ I', Stp base w w' (restS D (nextJ D J) f (m - 1)).1 J j d I K I' K := by
  obtain ⟨hfl, hfc, hfm⟩ := hl.len
  have hbl : b < w.heap.size := by
    obtain ⟨b', off', e, h1, _⟩ := hl.byte (k := 0) (by omega)
    injection e with e
    injection e with e1 e2
    subst e1
    exact h1
  have hlen := hF.len
  go_enter Try.func115, Try.ntmps115
  go_wp2_with fail
  go_loopw [5] (fun i wr => ∃ (k : Nat) (I1 : Nat → Prop), k < m ∧ i = .int .i64 ((64 * (k + 1) : Nat) : Int) ∧ (restS D (nextJ D J) f k).2 = 0 ∧ Stp base w wr (restS D (nextJ D J) f k).1 J j d I K I1 K) (fun i _ => 64 * m - (intOf i).toNat)
  case atStart => exact ⟨0, I, hm.1, rfl, rfl, Stp.refl h⟩
  case round =>
    obtain ⟨k, I1, hkm, rfl, h0, s1⟩ := hrel
    have hF1 := hF.rest (nextJ D J) f k
    by_cases hk : k + 1 < m
    · have HR : Hid (restS D (nextJ D J) f (k + 1) = (wrD (restS D (nextJ D J) f k).1 ((nextJ D J + (k + 1) : Nat) : Int) (chunk f (k + 1)), wrE (restS D (nextJ D J) f k).1 ((nextJ D J + (k + 1) : Nat) : Int) (chunk f (k + 1)))) := hid (by
        show (if (restS D (nextJ D J) f k).2 ≠ 0 then restS D (nextJ D J) f k else _) = _
        rw [if_neg (by omega)])
      have HS := fun h => hid (restS_stuck D (nextJ D J) f (k + 1) (m - 1 - (k + 1)) h)
      rw [show k + 1 + (m - 1 - (k + 1)) = m - 1 by omega] at HS
      have hnx : nextJ (restS D (nextJ D J) f k).1 J = nextJ D J := nextJ_len (by rw [hF1.len, hlen]) J
      have hnl := nextJ_le (D := D) (J := J) (by omega) hh
      have hcl := chunk_len (k := k + 1) hfl hk
      have hlr := sl_kept hl s1.kp (fun ad had => by injection had with had; subst had; exact hnb)
      have hch : Sl wr 1 (.slice (some ⟨b, off + 64 * (k + 1), none⟩) (64 * (k + 1) + 64 - 64 * (k + 1)) (c - 64 * (k + 1))) (B8 ((f.drop (64 * (k + 1))).take (64 * (k + 1) + 64 - 64 * (k + 1)))) := sl_mid hlr (64 * (k + 1)) (64 * (k + 1) + 64) (by omega) (by omega) (by omega)
      rw [show 64 * (k + 1) + 64 - 64 * (k + 1) = 64 by omega] at hch
      have hnb1 : ¬ (I1 b ∨ K b) := s1.nb hbl hnb
      obtain ⟨Aa, ca, hjl, _, _, q0, _⟩ := s1.jd.jn.cells
      obtain ⟨ix, ei⟩ : ∃ ix : Int, (nextJ D J : Int) + ((k : Int) + 1) = ix := ⟨_, rfl⟩
      have ei2 : ((nextJ D J + (k + 1) : Nat) : Int) = ix := by omega
      rw [ei2] at HR
      clear ei2
      have hfew := hF1.few
      have hjd := s1.jd
      have hbw := Nat.le_trans hbase s1.size
      generalize restS D (nextJ D J) f k = R at *
      clear hl hlr h
      have hjI : ¬ (False ∨ I1 j) := by
        rintro (e | e)
        · exact e
        · exact hjd.dis j e hjd.jn.mem
      have hbI : ¬ (False ∨ I1 b) := by
        rintro (e | e)
        · exact e
        · exact hnb1 (.inl e)
      have z0 := fun (z : WK (fun y => False ∨ I1 y) wr) => (wat_cell (p := ⟨j, 0, none⟩) hjl hjI z).trans q0
      have zcap := fun (z : WK (fun y => False ∨ I1 y) wr) => (sl_kept hch (wat_kept z) (fun ad had => by injection had with had; subst had; exact hbI))
      clear q0
      go_wp2_with fail
      refine wp_region_loud (fun y => False ∨ I1 y) [(5, factL [100] (fun v => v = .int .i64 (nextJ D J)) (fun _ => DskF base R.1 d)), (14, factL [5] (fun v => v = .int .i64 (wrE R.1 ix (chunk f (k + 1)))) (fun _ => DskF base (wrD R.1 ix (chunk f (k + 1))) d))] (addL 100 (DskF base R.1 d) (fun _ => Fact.none)) (by kernel_rfl) (by kernel_rfl)
        (.cons (factL_ok ⟨_, rfl⟩ (fun _ => good_dsk _ _ _)) (.cons (factL_ok ⟨_, rfl⟩ (fun _ => good_dsk _ _ _)) .nil)) (good_add _ (good_dsk _ _ _) good_nothing)
        (sat_add 100 sat_none (fun b _ h => h) (fun b hb => (hjd.dk.bd b hb).2) ⟨I1, fun b hb => hb, hjd.dk⟩) (WX.out ?_)
      repeat (first | (refine wx_quietU (by rfl) (by rfl) (by rfl) (fun K hK => ?_); go_big_quiet_op; refine hK _ ?_; clear hK K) | (refine wx_quietG (by rfl) (by rfl) (by rfl) (by rfl) (by rfl) (fun K hK => ?_); go_big_quiet_op; refine hK _ ?_; clear hK K) | (refine wx_skipG (by rfl) (by rfl) (by rfl) (fun K hK => ?_); go_simp; refine hK _ ?_; clear hK K) | (refine wx_skipN (by rfl) (by rfl) (by rfl) (fun K hK => ?_); go_simp; refine hK _ ?_; clear hK K))
      have hKS : ∀ y, K y → ¬ (False ∨ I1 y) := fun y hy e => by
        rcases e with e | e
        · exact e
        · exact hjd.dis y e hy
      refine wx_loudU (us := [100]) (by rfl) (by rfl) (fun S wS hC hS hU => runs_enter (f := 117) (by go_simp <;> rfl) ?_) (fun v hv K hK => ?_)
      · obtain ⟨I3, hI3, hD3⟩ := (hU 100 (by simp) : DskF base R.1 d S wS)
        refine (next_any base wS R.1 J j d I3 K hD3 (hjd.jn.kept hC hKS) (by rw [hF1.len]; omega) (by rw [hF1.len]; omega) hh hu).mono ?_
        rintro e w9 ⟨rfl, hb9⟩
        exact ⟨.int .i64 (nextJ D J), by rw [hnx], rfl, Kept.of_below hb9, I3, fun y hy => .inl (hI3 y hy), hD3.below hb9⟩
      obtain rfl := hv; (go_simp; refine hK _ ?_; clear hK K)
      repeat (first | (refine wx_quietU (by rfl) (by rfl) (by rfl) (fun K hK => ?_); go_big_quiet_op; refine hK _ ?_; clear hK K) | (refine wx_quietG (by rfl) (by rfl) (by rfl) (by rfl) (by rfl) (fun K hK => ?_); go_big_quiet_op; refine hK _ ?_; clear hK K) | (refine wx_skipG (by rfl) (by rfl) (by rfl) (fun K hK => ?_); go_simp; refine hK _ ?_; clear hK K) | (refine wx_skipN (by rfl) (by rfl) (by rfl) (fun K hK => ?_); go_simp; refine hK _ ?_; clear hK K))
      refine wx_loudU (us := [5]) (by rfl) (by rfl) (fun S wS hC hS hU => runs_enter (f := 17) (by go_simp <;> rfl) ?_) (fun v hv K hK => ?_)
      · obtain ⟨I3, hI3, hD3⟩ := (hU 5 (by simp) : DskF base R.1 d S wS)
        have hsl := sl_kept hch hC (fun ad had => by injection had with had; subst had; exact hbI)
        refine (dsk_write base wS R.1 d I3 _ b _ 64 _ (chunk f (k + 1)) hD3 (Nat.le_trans hbw hC.size) hsl (.inl rfl) (by omega) (fun hx => by
          rcases (hS b (hI3 b hx)).1 with e | e
          · exact hbI e
          · have := s1.size; omega)).mono ?_
        rintro e w9 ⟨rfl, I4, hD4, ht4⟩
        refine ⟨_, rfl, rfl, ht4.1.wider hI3, I4, fun y hy => ?_, hD4⟩
        rcases ht4.2 y hy with h1 | h1
        · exact .inl (hI3 y h1)
        · exact .inr ⟨h1, (hD4.bd y hy).2⟩
      obtain rfl := hv; (go_simp; refine hK _ ?_; clear hK K)
      repeat (first | (refine wx_quietU (by rfl) (by rfl) (by rfl) (fun K hK => ?_); go_big_quiet_op; refine hK _ ?_; clear hK K) | (refine wx_quietG (by rfl) (by rfl) (by rfl) (by rfl) (by rfl) (fun K hK => ?_); go_big_quiet_op; refine hK _ ?_; clear hK K) | (refine wx_skipG (by rfl) (by rfl) (by rfl) (fun K hK => ?_); go_simp; refine hK _ ?_; clear hK K) | (refine wx_skipN (by rfl) (by rfl) (by rfl) (fun K hK => ?_); go_simp; refine hK _ ?_; clear hK K))
      refine wx_nil fun w21 hsat => ?_
      obtain ⟨S, hS, hfin⟩ := sat_get hsat 14
      obtain ⟨I5, hI5, hD5⟩ := (hfin : DskF base (wrD R.1 ix (chunk f (k + 1))) d S w21)
      have s2 : Stp base wr w21 (wrD R.1 ix (chunk f (k + 1))) J j d I1 K I5 K := by
        refine hjd.turn hD5 ⟨hsat.1.wider (fun y hy => hy.elim False.elim id), fun y hy => ?_⟩
        rcases hS y (hI5 y hy) with e | e
        · exact .inl (e.elim False.elim id)
        · exact .inr e
      have s3 := s1.trans s2
      clear hsat hD5 s2 s1 hI5 hS z0 zcap hch hKS
      by_cases hz : wrE R.1 ix (chunk f (k + 1)) = 0
      · rw [hz]
        go_wp2_with fail
        go_light
        refine ⟨⟨k + 1, I5, by omega, by go_num, by rw [HR.out]; exact hz, by rw [HR.out]; exact s3⟩, by simp [intOf]; omega⟩
      · have hz2 : ((wrE R.1 ix (chunk f (k + 1))) != 0) = true := by simpa using hz
        have hst := (HS (by rw [HR.out]; exact hz)).out
        rw [HR.out] at hst
        have HST := hid hst
        clear hst HS HR
        go_wp2_with fail
        go_ret
        rw [HST.out]
        exact ⟨rfl, I5, s3⟩
    · obtain rfl : k + 1 = m := by omega
      go_wp2_with fail
      go_ret
      rw [show k + 1 - 1 = k by omega, h0]
      exact ⟨rfl, I1, s1⟩
end Go.Proofs.Ytfhlidlmipleaaa
namespace Go.Proofs.Ytfhlidlmipleaaa
set_option linter.unusedVariables false
set_option linter.unusedSimpArgs false
open Go Go.RowKit LM

def addJ (J : Jn) (l : List UInt8) : Jn := { J with all := J.all ++ [l], used := J.used + takesN l.length }
set_option maxRecDepth 100000 in
set_option maxHeartbeats 1600000 in
theorem add_any (base : Nat) (w : World) (D : Dk) (J : Jn) (j d : Nat) (I K : Nat → Prop) (h : Jd base w D J j d I K) (hbase : base ≤ w.heap.size) (ha : J.all.length ≤ 1099511627776) (hu : J.used ≤ 1099511627776)
    (g off n c : Nat) (l : List UInt8) (hl : Sl w 1 (.slice (some ⟨g, off, none⟩) n c) (B8 l)) (hn : n ≤ 1099511627776) (hg : base ≤ g ∧ g < w.heap.size) (hgK : ¬ (I g ∨ K g)) :
    Calls Try.prog 118 #[.pointer (some ⟨j, 0, none⟩), .slice (some ⟨g, off, none⟩) n c] w fun e w' => e = .returned (.tuple #[]) ∧ ∃ K', Jd base w' D (addJ J l) j d I K' ∧ Kept K w w' ∧ ∀ b, K' b → K b ∨ b = g ∨ w.heap.size ≤ b := by
  obtain ⟨hll, hlc, hlm⟩ := hl.len
  have hjn := h.jn
  obtain ⟨Aa, ca, vs, E, h1, hK⟩ := hjn
  have hca := own_lens h1.row
  have hjl := (Array.getElem?_eq_some_iff.1 h1.blk).1
  obtain ⟨cc, ff⟩ := blk_cells h1.blk
  have q3 := cc 3
  have f3 := ff 3
  simp at q3
  have hsl : Sl (w.alloc (.cells #[.slice (some ⟨g, off, none⟩) n c] 27)) 1 (.slice (some ⟨w.heap.size, 0, none⟩) 1 1) [.slice (some ⟨g, off, none⟩) n c] := by
    refine ⟨_, _, _, rfl, by simp, Nat.le_refl _, by simp [maxLen], fun _ => ⟨w.heap.size, 0, rfl, by simp, fun i hi => ?_⟩⟩
    obtain rfl : i = 0 := by omega
    rw [World.cell?_alloc_at _ _ _ _ rfl]
    rfl
  have hrow := h1.row.alloc (.cells #[.slice (some ⟨g, off, none⟩) n c] 27)
  have hz : base ≤ (w.alloc (.cells #[.slice (some ⟨g, off, none⟩) n c] 27)).heap.size := by simp; omega
  go_enter Try.func118, Try.ntmps118
  go_wp2_with (at_builtin; refine wpList_app rfl (.tmp 8) (.tmp 10) st_rows rfl base rfl hrow rfl hsl (by simp [Value.oneCell']) (by simp [maxLen]; omega) (by omega) hz ?_)
  intro A3 c3 w3 hown3 hg3 hf3
  have kw : Kept (fun b => Value.ownBlock (.slice Aa J.all.length ca) = some b) w w3 := ((Kept.refl _ w).alloc _).step (Kept.of_row hg3) (fun b hb => .inl hb.symm)
  have hj3 := blk_kept h1.blk kw h1.jr
  have q33 := (blk_cells hj3).1 3
  have f33 := (blk_cells hj3).2 3
  simp at q33
  have hal : w.heap.size ≤ (w.alloc (.cells #[.slice (some ⟨g, off, none⟩) n c] 27)).heap.size := by simp
  have hfr : ∀ b, Value.ownBlock (.slice A3 (J.all.length + 1) c3) = some b → Value.ownBlock (.slice Aa J.all.length ca) = some b ∨ w.heap.size ≤ b := fun b hb => by
    rcases hf3 with e | e
    · exact .inl (e ▸ hb)
    · rw [hb] at e
      injection e with e
      exact .inr (by omega)
  have hnj : Value.ownBlock (.slice A3 (J.all.length + 1) c3) ≠ some j := fun e => by
    rcases hfr j e with e | e
    · exact h1.jr e
    · omega
  have hb4 := blk_set hj3 3 (.slice A3 (J.all.length + 1) c3)
  simp at hb4
  have k4 : Kept (fun b => b = j) w3 (w3.setCell ⟨j, 3, none⟩ (.slice A3 (J.all.length + 1) c3)) := (Kept.refl (fun b => b = j) w3).setCell (p := ⟨j, 3, none⟩) (.inl rfl) _
  have hown4 := ownsRow_kept hown3 k4 (fun y hy e => hnj (e ▸ hy))
  clear hsl hrow hz hg3 hf3 cc ff q3 f3
  go_wp2_with fail
  clear q33 f33 hj3 hown3
  generalize w3.setCell ⟨j, 3, none⟩ (.slice A3 (J.all.length + 1) c3) = w4 at *
  have hjl4 : j < w4.heap.size := Nat.lt_of_lt_of_le hjl (Nat.le_trans kw.size k4.size)
  have htk : takesN n ≤ 1099511627776 := by unfold takesN; omega
  refine wp_region_loud (fun y => False ∨ y = j) [(3, loadL [100] (.int .i64 J.used) (BlkF j 201 #[.pointer (some ⟨d, 0, none⟩), .int .u64 J.gen, .int .i64 J.half, .slice A3 (J.all.length + 1) c3, .int .i64 J.used, .bool J.gone])), (6, plainL [] (.int .i64 (takesN n))),
      (10, factL [3] (fun _ => True) (fun _ => BlkF j 201 #[.pointer (some ⟨d, 0, none⟩), .int .u64 J.gen, .int .i64 J.half, .slice A3 (J.all.length + 1) c3, .int .i64 ((J.used + takesN n : Nat) : Int), .bool J.gone]))]
    (addL 100 (BlkF j 201 #[.pointer (some ⟨d, 0, none⟩), .int .u64 J.gen, .int .i64 J.half, .slice A3 (J.all.length + 1) c3, .int .i64 J.used, .bool J.gone]) (fun _ => Fact.none)) (by kernel_rfl) (by kernel_rfl)
    (.cons (loadL_ok _ _ (good_blk _ _ _)) (.cons (plainL_ok _ _) (.cons (factL_ok ⟨undef, trivial⟩ (fun _ => good_blk _ _ _)) .nil)))
    (good_add _ (good_blk _ _ _) good_nothing)
    (sat_add 100 sat_none (fun b _ h => h) (fun b (hb : b = j) => by omega) ⟨rfl, hb4⟩) (WX.out ?_)
  repeat (first | (refine wx_quietU (by rfl) (by rfl) (by rfl) (fun K hK => ?_); go_big_quiet_op; refine hK _ ?_; clear hK K) | (refine wx_quietG (by rfl) (by rfl) (by rfl) (by rfl) (by rfl) (fun K hK => ?_); go_big_quiet_op; refine hK _ ?_; clear hK K) | (refine wx_skipG (by rfl) (by rfl) (by rfl) (fun K hK => ?_); go_simp; refine hK _ ?_; clear hK K) | (refine wx_skipN (by rfl) (by rfl) (by rfl) (fun K hK => ?_); go_simp; refine hK _ ?_; clear hK K))
  refine wx_loudU (us := [100]) (by rfl) (by rfl) (fun S wS hC hS hU => ?_) (fun v hv K hK => ?_)
  · have hB : BlkF j 201 #[.pointer (some ⟨d, 0, none⟩), .int .u64 J.gen, .int .i64 J.half, .slice A3 (J.all.length + 1) c3, .int .i64 J.used, .bool J.gone] S wS := hU 100 (by simp)
    have hc4 := (blkF_cells hB).1 4
    simp at hc4
    exact load_x (by go_simp) (good_blk _ _ _) hB
  obtain rfl := hv; (go_simp; refine hK _ ?_; clear hK K)
  repeat (first | (refine wx_quietU (by rfl) (by rfl) (by rfl) (fun K hK => ?_); go_big_quiet_op; refine hK _ ?_; clear hK K) | (refine wx_quietG (by rfl) (by rfl) (by rfl) (by rfl) (by rfl) (fun K hK => ?_); go_big_quiet_op; refine hK _ ?_; clear hK K) | (refine wx_skipG (by rfl) (by rfl) (by rfl) (fun K hK => ?_); go_simp; refine hK _ ?_; clear hK K) | (refine wx_skipN (by rfl) (by rfl) (by rfl) (fun K hK => ?_); go_simp; refine hK _ ?_; clear hK K))
  refine wx_loudU (us := []) (by rfl) (by rfl) (fun S wS hC hS hU => runs_enter (f := 58) (by go_simp <;> rfl) ?_) (fun v hv K hK => ?_)
  · refine (takes_any n hn wS).mono ?_
    rintro e w9 ⟨rfl, rfl⟩
    exact ⟨_, rfl, rfl, Kept.refl _ _, trivial⟩
  obtain rfl := hv; (go_simp; refine hK _ ?_; clear hK K)
  repeat (first | (refine wx_quietU (by rfl) (by rfl) (by rfl) (fun K hK => ?_); go_big_quiet_op; refine hK _ ?_; clear hK K) | (refine wx_quietG (by rfl) (by rfl) (by rfl) (by rfl) (by rfl) (fun K hK => ?_); go_big_quiet_op; refine hK _ ?_; clear hK K) | (refine wx_skipG (by rfl) (by rfl) (by rfl) (fun K hK => ?_); go_simp; refine hK _ ?_; clear hK K) | (refine wx_skipN (by rfl) (by rfl) (by rfl) (fun K hK => ?_); go_simp; refine hK _ ?_; clear hK K))
  refine wx_loudU (us := [3]) (by rfl) (by rfl) (fun S wS hC hS hU => ?_) (fun v hv K hK => ?_)
  · have hB : BlkF j 201 #[.pointer (some ⟨d, 0, none⟩), .int .u64 J.gen, .int .i64 J.half, .slice A3 (J.all.length + 1) c3, .int .i64 J.used, .bool J.gone] S wS := hU 3 (by simp)
    obtain ⟨hc, hf⟩ := blkF_cells hB
    have hc4 := hc 4
    have hf4 := hf 4
    simp at hc4
    have hB9 := blk_set hB.2 4 (.int .i64 ((J.used : Int) + (takesN n : Int)))
    simp at hB9
    exact runs_skip (by go_simp <;> rfl) ⟨trivial, (Kept.refl _ _).setCell (.inl hB.1) _, .inl hB.1, by simpa using hB9⟩
  (go_simp; refine hK _ ?_; clear hK K)
  repeat (first | (refine wx_quietU (by rfl) (by rfl) (by rfl) (fun K hK => ?_); go_big_quiet_op; refine hK _ ?_; clear hK K) | (refine wx_quietG (by rfl) (by rfl) (by rfl) (by rfl) (by rfl) (fun K hK => ?_); go_big_quiet_op; refine hK _ ?_; clear hK K) | (refine wx_skipG (by rfl) (by rfl) (by rfl) (fun K hK => ?_); go_simp; refine hK _ ?_; clear hK K) | (refine wx_skipN (by rfl) (by rfl) (by rfl) (fun K hK => ?_); go_simp; refine hK _ ?_; clear hK K))
  refine wx_nil fun w9 hsat => ?_
  obtain ⟨S, hS, hfin⟩ := sat_get hsat 10
  have hB9 : w9.heap[j]? = some (.cells (jnC (addJ J l) d A3 c3) 201 (0, 0)) := by
    have := (hfin : BlkF j 201 #[.pointer (some ⟨d, 0, none⟩), .int .u64 J.gen, .int .i64 J.half, .slice A3 (J.all.length + 1) c3, .int .i64 ((J.used + takesN n : Nat) : Int), .bool J.gone] S w9).2
    rw [this]
    simp [addJ, hll]
  have k9 : Kept (fun b => b = j) w3 w9 := k4.step (hsat.1.wider (fun y hy => hy.elim False.elim id)) (fun b hb => .inl hb)
  have kall : Kept (fun b => b = j ∨ Value.ownBlock (.slice Aa J.all.length ca) = some b) w w9 := (kw.wider (fun b hb => .inr hb)).step k9 (fun b hb => .inl (.inl hb))
  have hown9 := ownsRow_kept hown4 (hsat.1.wider (fun y hy => hy.elim False.elim id) : Kept (fun b => b = j) w4 w9) (fun y hy e => hnj (e ▸ hy))
  have hgj : g ≠ j := fun e => hgK (.inr ((hK g).2 (.inl e)))
  have hgr : Value.ownBlock (.slice Aa J.all.length ca) ≠ some g := fun e => hgK (.inr ((hK g).2 (.inr (.inl e))))
  have hlen : (addJ J l).all.length = J.all.length + 1 := by simp [addJ]
  clear hsat hfin hown4 k9 k4 kw hb4 hal hjl4
  have hJ : Jd base w9 D (addJ J l) j d I (fun b => b = j ∨ Value.ownBlock (.slice A3 (addJ J l).all.length c3) = some b ∨ (E b ∨ b = g)) := by
    refine ⟨h.dk.kept kall (fun b hb e => h.dis b hb ((hK b).2 (by rcases e with e | e; exact .inl e; exact .inr (.inl e)))), ⟨A3, c3, vs ++ [.slice (some ⟨g, off, none⟩) n c], fun b => E b ∨ b = g, ?_, fun _ => Iff.rfl⟩, fun b hb e => ?_⟩
    · have hvl : vs.length = J.all.length := by simpa using h1.row.1
      refine ⟨hB9, by rw [hlen]; exact hown9, fun k hk => ?_, fun y hy => ?_, h1.jb, by rw [hlen]; exact hnj, fun e => ?_, fun y hy e => ?_⟩
      · rw [hlen] at hk
        by_cases hk2 : k < J.all.length
        · obtain ⟨g', off', n', c', e1, e2, e3⟩ := h1.ent k hk2
          refine ⟨g', off', n', c', by rw [List.getElem?_append_left (by omega)]; exact e1, ?_, .inl e3⟩
          have hg1 : ¬ (g' = j ∨ Value.ownBlock (.slice Aa J.all.length ca) = some g') := by
            rintro (e | e)
            · exact h1.je (e ▸ e3)
            · exact h1.re g' e e3
          have hs := sl_kept e2 kall (fun ad had => by injection had with had; subst had; exact hg1)
          have ee : (addJ J l).all.getD k [] = J.all.getD k [] := by
            simp only [addJ, List.getD_eq_getElem?_getD]
            rw [List.getElem?_append_left hk2]
          rw [ee]
          exact hs
        · obtain rfl : k = J.all.length := by omega
          refine ⟨g, off, n, c, by rw [← hvl, List.getElem?_append_right (Nat.le_refl _)]; simp, ?_, .inr rfl⟩
          have hs := sl_kept hl kall (fun ad had => by
            injection had with had
            subst had
            rintro (e | e)
            · exact hgj e
            · exact hgr e)
          have ee : (addJ J l).all.getD J.all.length [] = l := by simp [addJ, List.getD_eq_getElem?_getD]
          rw [ee]
          exact hs
      · rcases hy with hy | rfl
        · exact ⟨(h1.ebd y hy).1, Nat.lt_of_lt_of_le (h1.ebd y hy).2 kall.size⟩
        · exact ⟨hg.1, Nat.lt_of_lt_of_le hg.2 kall.size⟩
      · rcases e with e | e
        · exact h1.je e
        · exact hgj e.symm
      · rw [hlen] at hy
        rcases hfr y hy with h2 | h2
        · rcases e with e | e
          · exact h1.re y h2 e
          · exact hgr (e ▸ h2)
        · rcases e with e | e
          · have := (h1.ebd y e).2; omega
          · omega
    · rcases e with e | e | e | e
      · exact h.dis b hb ((hK b).2 (.inl e))
      · rw [hlen] at e
        rcases hfr b e with h2 | h2
        · exact h.dis b hb ((hK b).2 (.inr (.inl h2)))
        · have := (h.dk.bd b hb).2; omega
      · exact h.dis b hb ((hK b).2 (.inr (.inr e)))
      · exact hgK (.inl (e ▸ hb))
  have hkk : Kept K w w9 := kall.wider (fun b hb => (hK b).2 (by rcases hb with e | e; exact .inl e; exact .inr (.inl e)))
  have hKK : ∀ b, (b = j ∨ Value.ownBlock (.slice A3 (addJ J l).all.length c3) = some b ∨ (E b ∨ b = g)) → K b ∨ b = g ∨ w.heap.size ≤ b := by
    rintro b (e | e | e | e)
    · exact .inl ((hK b).2 (.inl e))
    · rw [hlen] at e
      rcases hfr b e with h2 | h2
      · exact .inl ((hK b).2 (.inr (.inl h2)))
      · exact .inr (.inr h2)
    · exact .inl ((hK b).2 (.inr (.inr e)))
    · exact .inr (.inl e)
  clear h1 h hB9 kall hown9 hfr hK hnj
  go_wp2_with fail
  exact bodyPost_end (v := .tuple #[]) (by simp [results, Try.results118, go_sem]) rfl ⟨rfl, _, hJ, hkk, hKK⟩
end Go.Proofs.Ytfhlidlmipleaaa
namespace Go.Proofs.Ytfhlidlmipleaaa
set_option linter.unusedVariables false
set_option linter.unusedSimpArgs false
open Go Go.RowKit LM

theorem sl_keptM {S : Nat → Prop} {w w' : World} {size n c : Nat} {A : Option Addr} {xs : List Value} (h : Sl w size (.slice A n c) xs) (hk : Kept S w w') (hs : 0 < n → ∀ ad, A = some ad → ¬ S ad.block) : Sl w' size (.slice A n c) xs := by
  by_cases h0 : 0 < n
  · exact sl_kept h hk (hs h0)
  · obtain ⟨A', n', c', he, hl, hnc, hcm, hr⟩ := h
    injection he with e1 e2 e3
    subst e1; subst e2; subst e3
    exact ⟨_, _, _, rfl, hl, hnc, hcm, fun hn => absurd hn h0⟩
/-- a slice of slices of bytes; F: the blocks of what it holds -/
structure Ents (w : World) (A : Option Addr) (n c : Nat) (vs : List Value) (ls : List (List UInt8)) (F : Nat → Prop) : Prop where
  row : Sl w 1 (.slice A n c) vs
  len : n = ls.length
  ent : ∀ k, k < ls.length → ∃ A' n' c', vs[k]? = some (.slice A' n' c') ∧ Sl w 1 (.slice A' n' c') (B8 (ls.getD k [])) ∧ (0 < n' → ∀ ad, A' = some ad → F ad.block)
theorem Ents.kept {S : Nat → Prop} {w w' : World} {A : Option Addr} {n c : Nat} {vs : List Value} {ls : List (List UInt8)} {F : Nat → Prop} (h : Ents w A n c vs ls F) (hk : Kept S w w') (hr : 0 < n → ∀ ad, A = some ad → ¬ S ad.block) (hF : ∀ b, F b → ¬ S b) : Ents w' A n c vs ls F :=
  ⟨sl_keptM h.row hk hr, h.len, fun k hk2 => by
    obtain ⟨A', n', c', h1, h2, h3⟩ := h.ent k hk2
    exact ⟨A', n', c', h1, sl_keptM h2 hk (fun h0 ad had => hF _ (h3 h0 ad had)), h3⟩⟩
theorem Ents.below {w w' : World} {A : Option Addr} {n c : Nat} {vs : List Value} {ls : List (List UInt8)} {F : Nat → Prop} (h : Ents w A n c vs ls F) (hb : Below w.heap.size w w') : Ents w' A n c vs ls F :=
  h.kept (S := fun _ => False) (Kept.of_below hb) (fun _ _ _ x => x) (fun _ _ x => x)
theorem Ents.at {w : World} {A : Option Addr} {n c : Nat} {vs : List Value} {ls : List (List UInt8)} {F : Nat → Prop} (h : Ents w A n c vs ls F) (k : Nat) (hk : k < n) :
    ∃ b off A' n' c', A = some ⟨b, off, none⟩ ∧ b < w.heap.size ∧ w.cell? ⟨b, off + k, none⟩ = some (.slice A' n' c') ∧ Sl w 1 (.slice A' n' c') (B8 (ls.getD k [])) ∧ (0 < n' → ∀ ad, A' = some ad → F ad.block) := by
  have hr := h.row
  obtain ⟨A', n', c', he, hl, _, _, hr⟩ := hr
  injection he with h1 h2 h3
  subst h1; subst h2; subst h3
  obtain ⟨b, off, rfl, hlt, hc⟩ := hr (by omega)
  obtain ⟨A', n', c', e1, e2, e3⟩ := h.ent k (by rw [← h.len]; exact hk)
  exact ⟨b, off, A', n', c', rfl, hlt, by rw [hc k (by omega), e1], e2, e3⟩
/-- a journal's row is one -/
theorem Jrn.ents {base : Nat} {w : World} {J : Jn} {j d : Nat} {K : Nat → Prop} (h : Jrn base w J j d K) : ∃ (Aa : Option Addr) (ca : Nat) (vs : List Value), w.cell? ⟨j, 3, none⟩ = some (.slice Aa J.all.length ca) ∧ Ents w Aa J.all.length ca vs J.all K ∧ ∀ ad, Aa = some ad → K ad.block := by
  obtain ⟨Aa, ca, vs, E, h, hK⟩ := h
  refine ⟨Aa, ca, vs, by have := (blk_cells h.blk).1 3; simpa using this, ⟨own_sl h.row, rfl, fun k hk => ?_⟩, fun ad had => (hK _).2 (.inr (.inl ?_))⟩
  · obtain ⟨g, off, n, c, e1, e2, e3⟩ := h.ent k hk
    exact ⟨_, _, _, e1, e2, fun _ ad had => by injection had with had; subst had; exact (hK g).2 (.inr (.inr e3))⟩
  · subst had
    rcases h.row.2 with ⟨hv, _⟩ | ⟨g, cap, cur, hv, _⟩
    · cases hv
    · injection hv with e1
      injection e1 with e1
      subst e1
      rfl
def mayL (sz : Nat) : List (List UInt8) → Nat → Int
  | [], u => if sz < u then 5 else 0
  | l :: t, u => if l.length = 0 ∨ 8192 < l.length then 1 else mayL sz t (u + takesN l.length)
def mayJ (D : Dk) (J : Jn) (ls : List (List UInt8)) (u : Nat) : Int := if J.gone = true then 2 else mayL (sizeJ D) ls u
set_option maxRecDepth 100000 in
set_option maxHeartbeats 3200000 in
theorem may_gone (base : Nat) (w : World) (D : Dk) (J : Jn) (j d : Nat) (I K : Nat → Prop) (h : Jd base w D J j d I K) (hg : J.gone = true) (v : Value) (u : Int) :
    Calls Try.prog 113 #[.pointer (some ⟨j, 0, none⟩), v, .int .i64 u] w fun e w' => e = .returned (.int .i64 2) ∧ w' = w := by
  obtain ⟨Aa, ca, hjl, _, _, q0, q1, q2, q3, q4, q5⟩ := h.jn.cells
  rw [hg] at q5
  clear q0 q1 q2 q3 q4 hg
  go_enter Try.func113, Try.ntmps113
  go_wp2_with fail
  go_ret
  exact ⟨rfl, rfl⟩
set_option maxRecDepth 100000 in
set_option maxHeartbeats 3200000 in
theorem may_any' (base : Nat) (w : World) (D : Dk) (J : Jn) (j d : Nat) (I K : Nat → Prop) (h : Jd base w D J j d I K) (h2 : 2 ≤ D.stay.length) (h3 : D.stay.length ≤ 1024) (hg : J.gone = false) (A : Option Addr) (n c : Nat) (vs : List Value) (ls : List (List UInt8)) (F : Nat → Prop) (hE : Ents w A n c vs ls F) (hn : n ≤ 1048576) (u : Nat) (hu : u ≤ 1099511627776) :
    Calls Try.prog 113 #[.pointer (some ⟨j, 0, none⟩), .slice A n c, .int .i64 u] w fun e w' => e = .returned (.int .i64 (mayL (sizeJ D) ls u)) ∧ w' = w := by
  obtain ⟨Aa, ca, hjl, _, _, q0, q1, q2, q3, q4, q5⟩ := h.jn.cells
  rw [hg] at q5
  clear q0 q1 q2 q3 q4
  obtain rfl := hE.len
  obtain ⟨hnc1, hnc2⟩ : ls.length ≤ c ∧ c ≤ 9223372036854775807 := by
    obtain ⟨A', n', c', he, _, e1, e2, _⟩ := hE.row
    injection he with h4 h5 h6
    subst h4; subst h5; subst h6
    exact ⟨e1, by simpa [maxLen] using e2⟩
  go_enter Try.func113, Try.ntmps113
  go_wp2_with fail
  go_loopw [2, 15] (fun v i wr => ∃ k uk : Nat, k ≤ ls.length ∧ i = .int .i64 k ∧ v = .int .i64 uk ∧ mayL (sizeJ D) ls u = mayL (sizeJ D) (ls.drop k) uk ∧ uk ≤ u + 130 * k ∧ wr = w) (fun _ i _ => ls.length - (intOf i).toNat)
  case atStart => exact ⟨0, u, Nat.zero_le _, rfl, rfl, rfl, by omega, rfl⟩
  case round =>
    obtain ⟨k, uk, hk, rfl, rfl, hm, huk, rfl⟩ := hrel
    by_cases hkn : k < ls.length
    · obtain ⟨b, off, A', n', c', rfl, hb, hcell, hs, _⟩ := hE.at k hkn
      have hlk := hs.len.1
      have hdr : ls.drop k = ls.getD k [] :: ls.drop (k + 1) := by
        rw [List.drop_eq_getElem_cons (by omega), List.getD_eq_getElem?_getD, List.getElem?_eq_getElem (by omega)]
        rfl
      rw [hdr] at hm
      have htk : n' ≤ 8192 → takesN n' ≤ 130 := fun _ => by unfold takesN; omega
      have HM : Hid (mayL (sizeJ D) ls u = if (ls.getD k []).length = 0 ∨ 8192 < (ls.getD k []).length then 1 else mayL (sizeJ D) (ls.drop (k + 1)) (uk + takesN (ls.getD k []).length)) := hid hm
      rw [hlk] at HM
      clear hm hdr hs hlk
      by_cases h0 : n' = 0
      · subst h0
        rw [if_pos (.inl rfl)] at HM
        go_wp2_with fail
        go_ret
        rw [HM.out]
        exact ⟨rfl, rfl⟩
      · by_cases h8 : 8192 < n'
        · rw [if_pos (.inr h8)] at HM
          have q0 : ((n' : Int) == 0) = false := by simpa using h0
          go_wp2_with fail
          go_ret
          rw [HM.out]
          exact ⟨rfl, rfl⟩
        · rw [if_neg (by omega)] at HM
          have htk2 := htk (by omega)
          have q0 : ((n' : Int) == 0) = false := by simpa using h0
          clear htk
          go_wp2_with fail
          refine (takes_any n' (by omega) _).mono ?_
          rintro e w9 ⟨rfl, rfl⟩
          go_wp2_with fail
          go_light
          exact ⟨⟨k + 1, uk + takesN n', by omega, by go_num, by go_num, HM.out, by omega, trivial⟩, by simp [intOf]; omega⟩
    · obtain rfl : k = ls.length := by omega
      rw [List.drop_length] at hm
      have HM : Hid (mayL (sizeJ D) ls u = if sizeJ D < uk then 5 else 0) := hid hm
      have hsz := sizeJ_le h3
      clear hm
      by_cases hsu : sizeJ D < uk
      · rw [if_pos hsu] at HM
        go_wp2_with fail
        refine (size_any' base _ D J j d I K h.dk h.jn h2 h3).mono ?_
        rintro e w9 ⟨rfl, rfl⟩
        go_wp2_with fail
        go_ret
        rw [HM.out]
        exact ⟨rfl, rfl⟩
      · rw [if_neg hsu] at HM
        go_wp2_with fail
        refine (size_any' base _ D J j d I K h.dk h.jn h2 h3).mono ?_
        rintro e w9 ⟨rfl, rfl⟩
        go_wp2_with fail
        go_ret
        rw [HM.out]
        exact ⟨rfl, rfl⟩
def freeJ (D : Dk) (J : Jn) : Int := if J.gone = true then 0 else (sizeJ D : Int) - J.used
set_option maxRecDepth 100000 in
set_option maxHeartbeats 800000 in
theorem free_none (w : World) : Calls Try.prog 68 #[.pointer none] w fun e w' => e = .returned (.int .i64 0) ∧ w' = w := by
  go_enter Try.func68, Try.ntmps68
  go_wp2_with fail
  go_ret
  exact ⟨rfl, rfl⟩
set_option maxRecDepth 100000 in
set_option maxHeartbeats 800000 in
theorem free_any (base : Nat) (w : World) (D : Dk) (J : Jn) (j d : Nat) (I K : Nat → Prop) (h : Jd base w D J j d I K) (h2 : 2 ≤ D.stay.length) (h3 : D.stay.length ≤ 1024) (hu : J.used ≤ 1099511627776) :
    Calls Try.prog 68 #[.pointer (some ⟨j, 0, none⟩)] w fun e w' => e = .returned (.int .i64 (freeJ D J)) ∧ Below w.heap.size w w' := by
  obtain ⟨Aa, ca, hjl, _, _, q0, q1, q2, q3, q4, q5⟩ := h.jn.cells
  have z4 := fun (z : WK (fun _ => False) w) => (wat_cell (p := ⟨j, 4, none⟩) hjl (fun e => e) z).trans q4
  clear q0 q1 q2 q3 q4
  have hsz := sizeJ_le h3
  cases hg : J.gone with
  | true =>
    have HF : freeJ D J = 0 := by unfold freeJ; rw [if_pos hg]
    rw [HF]
    rw [hg] at q5
    clear HF hg z4
    go_enter Try.func68, Try.ntmps68
    go_wp2_with fail
    go_ret
    exact ⟨rfl, Below.refl _ _⟩
  | false =>
    have HF : freeJ D J = (sizeJ D : Int) - J.used := by unfold freeJ; rw [if_neg (by rw [hg]; exact Bool.false_ne_true)]
    rw [HF]
    rw [hg] at q5
    clear HF hg
    go_enter Try.func68, Try.ntmps68
    go_wp2_with fail
    refine wp_region_loud (fun _ => False) [(1, plainL [] (.int .i64 (sizeJ D)))] (fun _ => Fact.none) (by kernel_rfl) (by kernel_rfl) (.cons (plainL_ok _ _) .nil) good_nothing sat_none (WX.out ?_)
    repeat (first | (refine wx_quietU (by rfl) (by rfl) (by rfl) (fun K hK => ?_); go_big_quiet_op; refine hK _ ?_; clear hK K) | (refine wx_quietG (by rfl) (by rfl) (by rfl) (by rfl) (by rfl) (fun K hK => ?_); go_big_quiet_op; refine hK _ ?_; clear hK K) | (refine wx_skipG (by rfl) (by rfl) (by rfl) (fun K hK => ?_); go_simp; refine hK _ ?_; clear hK K) | (refine wx_skipN (by rfl) (by rfl) (by rfl) (fun K hK => ?_); go_simp; refine hK _ ?_; clear hK K))
    refine wx_loudU (us := []) (by rfl) (by rfl) (fun S wS hC hS hU => runs_enter (f := 122) (by go_simp <;> rfl) ?_) (fun v hv K hK => ?_)
    · refine (size_any' base wS D J j d I K (h.dk.below hC.below) (h.jn.below hC.below) h2 h3).mono ?_
      rintro e w9 ⟨rfl, rfl⟩
      exact ⟨_, rfl, rfl, Kept.refl _ _, trivial⟩
    obtain rfl := hv; (go_simp; refine hK _ ?_; clear hK K)
    repeat (first | (refine wx_quietU (by rfl) (by rfl) (by rfl) (fun K hK => ?_); go_big_quiet_op; refine hK _ ?_; clear hK K) | (refine wx_quietG (by rfl) (by rfl) (by rfl) (by rfl) (by rfl) (fun K hK => ?_); go_big_quiet_op; refine hK _ ?_; clear hK K) | (refine wx_skipG (by rfl) (by rfl) (by rfl) (fun K hK => ?_); go_simp; refine hK _ ?_; clear hK K) | (refine wx_skipN (by rfl) (by rfl) (by rfl) (fun K hK => ?_); go_simp; refine hK _ ?_; clear hK K))
    refine wx_nil fun w9 hsat => ?_
    have hb9 := sat_below hsat
    clear hsat z4
    go_wp2_with fail
    go_ret
    exact ⟨rfl, hb9⟩
end Go.Proofs.Ytfhlidlmipleaaa
namespace Go.Proofs.Ytfhlidlmipleaaa
set_option linter.unusedVariables false
set_option linter.unusedSimpArgs false
open Go Go.RowKit LM

def Entv (w : World) (vs : List Value) (ls : List (List UInt8)) (F : Nat → Prop) : Prop :=
  ∀ k, k < ls.length → ∃ A' n' c', vs[k]? = some (.slice A' n' c') ∧ Sl w 1 (.slice A' n' c') (B8 (ls.getD k [])) ∧ (0 < n' → ∀ ad, A' = some ad → F ad.block)
theorem Entv.kept {S : Nat → Prop} {w w' : World} {vs : List Value} {ls : List (List UInt8)} {F : Nat → Prop} (h : Entv w vs ls F) (hk : Kept S w w') (hF : ∀ b, F b → b < w.heap.size → ¬ S b) : Entv w' vs ls F := fun k hk2 => by
  obtain ⟨A', n', c', h1, h2, h3⟩ := h k hk2
  refine ⟨A', n', c', h1, sl_keptM h2 hk (fun h0 ad had => hF _ (h3 h0 ad had) ?_), h3⟩
  obtain ⟨A2, n2, c2, he, _, _, _, hr⟩ := h2
  injection he with e1 e2 e3
  subst e1; subst e2; subst e3
  obtain ⟨b, off, rfl, hb, _⟩ := hr h0
  injection had with had
  subst had
  exact hb
theorem Entv.below {w w' : World} {vs : List Value} {ls : List (List UInt8)} {F : Nat → Prop} (h : Entv w vs ls F) (hb : Below w.heap.size w w') : Entv w' vs ls F := h.kept (S := fun _ => False) (Kept.of_below hb) (fun _ _ _ x => x)
theorem Entv.snoc {w : World} {vs : List Value} {ls : List (List UInt8)} {F : Nat → Prop} (h : Entv w vs ls F) (hl : vs.length = ls.length) {A : Option Addr} {n c : Nat} {l : List UInt8} (hs : Sl w 1 (.slice A n c) (B8 l)) (hF : 0 < n → ∀ ad, A = some ad → F ad.block) : Entv w (vs ++ [.slice A n c]) (ls ++ [l]) F := fun k hk => by
  simp at hk
  by_cases h1 : k < ls.length
  · obtain ⟨A', n', c', e1, e2, e3⟩ := h k h1
    refine ⟨A', n', c', by rw [List.getElem?_append_left (by omega)]; exact e1, ?_, e3⟩
    rw [List.getD_eq_getElem?_getD, List.getElem?_append_left h1, ← List.getD_eq_getElem?_getD]
    exact e2
  · obtain rfl : k = ls.length := by omega
    refine ⟨A, n, c, by rw [List.getElem?_append_right (by omega)]; simp [hl], ?_, hF⟩
    rw [List.getD_eq_getElem?_getD, List.getElem?_append_right (by omega)]
    simpa using hs
theorem Entv.weak {w : World} {vs : List Value} {ls : List (List UInt8)} {F F' : Nat → Prop} (h : Entv w vs ls F) (hF : ∀ b, F b → F' b) : Entv w vs ls F' := fun k hk => by
  obtain ⟨A', n', c', h1, h2, h3⟩ := h k hk
  exact ⟨A', n', c', h1, h2, fun h0 ad had => hF _ (h3 h0 ad had)⟩
structure JOk (J : Jn) : Prop where
  half : J.half < 2
  gen : J.gen < 9223372036854775807
  used : J.used ≤ 1024
  few : J.all.length ≤ 1024
  ent : ∀ l ∈ J.all, 1 ≤ l.length ∧ l.length ≤ 8192
def allJ (J : Jn) : List (List UInt8) := if J.gone = true then [] else J.all
set_option maxRecDepth 100000 in
set_option maxHeartbeats 400000 in
theorem all_none (w : World) : Calls Try.prog 62 #[.pointer none] w fun e w' => e = .returned (.slice none 0 0) ∧ w' = w := by
  go_enter Try.func62, Try.ntmps62
  go_wp2_with fail
  go_ret
  exact ⟨rfl, rfl⟩
set_option maxRecDepth 100000 in
set_option maxHeartbeats 1600000 in
theorem all_any (base : Nat) (w : World) (J : Jn) (j d : Nat) (K : Nat → Prop) (h : Jrn base w J j d K) (hO : JOk J) :
    Calls Try.prog 62 #[.pointer (some ⟨j, 0, none⟩)] w fun e w' => ∃ A c vs E, e = .returned (.slice A (allJ J).length c) ∧ w'.ownsRow w.heap.size 27 1 (.slice A (allJ J).length c) (allJ J).length vs ∧ Entv w' vs (allJ J) E ∧ (∀ b, E b → w.heap.size ≤ b ∧ b < w'.heap.size ∧ Value.ownBlock (.slice A (allJ J).length c) ≠ some b) ∧ Below w.heap.size w w' := by
  obtain ⟨Aa, ca, hjl, hca1, hca2, q0, q1, q2, q3, q4, q5⟩ := h.cells
  cases hg : J.gone with
  | true =>
    have HA : allJ J = [] := by unfold allJ; rw [if_pos hg]
    rw [HA]
    rw [hg] at q5
    clear q0 q1 q2 q3 q4 HA
    go_enter Try.func62, Try.ntmps62
    go_wp2_with fail
    go_ret
    exact ⟨none, 0, [], fun _ => False, rfl, World.ownsRow_nil _ _ _ _, fun k hk => absurd hk (by simp), fun _ h => h.elim, Below.refl _ _⟩
  | false =>
    have HA : allJ J = J.all := by unfold allJ; rw [if_neg (by rw [hg]; exact Bool.false_ne_true)]
    rw [HA]
    rw [hg] at q5
    clear q0 q1 q2 q4 HA
    obtain ⟨A0, c0, vs0, E0, hJ, hK⟩ := h
    have hq := (blk_cells hJ.blk).1 3
    simp at hq
    rw [hq] at q3
    injection q3 with q3
    injection q3 with e1 e2 e3
    subst e1; subst e3
    have hrow := own_sl hJ.row
    go_enter Try.func62, Try.ntmps62
    go_wp2_with fail
    go_loopw [3, 19] (fun v i wr => ∃ (k : Nat) (A : Option Addr) (c : Nat) (vs : List Value) (E : Nat → Prop), k ≤ J.all.length ∧ i = .int .i64 k ∧ v = .slice A k c ∧ wr.ownsRow w.heap.size 27 1 (.slice A k c) k vs ∧ Entv wr vs (J.all.take k) E ∧ (∀ b, E b → w.heap.size ≤ b ∧ b < wr.heap.size ∧ Value.ownBlock (.slice A k c) ≠ some b) ∧ Below w.heap.size w wr) (fun _ i _ => J.all.length - (intOf i).toNat)
    case atStart => exact ⟨0, none, 0, [], fun _ => False, Nat.zero_le _, rfl, rfl, World.ownsRow_nil _ _ _ _, fun k hk => absurd hk (by simp), fun _ h => h.elim, Below.refl _ _⟩
    case round =>
      obtain ⟨k, A, c, vs, E, hk, rfl, rfl, hown, hev, hE, hb⟩ := hrel
      by_cases hkn : k < J.all.length
      · obtain ⟨g, off, n', c', e1, e2, e3⟩ := hJ.ent k hkn
        have hlen := hO.ent (J.all.getD k []) (by rw [List.getD_eq_getElem?_getD, List.getElem?_eq_getElem hkn]; exact List.getElem_mem hkn)
        have hn' := e2.len.1
        obtain ⟨b, offb, rfl, hbl, hcell⟩ : ∃ b offb, A0 = some ⟨b, offb, none⟩ ∧ b < w.heap.size ∧ w.cell? ⟨b, offb + k, none⟩ = some (.slice (some ⟨g, off, none⟩) n' c') := by
          obtain ⟨A', n2, c2, he, hl2, _, _, hr⟩ := hrow
          injection he with h1 h2 h3
          subst h1; subst h2; subst h3
          obtain ⟨b, offb, rfl, hlt, hc⟩ := hr (by omega)
          exact ⟨b, offb, rfl, hlt, by rw [hc k (by omega), e1]⟩
        have hcr := (hb.cell (p := ⟨b, offb + k, none⟩) hbl).trans hcell
        have hsr := e2.below hb
        have htk : J.all.take (k + 1) = J.all.take k ++ [J.all.getD k []] := by
          rw [List.take_add_one, List.getElem?_eq_getElem hkn, List.getD_eq_getElem?_getD, List.getElem?_eq_getElem hkn]
          rfl
        have HT := hid htk
        have hvl : vs.length = (J.all.take k).length := by have := hown.1; simp at this ⊢; omega
        clear htk e1 e2 e3 hcell hq hJ hrow
        go_wp2_with fail
        refine (clone_any g off n' c' (J.all.getD k []) wr hsr (by omega)).mono ?_
        rintro e w5 ⟨A5, c5, rfl, hown5, hb5⟩
        have hb6 := hb.trans (hb5.mono hb.size)
        have ho6 := own_below hown hb5
        have hev5 := hev.below hb5
        have hs5 := own_sl hown5
        obtain ⟨g5, rfl, hg5, hg5'⟩ := own_some hown5 (by omega)
        have hF5 : 0 < n' → ∀ ad, (some ⟨g5, 0, none⟩ : Option Addr) = some ad → (E ad.block ∨ ad.block = g5) := fun h0 ad had => by
          injection had with had
          subst had
          exact .inr rfl
        have hbsz := hb.size
        have hrowlt : ∀ b, Value.ownBlock (.slice A k c) = some b → b < wr.heap.size := fun b hb => (hown.lt b hb).2
        have hsl : Sl (w5.alloc (.cells #[.slice (some ⟨g5, 0, none⟩) n' c5] 27)) 1 (.slice (some ⟨w5.heap.size, 0, none⟩) 1 1) [.slice (some ⟨g5, 0, none⟩) n' c5] := by
          refine ⟨_, _, _, rfl, by simp, Nat.le_refl _, by simp [maxLen], fun _ => ⟨w5.heap.size, 0, rfl, by simp, fun i hi => ?_⟩⟩
          obtain rfl : i = 0 := by omega
          rw [World.cell?_alloc_at _ _ _ _ rfl]
          rfl
        have hrow := ho6.alloc (.cells #[.slice (some ⟨g5, 0, none⟩) n' c5] 27)
        have hz : w.heap.size ≤ (w5.alloc (.cells #[.slice (some ⟨g5, 0, none⟩) n' c5] 27)).heap.size := by have := hb6.size; simp; omega
        have hba := hb6.alloc hb6.size (.cells #[.slice (some ⟨g5, 0, none⟩) n' c5] 27)
        have hsn : Entv (w5.alloc (.cells #[.slice (some ⟨g5, 0, none⟩) n' c5] 27)) (vs ++ [.slice (some ⟨g5, 0, none⟩) n' c5]) (J.all.take (k + 1)) (fun b => E b ∨ b = g5) := by
          rw [HT.out]
          exact (Entv.snoc (hev5.weak (fun b hb => .inl hb)) hvl hs5 hF5).below ((Below.refl _ _).alloc (Nat.le_refl _) _)
        have hfew := hO.few
        clear hev hev5 hs5 hown ho6 hown5 hsr hb hcr
        go_wp2_with (at_builtin; refine wpList_app rfl (.tmp 23) (.tmp 26) st_rows rfl w.heap.size rfl hrow rfl hsl (by simp [Value.oneCell']) (by simp [maxLen]; omega) (by omega) hz ?_)
        intro A7 c7 w7 hown7 hg7 hf7
        have hb7 := hba.trans (grown_below hrow hg7 hz)
        have hk7 : Kept (fun b => Value.ownBlock (.slice A k c) = some b) (w5.alloc (.cells #[.slice (some ⟨g5, 0, none⟩) n' c5] 27)) w7 := (Kept.of_row hg7).wider (fun b hb => hb.symm)
        have hnew : ∀ b, Value.ownBlock (.slice A7 (k + 1) c7) = some b → Value.ownBlock (.slice A k c) = some b ∨ w5.heap.size < b := fun b hb => by
          rcases hf7 with e | e
          · exact .inl (e ▸ hb)
          · rw [hb] at e
            injection e with e
            try simp at e
            exact .inr (by omega)
        have h5sz := hb5.size
        have hEE : ∀ b, (E b ∨ b = g5) → w.heap.size ≤ b ∧ b < w5.heap.size ∧ Value.ownBlock (.slice A k c) ≠ some b := by
          rintro b (e | rfl)
          · exact ⟨(hE b e).1, by have := (hE b e).2.1; omega, (hE b e).2.2⟩
          · exact ⟨by omega, hg5', fun e => by have := hrowlt _ e; omega⟩
        have hev7 := hsn.kept hk7 (fun b hb _ => (hEE b hb).2.2)
        have hE7 : ∀ b, (E b ∨ b = g5) → w.heap.size ≤ b ∧ b < w7.heap.size ∧ Value.ownBlock (.slice A7 (k + 1) c7) ≠ some b := fun b hb => by
          obtain ⟨e1, e2, e3⟩ := hEE b hb
          have := hg7.size
          simp at this
          refine ⟨e1, by omega, fun e => ?_⟩
          rcases hnew b e with h | h
          · exact e3 h
          · omega
        clear hsn hk7 hEE hnew hg7 hf7 hrow hba hF5 hE hsl
        go_wp2_with fail
        go_light
        exact ⟨⟨k + 1, A7, c7, _, _, by omega, by go_num, rfl, hown7, hev7, hE7, hb7⟩, by simp [intOf]; omega⟩
      · obtain rfl : k = J.all.length := by omega
        rw [List.take_length] at hev
        go_wp2_with fail
        go_ret
        exact ⟨A, c, vs, E, rfl, hown, hev, hE, hb⟩
end Go.Proofs.Ytfhlidlmipleaaa
