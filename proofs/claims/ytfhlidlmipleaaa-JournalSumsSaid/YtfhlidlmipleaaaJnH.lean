/-
  The reference's Crc and Takes.
-/
import Derived.Test.YtfhlidlmipleaaaJnG
namespace Go.Proofs.Ytfhlidlmipleaaa
set_option linter.unusedVariables false
set_option linter.unusedSimpArgs false
open Go Go.RowKit LM

def bitR (l : List UInt8) (i : Nat) : Nat := byt l (i / 8) / 2 ^ (i % 8) % 2
def refR (l : List UInt8) : Nat → Nat
  | 0 => 4294967295
  | i + 1 => if refR l i % 2 ≠ bitR l i then (refR l i / 2) ^^^ 3988292384 else refR l i / 2
theorem refR_lt (l : List UInt8) (i : Nat) : refR l i < 4294967296 := by
  induction i with
  | zero => simp [refR]
  | succ i ih =>
    unfold refR
    split
    · exact Nat.xor_lt_two_pow (n := 32) (by omega) (by omega)
    · omega
theorem xor_half (a b : Nat) : (a ^^^ b) / 2 = a / 2 ^^^ b / 2 := by
  apply Nat.eq_of_testBit_eq
  intro i
  simp [Nat.testBit_div_two, Nat.testBit_xor]
theorem xor_mod2 (a b : Nat) : (a ^^^ b) % 2 = (a % 2 + b % 2) % 2 := by
  have h : (a ^^^ b).testBit 0 = (a.testBit 0 ^^ b.testBit 0) := Nat.testBit_xor a b 0
  simp only [Nat.testBit_zero] at h
  rcases Nat.mod_two_eq_zero_or_one a with ha | ha <;> rcases Nat.mod_two_eq_zero_or_one b with hb | hb <;> rcases Nat.mod_two_eq_zero_or_one (a ^^^ b) with hc | hc <;> rw [ha, hb, hc] at h <;> rw [ha, hb, hc] <;> simp at h ⊢
theorem xor_lc (a b c : Nat) : a ^^^ (b ^^^ c) = b ^^^ (a ^^^ c) := by rw [← Nat.xor_assoc, Nat.xor_comm a b, Nat.xor_assoc]
theorem refR_step (l : List UInt8) (k j : Nat) (hj : j ≤ 8) : refR l (8 * k + j) ^^^ (byt l k / 2 ^ j) = crcN j (refR l (8 * k) ^^^ byt l k) := by
  induction j with
  | zero => simp [crcN]
  | succ j ih =>
    have ih := ih (by omega)
    show _ = crcStep (crcN j (refR l (8 * k) ^^^ byt l k))
    rw [← ih]
    have e1 : (8 * k + j) / 8 = k := by omega
    have e2 : (8 * k + j) % 8 = j := by omega
    rw [← Nat.add_assoc]
    have hR : refR l (8 * k + j + 1) = if refR l (8 * k + j) % 2 ≠ byt l k / 2 ^ j % 2 then (refR l (8 * k + j) / 2) ^^^ 3988292384 else refR l (8 * k + j) / 2 := by
      show (if refR l (8 * k + j) % 2 ≠ bitR l (8 * k + j) then _ else _) = _
      unfold bitR
      rw [e1, e2]
    rw [hR, Nat.pow_succ, ← Nat.div_div_eq_div_mul]
    generalize refR l (8 * k + j) = r
    generalize byt l k / 2 ^ j = z
    unfold crcStep
    rw [xor_half, xor_mod2]
    rcases Nat.mod_two_eq_zero_or_one r with ha | ha <;> rcases Nat.mod_two_eq_zero_or_one z with hb | hb <;> rw [ha, hb] <;> simp [Nat.xor_assoc, Nat.xor_comm, xor_lc]
theorem refR_crc (l : List UInt8) (k : Nat) (hk : k ≤ l.length) : refR l (8 * k) = crcL 4294967295 (l.take k) := by
  induction k with
  | zero => simp [refR, crcL]
  | succ k ih =>
    have h := refR_step l k 8 (Nat.le_refl _)
    have hb := byt_lt l k
    rw [show byt l k / 2 ^ 8 = 0 by omega, Nat.xor_zero] at h
    rw [crcL_more _ _ _ (by omega), ← ih (by omega), show 8 * (k + 1) = 8 * k + 8 by omega, h]
    rfl
theorem crcOf_ref (l : List UInt8) : refR l (8 * l.length) ^^^ 4294967295 = crcOf l := by
  rw [refR_crc l _ (Nat.le_refl _), List.take_length, Nat.xor_comm, not32 _ (crcL_lt (by omega) l)]
  rfl
set_option maxRecDepth 100000 in
set_option maxHeartbeats 1600000 in
theorem refTakes_any (n : Nat) (hn : n ≤ 1048576) (w : World) :
    Calls Try.prog 59 #[.int .i64 n] w fun e w' => e = .returned (.int .i64 (takesN n)) ∧ w' = w := by
  go_enter Try.func59, Try.ntmps59
  go_wp2_with fail
  go_loopw [3] (fun i wr => ∃ k : Nat, k ≤ takesN n ∧ i = .int .i64 k ∧ wr = w) (fun i _ => takesN n - (intOf i).toNat)
  case atStart => exact ⟨0, Nat.zero_le _, rfl, rfl⟩
  case round =>
    obtain ⟨k, hk, rfl, rfl⟩ := hrel
    have ht : takesN n * 64 ≤ n + 82 ∧ n + 19 ≤ takesN n * 64 := by unfold takesN; omega
    by_cases hkt : k < takesN n
    · have hc : 64 * k < n + 19 := by unfold takesN at hkt; omega
      go_wp2_with fail
      go_light
      exact ⟨⟨k + 1, by omega, by go_num, trivial⟩, by simp [intOf]; omega⟩
    · obtain rfl : k = takesN n := by omega
      go_wp2_with fail
      go_ret
      exact ⟨rfl, rfl⟩
set_option maxRecDepth 100000 in
set_option maxHeartbeats 1600000 in
theorem refCrc_any (A : Option Addr) (n c : Nat) (l : List UInt8) (w : World) (hS : Sl w 1 (.slice A n c) (B8 l)) (hn8 : n ≤ 1048576) :
    Calls Try.prog 57 #[.slice A n c] w fun e w' => e = .returned (.int .u32 (crcOf l)) ∧ w' = w := by
  obtain ⟨hn, hnc, hc⟩ := hS.len
  have HC := hid (crcOf_ref l)
  rw [hn] at HC
  go_enter Try.func57, Try.ntmps57
  go_wp2_with fail
  go_loopw [3, 4] (fun v i wr => ∃ k : Nat, k ≤ 8 * n ∧ i = .int .i64 k ∧ v = .int .u32 (refR l k) ∧ wr = w) (fun _ i _ => 8 * n - (intOf i).toNat)
  case atStart => exact ⟨0, Nat.zero_le _, rfl, rfl, rfl⟩
  case round =>
    obtain ⟨k, hk, rfl, rfl, rfl⟩ := hrel
    have hr := refR_lt l k
    by_cases hkn : k < 8 * n
    · have HR : Hid (refR l (k + 1) = if refR l k % 2 ≠ bitR l k then (refR l k / 2) ^^^ 3988292384 else refR l k / 2) := hid rfl
      have HB : Hid (bitR l k = byt l (k / 8) / 2 ^ (k % 8) % 2) := hid rfl
      obtain ⟨b, off, rfl, hb, hcell⟩ := hS.byte (k := k / 8) (by omega)
      have hby := byt_lt l (k / 8)
      obtain ⟨q, hq⟩ : ∃ q, k / 8 = q := ⟨_, rfl⟩
      obtain ⟨j, hj⟩ : ∃ j, k % 8 = j := ⟨_, rfl⟩
      rw [hq] at hcell hby HB
      rw [hj] at HB
      have eq : (k : Int) / 8 = (q : Int) := by omega
      have ej : (k : Int) % 8 = (j : Int) := by omega
      have hj8 : j < 8 := by omega
      have hqn : q < n := by omega
      generalize byt l q = y at *
      generalize refR l k = r at *
      generalize bitR l k = bt at *
      clear hq hj
      have hz : y / 2 ^ j < 256 := Nat.lt_of_le_of_lt (Nat.div_le_self _ _) hby
      have b1 : bits BinOp.and IntKind.u32 (r : Int) 1 = ((r % 2 : Nat) : Int) := by
        rw [show (1 : Int) = ((1 : Nat) : Int) from rfl, and32 r 1 hr (by omega), Nat.and_one_is_mod]
      have b2 : bits BinOp.and IntKind.u32 ((y : Int) / 2 ^ j) 1 = (bt : Int) := by
        rw [HB.out, show ((y : Int) / 2 ^ j) = ((y / 2 ^ j : Nat) : Int) by simp, show (1 : Int) = ((1 : Nat) : Int) from rfl, and32 _ 1 (by omega) (by omega), Nat.and_one_is_mod]
      have x1 : bits BinOp.xor IntKind.u32 ((r : Int) / 2) 3988292384 = (((r / 2) ^^^ 3988292384 : Nat) : Int) := by
        rw [show ((r : Int) / 2) = ((r / 2 : Nat) : Int) by omega, show (3988292384 : Int) = ((3988292384 : Nat) : Int) from rfl, xor32 _ _ (by omega) (by omega)]
      obtain ⟨r2, hr2⟩ : ∃ r2, r % 2 = r2 := ⟨_, rfl⟩
      obtain ⟨rx, hrx⟩ : ∃ rx, (r / 2) ^^^ 3988292384 = rx := ⟨_, rfl⟩
      rw [hr2] at b1 HR
      rw [hrx] at x1 HR
      clear hr2 hrx
      by_cases hbt : r2 = bt
      · have qq : ((r2 : Int) != (bt : Int)) = false := by rw [hbt]; simp
        have HR2 : Hid (refR l (k + 1) = r / 2) := hid (by rw [HR.out, if_neg (by omega)])
        have hbt' := hid hbt
        clear hbt
        go_wp2_with fail
        go_light
        exact ⟨⟨k + 1, by omega, by go_num, by rw [HR2.out]; simp, trivial⟩, by simp [intOf]; omega⟩
      · have qq : ((r2 : Int) != (bt : Int)) = true := by simp; omega
        have HR2 : Hid (refR l (k + 1) = rx) := hid (by rw [HR.out, if_pos hbt])
        have hbt' := hid hbt
        clear hbt
        go_wp2_with fail
        go_light
        exact ⟨⟨k + 1, by omega, by go_num, by rw [HR2.out], trivial⟩, by simp [intOf]; omega⟩
    · obtain rfl : k = 8 * n := by omega
      have xe : bits BinOp.xor IntKind.u32 ((refR l (8 * n) : Nat) : Int) IntKind.u32.max = ((crcOf l : Nat) : Int) := by
        rw [show IntKind.u32.max = ((4294967295 : Nat) : Int) from rfl, xor32 _ _ hr (by omega), HC.out]
      have xe2 : bits BinOp.xor IntKind.u32 ((refR l (8 * n) : Nat) : Int) 4294967295 = ((crcOf l : Nat) : Int) := xe
      have hcl := crcOf_lt l
      generalize refR l (8 * n) = r at *
      go_wp2_with fail
      go_ret
      exact ⟨rfl, rfl⟩
end Go.Proofs.Ytfhlidlmipleaaa
