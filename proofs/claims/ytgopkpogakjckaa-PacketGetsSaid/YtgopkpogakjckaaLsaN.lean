/-
  Plain words of layer 10: numbers out of bytes.
-/
import Derived.Test.YtgopkpogakjckaaLsaM
namespace Go.Proofs.Ytgopkpogakjckaa.LM
set_option linter.unusedVariables false
set_option linter.unusedSimpArgs false

/-- the number that so many bytes are -/
def nv (l : List UInt8) : Nat → Nat
  | 0 => 0
  | k + 1 => nv l k * 256 + byt l k
theorem nv_lt (l : List UInt8) (k : Nat) : nv l k < 256 ^ k := by
  induction k with
  | zero => simp [nv]
  | succ k ih => have := byt_lt l k; simp only [nv, Nat.pow_succ]; omega
theorem nv_bd (l : List UInt8) (k : Nat) (h : k ≤ 4) : nv l k < 4294967296 := by
  have h1 := nv_lt l k
  have h2 : 256 ^ k ≤ 256 ^ 4 := Nat.pow_le_pow_right (by omega) h
  have h3 : (256 : Nat) ^ 4 = 4294967296 := by decide
  omega
theorem nv_bd3 (l : List UInt8) (k : Nat) (h : k ≤ 3) : nv l k < 16777216 := by
  have h1 := nv_lt l k
  have h2 : 256 ^ k ≤ 256 ^ 3 := Nat.pow_le_pow_right (by omega) h
  have h3 : (256 : Nat) ^ 3 = 16777216 := by decide
  omega
/-- a reader's number, and what is left -/
def takeV (l : List UInt8) (k : Nat) : Nat := if l.length < k then 0 else nv l k
def takeR (l : List UInt8) (k : Nat) : List UInt8 := if l.length < k then [] else l.drop k
theorem takeV_bd (l : List UInt8) (k : Nat) (h : k ≤ 4) : takeV l k < 4294967296 := by
  unfold takeV
  split
  · omega
  · exact nv_bd l k h

end Go.Proofs.Ytgopkpogakjckaa.LM
