/-
  Sums of texts (for a seat without the reference's Digits).
-/
import Derived.Test.YtecfkhgocjbocaaGreatDoorScM
import Derived.Test.YtecfkhgocjbocaaGreatDoorBl
import Derived.Test.YtecfkhgocjbocaaGreatDoorRg1
namespace Go.Proofs.YtecfkhgocjbocaaGreatDoor
set_option linter.unusedVariables false
set_option linter.unusedSimpArgs false
open Go Go.RowKit

theorem cat8 {w : World} (a b c : List UInt8) (h : c = a ++ b) (hl : a.length + b.length ≤ 1000000000) : (Op.stringOp .add (S8 a) (S8 b)).run Tryz.prog w = .ok (.string (S8 c)) w := by
  rw [h, ← S8_add]
  exact run_string_add_sum w (S8 a) (S8 b) (by rw [S8_size, S8_size]; omega)
theorem u32_and_255 (x : Nat) (h : x < 4294967296) : wrap64 (bits .and .u32 (x : Int) 255) = ((x % 256 : Nat) : Int) := by
  have e1 : (BitVec.ofInt 32 (x : Int)).toNat = x := by rw [BitVec.toNat_ofInt]; omega
  have e2 : (BitVec.ofInt 32 (255 : Int)).toNat = 255 := by decide
  have h2 : bits .and .u32 (x : Int) 255 = ((x % 256 : Nat) : Int) := by
    show IntKind.u32.wrap ((BitVec.ofInt 32 (x : Int) &&& BitVec.ofInt 32 (255 : Int)).toNat : Int) = _
    rw [BitVec.toNat_and, e1, e2, show (255 : Nat) = 2 ^ 8 - 1 by decide, Nat.and_two_pow_sub_one_eq_mod, IntKind.wrap_u32]
    omega
  rw [h2]
  unfold wrap64
  omega
end Go.Proofs.YtecfkhgocjbocaaGreatDoor
