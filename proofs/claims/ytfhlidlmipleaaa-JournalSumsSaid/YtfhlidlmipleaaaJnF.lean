/-
  What 'stays' of the law comes to, reckoned.
-/
import Derived.Test.YtfhlidlmipleaaaJnE
namespace Go.Proofs.Ytfhlidlmipleaaa
set_option linter.unusedVariables false
set_option linter.unusedSimpArgs false
open Go Go.RowKit LM

def sd0 : Dk := newD 8
def sd1 : Dk := beginD sd0
def sj1 : Jn := ⟨1, 0, [], 0, false⟩
def sone : List UInt8 := [111, 110, 101]
theorem st_cur0 : curN sd0 2 = (0, 0) := by kernel_rfl
theorem st_e1 : wrE sd0 (1 - ((0 + 1) % 2 : Nat)) zero64 = 0 := by kernel_rfl
theorem st_e2 : sureE (wrD sd0 (1 - ((0 + 1) % 2 : Nat)) zero64) ((0 + 1) % 2 : Nat) (slotJ (0 + 1) 0) = 0 := by kernel_rfl
theorem st_crc : crcOf [49, 50, 51, 52, 53, 54, 55, 56, 57] = 3421780262 := by kernel_rfl
theorem st_app : (appS sd1 sj1 sone).2.2 = 0 := by kernel_rfl
theorem st_appJ : (appS sd1 sj1 sone).2.1 = ⟨1, 0, [sone], 1, false⟩ := by kernel_rfl
def sd2 : Dk := (appS sd1 sj1 sone).1
theorem st_cur2 : curN sd2 2 = (1, 0) := by kernel_rfl
theorem st_off2 : sd2.off = false := by kernel_rfl
theorem st_open : openJ sd2 = ⟨1, 0, [sone], 1, false⟩ := by kernel_rfl
theorem st_size : sizeJ sd2 = 3 := by kernel_rfl
end Go.Proofs.Ytfhlidlmipleaaa
