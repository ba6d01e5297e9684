/-
  The shelf's contracts laid at this program, in plain words: n137.
-/
import Derived.Test.YtgopkpogakjckaaProg
import Derived.Shelf.Small.Strs
namespace Go.Proofs.Ytgopkpogakjckaa
set_option linter.unusedVariables false
open Go.Shelf
def Try.lays137_ren : Go.Shelf.Ren := ⟨fun | 137 => 67 | 217 => 98 | 266 => 113 | n => n, fun n => n, fun n => n⟩
theorem Try.lays137 : Lays.n137 Try.prog Try.lays137_ren := 
  { mixed := by kernel_rfl
    f137 := Try.func67.trans (congrArg some (by kernel_rfl))
    f217 := Try.func98.trans (congrArg some (by kernel_rfl))
    f266 := Try.func113.trans (congrArg some (by kernel_rfl))
    t3 := Try.underlying3
    a3 := Try.isAgg3
    z3 := Try.sizeOf3
    v3 := Try.zeroValue3
    t5 := Try.underlying5
    a5 := Try.isAgg5
    z5 := Try.sizeOf5
    v5 := Try.zeroValue5
    t9 := Try.underlying9
    a9 := Try.isAgg9
    z9 := Try.sizeOf9
    v9 := Try.zeroValue9 }
end Go.Proofs.Ytgopkpogakjckaa
