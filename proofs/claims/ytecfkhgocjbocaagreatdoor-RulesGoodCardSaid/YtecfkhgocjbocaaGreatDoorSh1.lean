/-
  The shelf's contracts laid at this program, in plain words: n137.
-/
import Derived.Test.YtecfkhgocjbocaaGreatDoorProg
import Derived.Shelf.Small.Strs
namespace Go.Proofs.YtecfkhgocjbocaaGreatDoor
set_option linter.unusedVariables false
open Go.Shelf
def Tryz.lays137_ren : Go.Shelf.Ren := ⟨fun | 137 => 107 | 217 => 130 | 266 => 148 | n => n, fun n => n, fun n => n⟩
theorem Tryz.lays137 : Lays.n137 Tryz.prog Tryz.lays137_ren := 
  { mixed := by kernel_rfl
    f137 := Tryz.func107.trans (congrArg some (by kernel_rfl))
    f217 := Tryz.func130.trans (congrArg some (by kernel_rfl))
    f266 := Tryz.func148.trans (congrArg some (by kernel_rfl))
    t3 := Tryz.underlying3
    a3 := Tryz.isAgg3
    z3 := Tryz.sizeOf3
    v3 := Tryz.zeroValue3
    t5 := Tryz.underlying5
    a5 := Tryz.isAgg5
    z5 := Tryz.sizeOf5
    v5 := Tryz.zeroValue5
    t9 := Tryz.underlying9
    a9 := Tryz.isAgg9
    z9 := Tryz.sizeOf9
    v9 := Tryz.zeroValue9 }
end Go.Proofs.YtecfkhgocjbocaaGreatDoor
