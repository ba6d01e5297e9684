/-
  The shelf's contracts laid at this program, in plain words: n161, n137.
-/
import Derived.Test.YtfhlidlmipleaaaDoorProg
import Derived.Shelf.Strings.SlTrimAscii
import Derived.Shelf.Small.Strs
namespace Go.Proofs.YtfhlidlmipleaaaDoor
set_option linter.unusedVariables false
open Go.Shelf
def Tryd.lays161_ren : Go.Shelf.Ren := ⟨fun | 119 => 28 | 137 => 13 | 151 => 25 | 152 => 27 | 161 => 15 | 197 => 24 | 217 => 17 | 224 => 29 | 225 => 30 | 227 => 19 | 228 => 23 | 231 => 18 | 233 => 20 | 235 => 21 | 260 => 26 | 266 => 22 | n => n, fun | 46 => 48 | 105 => 43 | 116 => 38 | 117 => 39 | 119 => 47 | 124 => 42 | 138 => 50 | 139 => 51 | n => n, fun | 3 => 1 | 4 => 2 | n => n⟩
theorem Tryd.lays161 : Lays.n161 Tryd.prog Tryd.lays161_ren := 
  { mixed := by kernel_rfl
    f119 := Tryd.func28.trans (congrArg some (by kernel_rfl))
    f137 := Tryd.func13.trans (congrArg some (by kernel_rfl))
    f151 := Tryd.func25.trans (congrArg some (by kernel_rfl))
    f152 := Tryd.func27.trans (congrArg some (by kernel_rfl))
    f161 := Tryd.func15.trans (congrArg some (by kernel_rfl))
    f197 := Tryd.func24.trans (congrArg some (by kernel_rfl))
    f217 := Tryd.func17.trans (congrArg some (by kernel_rfl))
    f224 := Tryd.func29.trans (congrArg some (by kernel_rfl))
    f225 := Tryd.func30.trans (congrArg some (by kernel_rfl))
    f227 := Tryd.func19.trans (congrArg some (by kernel_rfl))
    f228 := Tryd.func23.trans (congrArg some (by kernel_rfl))
    f231 := Tryd.func18.trans (congrArg some (by kernel_rfl))
    f233 := Tryd.func20.trans (congrArg some (by kernel_rfl))
    f235 := Tryd.func21.trans (congrArg some (by kernel_rfl))
    f260 := Tryd.func26.trans (congrArg some (by kernel_rfl))
    f266 := Tryd.func22.trans (congrArg some (by kernel_rfl))
    t0 := Tryd.underlying0
    a0 := Tryd.isAgg0
    z0 := Tryd.sizeOf0
    v0 := Tryd.zeroValue0
    t3 := Tryd.underlying3
    a3 := Tryd.isAgg3
    z3 := Tryd.sizeOf3
    v3 := Tryd.zeroValue3
    t4 := Tryd.underlying4
    a4 := Tryd.isAgg4
    z4 := Tryd.sizeOf4
    v4 := Tryd.zeroValue4
    t5 := Tryd.underlying5
    a5 := Tryd.isAgg5
    z5 := Tryd.sizeOf5
    v5 := Tryd.zeroValue5
    t9 := Tryd.underlying9
    a9 := Tryd.isAgg9
    z9 := Tryd.sizeOf9
    v9 := Tryd.zeroValue9
    t21 := Tryd.underlying21
    a21 := Tryd.isAgg21
    z21 := Tryd.sizeOf21
    v21 := Tryd.zeroValue21
    t46 := Tryd.underlying48
    a46 := Tryd.isAgg48
    z46 := Tryd.sizeOf48
    v46 := Tryd.zeroValue48
    t105 := Tryd.underlying43
    a105 := Tryd.isAgg43
    z105 := Tryd.sizeOf43
    v105 := Tryd.zeroValue43
    t116 := Tryd.underlying38
    a116 := Tryd.isAgg38
    z116 := Tryd.sizeOf38
    t117 := Tryd.underlying39
    a117 := Tryd.isAgg39
    z117 := Tryd.sizeOf39
    v117 := Tryd.zeroValue39
    t119 := Tryd.underlying47
    a119 := Tryd.isAgg47
    z119 := Tryd.sizeOf47
    t124 := Tryd.underlying42
    a124 := Tryd.isAgg42
    z124 := Tryd.sizeOf42
    v124 := Tryd.zeroValue42
    t138 := Tryd.underlying50
    a138 := Tryd.isAgg50
    z138 := Tryd.sizeOf50
    v138 := Tryd.zeroValue50
    t139 := Tryd.underlying51
    a139 := Tryd.isAgg51
    z139 := Tryd.sizeOf51
    v139 := Tryd.zeroValue51
    g3 := by kernel_rfl
    g4 := by kernel_rfl }
def Tryd.lays137_ren : Go.Shelf.Ren := ⟨fun | 137 => 13 | 217 => 17 | 266 => 22 | n => n, fun n => n, fun n => n⟩
theorem Tryd.lays137 : Lays.n137 Tryd.prog Tryd.lays137_ren := 
  { mixed := by kernel_rfl
    f137 := Tryd.func13.trans (congrArg some (by kernel_rfl))
    f217 := Tryd.func17.trans (congrArg some (by kernel_rfl))
    f266 := Tryd.func22.trans (congrArg some (by kernel_rfl))
    t3 := Tryd.underlying3
    a3 := Tryd.isAgg3
    z3 := Tryd.sizeOf3
    v3 := Tryd.zeroValue3
    t5 := Tryd.underlying5
    a5 := Tryd.isAgg5
    z5 := Tryd.sizeOf5
    v5 := Tryd.zeroValue5
    t9 := Tryd.underlying9
    a9 := Tryd.isAgg9
    z9 := Tryd.sizeOf9
    v9 := Tryd.zeroValue9 }
end Go.Proofs.YtfhlidlmipleaaaDoor
