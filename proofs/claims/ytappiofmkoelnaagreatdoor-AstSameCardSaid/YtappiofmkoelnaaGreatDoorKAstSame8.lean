/-
  For AstSame: texts of the road to it, 9 of 16.
-/
import Derived.Test.YtappiofmkoelnaaGreatDoorKAstSame7
import Derived.Shelf.Unicode.ValidAny
section
namespace Go.Proofs
open Go.Shelf
def YtappiofmkoelnaaGreatDoorW.lays196_ren : Go.Shelf.Ren := ⟨fun | 196 => 197 | 259 => 207 | n => n, fun | 9 => 9 | 4 => 4 | 3 => 3 | 5 => 5 | 12 => 12 | 119 => 203 | 0 => 0 | 46 => 185 | 139 => 206 | 138 => 205 | 53 => 207 | n => n, fun | 3 => 0 | 4 => 1 | n => n⟩
theorem YtappiofmkoelnaaGreatDoorW.lays196 : Go.Proofs.Lays.n196 Tryz.prog YtappiofmkoelnaaGreatDoorW.lays196_ren := {
 mixed := by kernel_rfl
 f196 := Tryz.func197.trans (congrArg some (by kernel_rfl))
 f259 := Tryz.func207.trans (congrArg some (by kernel_rfl))
 t0 := Tryz.underlying0
 a0 := Tryz.isAgg0
 z0 := Tryz.sizeOf0
 v0 := Tryz.zeroValue0
 t3 := Tryz.underlying3
 a3 := Tryz.isAgg3
 z3 := Tryz.sizeOf3
 v3 := Tryz.zeroValue3
 t4 := Tryz.underlying4
 a4 := Tryz.isAgg4
 z4 := Tryz.sizeOf4
 v4 := Tryz.zeroValue4
 t5 := Tryz.underlying5
 a5 := Tryz.isAgg5
 z5 := Tryz.sizeOf5
 v5 := Tryz.zeroValue5
 t9 := Tryz.underlying9
 a9 := Tryz.isAgg9
 z9 := Tryz.sizeOf9
 v9 := Tryz.zeroValue9
 t12 := Tryz.underlying12
 a12 := Tryz.isAgg12
 z12 := Tryz.sizeOf12
 v12 := Tryz.zeroValue12
 t46 := Tryz.underlying185
 a46 := Tryz.isAgg185
 z46 := Tryz.sizeOf185
 v46 := Tryz.zeroValue185
 t53 := Tryz.underlying207
 a53 := Tryz.isAgg207
 z53 := Tryz.sizeOf207
 v53 := Tryz.zeroValue207
 t119 := Tryz.underlying203
 a119 := Tryz.isAgg203
 z119 := Tryz.sizeOf203
 t138 := Tryz.underlying205
 a138 := Tryz.isAgg205
 z138 := Tryz.sizeOf205
 v138 := Tryz.zeroValue205
 t139 := Tryz.underlying206
 a139 := Tryz.isAgg206
 z139 := Tryz.sizeOf206
 v139 := Tryz.zeroValue206
 g3 := by kernel_rfl
 g4 := by kernel_rfl }
end Go.Proofs
end
