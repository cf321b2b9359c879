/-
  DERIVED: THE SHELF's CONTRACTS AT THIS DUMP, IN PLAIN WORDS (tools/lay-plain.mjs out of 'TryzSort.lean', which tools/lay-shelf.mjs wrote): THE SAME DECLARATIONS UNDER THE SAME NAMES: 'import', 'namespace', 'open', 'def', 'theorem' AND NOTHING ELSE: no command of the shelf's: FOR A HAND-IN. Each laying: the table of numbers ('.._ren') and one theorem, a field a fact of the dump's own or the kernel's comparison; each contract: ONE APPLICATION.
-/
import Derived.Shelf.SortG.Plain
import Derived.Shelf.SortG.SortNone
import Derived.Test.YtdckcophbmnjjaaGreatDoorProg
set_option linter.all false
namespace Go.Proofs
open Go.Shelf
def Tryz.sortI_ren : Go.Shelf.Ren := ⟨fun | 53 => 50 | 64 => 67 | 63 => 66 | 78 => 80 | 79 => 81 | 70 => 71 | 71 => 72 | 72 => 73 | 73 => 74 | 74 => 75 | 75 => 76 | 59 => 77 | 76 => 78 | 77 => 79 | 88 => 84 | 89 => 85 | 90 => 86 | 91 => 87 | 92 => 88 | 68 => 68 | 96 => 95 | n => n, fun | 22 => 69 | 23 => 3 | 3 => 3 | 51 => 113 | 0 => 0 | 67 => 124 | 69 => 126 | 4 => 4 | 61 => 117 | 60 => 116 | 44 => 71 | 5 => 5 | 9 => 9 | 75 => 134 | 79 => 138 | 83 => 146 | 84 => 147 | n => n, fun | n => n⟩
theorem Tryz.sortI : Go.Proofs.SlLaysN.n53 Tryz.prog Tryz.sortI_ren := {
  mixed := by kernel_rfl
  f53 := ⟨Tryz.f50.name, by decide, Tryz.func50.trans (congrArg some (by kernel_rfl))⟩
  f59 := ⟨Tryz.f77.name, by decide, Tryz.func77.trans (congrArg some (by kernel_rfl))⟩
  f63 := ⟨Tryz.f66.name, by decide, Tryz.func66.trans (congrArg some (by kernel_rfl))⟩
  f64 := Tryz.func67.trans (congrArg some (by kernel_rfl))
  f68 := ⟨Tryz.f68.name, by decide, Tryz.func68.trans (congrArg some (by kernel_rfl))⟩
  f70 := ⟨Tryz.f71.name, by decide, Tryz.func71.trans (congrArg some (by kernel_rfl))⟩
  f71 := ⟨Tryz.f72.name, by decide, Tryz.func72.trans (congrArg some (by kernel_rfl))⟩
  f72 := ⟨Tryz.f73.name, by decide, Tryz.func73.trans (congrArg some (by kernel_rfl))⟩
  f73 := ⟨Tryz.f74.name, by decide, Tryz.func74.trans (congrArg some (by kernel_rfl))⟩
  f74 := ⟨Tryz.f75.name, by decide, Tryz.func75.trans (congrArg some (by kernel_rfl))⟩
  f75 := ⟨Tryz.f76.name, by decide, Tryz.func76.trans (congrArg some (by kernel_rfl))⟩
  f76 := ⟨Tryz.f78.name, by decide, Tryz.func78.trans (congrArg some (by kernel_rfl))⟩
  f77 := ⟨Tryz.f79.name, by decide, Tryz.func79.trans (congrArg some (by kernel_rfl))⟩
  f78 := Tryz.func80.trans (congrArg some (by kernel_rfl))
  f79 := Tryz.func81.trans (congrArg some (by kernel_rfl))
  f88 := ⟨Tryz.f84.name, by decide, Tryz.func84.trans (congrArg some (by kernel_rfl))⟩
  f89 := Tryz.func85.trans (congrArg some (by kernel_rfl))
  f90 := Tryz.func86.trans (congrArg some (by kernel_rfl))
  f91 := ⟨Tryz.f87.name, by decide, Tryz.func87.trans (congrArg some (by kernel_rfl))⟩
  f92 := ⟨Tryz.f88.name, by decide, Tryz.func88.trans (congrArg some (by kernel_rfl))⟩
  f96 := ⟨Tryz.f95.name, by decide, Tryz.func95.trans (congrArg some (by kernel_rfl))⟩
  t0 := Tryz.underlying0
  a0 := Tryz.isAgg0
  z0 := Tryz.sizeOf0
  v0 := Tryz.zeroValue0
  t3 := Tryz.underlying3
  a3 := Tryz.isAgg3
  z3 := Tryz.sizeOf3
  v3 := Tryz.zeroValue3
  t4 := Tryz.underlying4
  a4 := Tryz.isAgg4
  z4 := Tryz.sizeOf4
  v4 := Tryz.zeroValue4
  t5 := Tryz.underlying5
  a5 := Tryz.isAgg5
  z5 := Tryz.sizeOf5
  v5 := Tryz.zeroValue5
  t9 := Tryz.underlying9
  a9 := Tryz.isAgg9
  z9 := Tryz.sizeOf9
  v9 := Tryz.zeroValue9
  t22 := Tryz.underlying69
  a22 := Tryz.isAgg69
  z22 := Tryz.sizeOf69
  v22 := Tryz.zeroValue69
  t23 := Tryz.underlying3
  a23 := Tryz.isAgg3
  z23 := Tryz.sizeOf3
  v23 := Tryz.zeroValue3
  t44 := Tryz.underlying71
  a44 := Tryz.isAgg71
  z44 := Tryz.sizeOf71
  v44 := Tryz.zeroValue71
  t51 := Tryz.underlying113
  a51 := Tryz.isAgg113
  z51 := Tryz.sizeOf113
  v51 := Tryz.zeroValue113
  t60 := Tryz.underlying116
  a60 := Tryz.isAgg116
  z60 := Tryz.sizeOf116
  v60 := Tryz.zeroValue116
  t61 := Tryz.underlying117
  a61 := Tryz.isAgg117
  z61 := Tryz.sizeOf117
  v61 := Tryz.zeroValue117
  t67 := Tryz.underlying124
  a67 := Tryz.isAgg124
  z67 := Tryz.sizeOf124
  v67 := Tryz.zeroValue124
  t69 := Tryz.underlying126
  a69 := Tryz.isAgg126
  z69 := Tryz.sizeOf126
  v69 := Tryz.zeroValue126
  t75 := Tryz.underlying134
  a75 := Tryz.isAgg134
  z75 := Tryz.sizeOf134
  v75 := Tryz.zeroValue134
  t79 := Tryz.underlying138
  a79 := Tryz.isAgg138
  z79 := Tryz.sizeOf138
  v79 := Tryz.zeroValue138
  t83 := Tryz.underlying146
  a83 := Tryz.isAgg146
  z83 := Tryz.sizeOf146
  v83 := Tryz.zeroValue146
  t84 := Tryz.underlying147
  a84 := Tryz.isAgg147
  z84 := Tryz.sizeOf147
  v84 := Tryz.zeroValue147 }
end Go.Proofs
