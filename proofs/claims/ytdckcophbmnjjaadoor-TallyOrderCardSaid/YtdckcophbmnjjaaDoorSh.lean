/-
  DERIVED: THE SHELF's CONTRACTS AT THIS DUMP, IN PLAIN WORDS (tools/lay-plain.mjs out of 'TrydSort.lean', which tools/lay-shelf.mjs wrote): THE SAME DECLARATIONS UNDER THE SAME NAMES: 'import', 'namespace', 'open', 'def', 'theorem' AND NOTHING ELSE: no command of the shelf's: FOR A HAND-IN. Each laying: the table of numbers ('.._ren') and one theorem, a field a fact of the dump's own or the kernel's comparison; each contract: ONE APPLICATION.
-/
import Derived.Shelf.SortG.Plain
import Derived.Shelf.SortG.SortNone
import Derived.Test.YtdckcophbmnjjaaDoorProg
set_option linter.all false
namespace Go.Proofs
open Go.Shelf
def Tryd.sortI_ren : Go.Shelf.Ren := ⟨fun | 53 => 25 | 64 => 43 | 63 => 42 | 78 => 65 | 79 => 66 | 70 => 56 | 71 => 57 | 72 => 58 | 73 => 59 | 74 => 60 | 75 => 61 | 59 => 62 | 76 => 63 | 77 => 64 | 88 => 71 | 89 => 72 | 90 => 73 | 91 => 74 | 92 => 75 | 68 => 67 | 96 => 82 | n => n, fun | 22 => 48 | 23 => 3 | 3 => 3 | 51 => 91 | 0 => 0 | 67 => 111 | 69 => 113 | 4 => 4 | 61 => 104 | 60 => 103 | 44 => 74 | 5 => 5 | 9 => 9 | 75 => 123 | 79 => 127 | 83 => 135 | 84 => 136 | n => n, fun | n => n⟩
theorem Tryd.sortI : Go.Proofs.SlLaysN.n53 Tryd.prog Tryd.sortI_ren := {
  mixed := by kernel_rfl
  f53 := ⟨Tryd.f25.name, by decide, Tryd.func25.trans (congrArg some (by kernel_rfl))⟩
  f59 := ⟨Tryd.f62.name, by decide, Tryd.func62.trans (congrArg some (by kernel_rfl))⟩
  f63 := ⟨Tryd.f42.name, by decide, Tryd.func42.trans (congrArg some (by kernel_rfl))⟩
  f64 := Tryd.func43.trans (congrArg some (by kernel_rfl))
  f68 := ⟨Tryd.f67.name, by decide, Tryd.func67.trans (congrArg some (by kernel_rfl))⟩
  f70 := ⟨Tryd.f56.name, by decide, Tryd.func56.trans (congrArg some (by kernel_rfl))⟩
  f71 := ⟨Tryd.f57.name, by decide, Tryd.func57.trans (congrArg some (by kernel_rfl))⟩
  f72 := ⟨Tryd.f58.name, by decide, Tryd.func58.trans (congrArg some (by kernel_rfl))⟩
  f73 := ⟨Tryd.f59.name, by decide, Tryd.func59.trans (congrArg some (by kernel_rfl))⟩
  f74 := ⟨Tryd.f60.name, by decide, Tryd.func60.trans (congrArg some (by kernel_rfl))⟩
  f75 := ⟨Tryd.f61.name, by decide, Tryd.func61.trans (congrArg some (by kernel_rfl))⟩
  f76 := ⟨Tryd.f63.name, by decide, Tryd.func63.trans (congrArg some (by kernel_rfl))⟩
  f77 := ⟨Tryd.f64.name, by decide, Tryd.func64.trans (congrArg some (by kernel_rfl))⟩
  f78 := Tryd.func65.trans (congrArg some (by kernel_rfl))
  f79 := Tryd.func66.trans (congrArg some (by kernel_rfl))
  f88 := ⟨Tryd.f71.name, by decide, Tryd.func71.trans (congrArg some (by kernel_rfl))⟩
  f89 := Tryd.func72.trans (congrArg some (by kernel_rfl))
  f90 := Tryd.func73.trans (congrArg some (by kernel_rfl))
  f91 := ⟨Tryd.f74.name, by decide, Tryd.func74.trans (congrArg some (by kernel_rfl))⟩
  f92 := ⟨Tryd.f75.name, by decide, Tryd.func75.trans (congrArg some (by kernel_rfl))⟩
  f96 := ⟨Tryd.f82.name, by decide, Tryd.func82.trans (congrArg some (by kernel_rfl))⟩
  t0 := Tryd.underlying0
  a0 := Tryd.isAgg0
  z0 := Tryd.sizeOf0
  v0 := Tryd.zeroValue0
  t3 := Tryd.underlying3
  a3 := Tryd.isAgg3
  z3 := Tryd.sizeOf3
  v3 := Tryd.zeroValue3
  t4 := Tryd.underlying4
  a4 := Tryd.isAgg4
  z4 := Tryd.sizeOf4
  v4 := Tryd.zeroValue4
  t5 := Tryd.underlying5
  a5 := Tryd.isAgg5
  z5 := Tryd.sizeOf5
  v5 := Tryd.zeroValue5
  t9 := Tryd.underlying9
  a9 := Tryd.isAgg9
  z9 := Tryd.sizeOf9
  v9 := Tryd.zeroValue9
  t22 := Tryd.underlying48
  a22 := Tryd.isAgg48
  z22 := Tryd.sizeOf48
  v22 := Tryd.zeroValue48
  t23 := Tryd.underlying3
  a23 := Tryd.isAgg3
  z23 := Tryd.sizeOf3
  v23 := Tryd.zeroValue3
  t44 := Tryd.underlying74
  a44 := Tryd.isAgg74
  z44 := Tryd.sizeOf74
  v44 := Tryd.zeroValue74
  t51 := Tryd.underlying91
  a51 := Tryd.isAgg91
  z51 := Tryd.sizeOf91
  v51 := Tryd.zeroValue91
  t60 := Tryd.underlying103
  a60 := Tryd.isAgg103
  z60 := Tryd.sizeOf103
  v60 := Tryd.zeroValue103
  t61 := Tryd.underlying104
  a61 := Tryd.isAgg104
  z61 := Tryd.sizeOf104
  v61 := Tryd.zeroValue104
  t67 := Tryd.underlying111
  a67 := Tryd.isAgg111
  z67 := Tryd.sizeOf111
  v67 := Tryd.zeroValue111
  t69 := Tryd.underlying113
  a69 := Tryd.isAgg113
  z69 := Tryd.sizeOf113
  v69 := Tryd.zeroValue113
  t75 := Tryd.underlying123
  a75 := Tryd.isAgg123
  z75 := Tryd.sizeOf123
  v75 := Tryd.zeroValue123
  t79 := Tryd.underlying127
  a79 := Tryd.isAgg127
  z79 := Tryd.sizeOf127
  v79 := Tryd.zeroValue127
  t83 := Tryd.underlying135
  a83 := Tryd.isAgg135
  z83 := Tryd.sizeOf135
  v83 := Tryd.zeroValue135
  t84 := Tryd.underlying136
  a84 := Tryd.isAgg136
  z84 := Tryd.sizeOf136
  v84 := Tryd.zeroValue136 }
end Go.Proofs
