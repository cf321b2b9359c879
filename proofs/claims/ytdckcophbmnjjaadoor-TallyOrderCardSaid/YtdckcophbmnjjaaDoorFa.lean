/- Closed facts about the program's types and functions. -/
import Derived.Test.YtdckcophbmnjjaaDoorLg5
import Derived.Test.YtdckcophbmnjjaaDoorProg
set_option linter.all false
namespace Go.Proofs.YtdckcophbmnjjaaDoor
open Go Go.Proofs.YtdckcophbmnjjaaDoor.Ab
open Go.Proofs (Tryd.prog)
theorem tk_0 : tk Tryd.prog 0 = some (false, 1) := by kernel_rfl
theorem tk_1 : tk Tryd.prog 1 = some (false, 1) := by kernel_rfl
theorem eb_1 : eb Tryd.prog 1 = some 8 := by kernel_rfl
theorem zc_1 : zc Tryd.prog 1 = some [.nilf] := by kernel_rfl
theorem zl_1 : zl Tryd.prog 1 = some 1 := by kernel_rfl
theorem tk_2 : tk Tryd.prog 2 = some (false, 1) := by kernel_rfl
theorem eb_2 : eb Tryd.prog 2 = some 8 := by kernel_rfl
theorem zc_2 : zc Tryd.prog 2 = some [.int .i64 0] := by kernel_rfl
theorem zl_2 : zl Tryd.prog 2 = some 1 := by kernel_rfl
theorem tk_3 : tk Tryd.prog 3 = some (false, 1) := by kernel_rfl
theorem eb_3 : eb Tryd.prog 3 = some 8 := by kernel_rfl
theorem zc_3 : zc Tryd.prog 3 = some [.int .i64 0] := by kernel_rfl
theorem zl_3 : zl Tryd.prog 3 = some 1 := by kernel_rfl
theorem tk_4 : tk Tryd.prog 4 = some (false, 1) := by kernel_rfl
theorem eb_4 : eb Tryd.prog 4 = some 1 := by kernel_rfl
theorem zc_4 : zc Tryd.prog 4 = some [.bool false] := by kernel_rfl
theorem zl_4 : zl Tryd.prog 4 = some 1 := by kernel_rfl
theorem tk_5 : tk Tryd.prog 5 = some (false, 1) := by kernel_rfl
theorem eb_5 : eb Tryd.prog 5 = some 1 := by kernel_rfl
theorem zc_5 : zc Tryd.prog 5 = some [.int .u8 0] := by kernel_rfl
theorem zl_5 : zl Tryd.prog 5 = some 1 := by kernel_rfl
theorem tk_6 : tk Tryd.prog 6 = some (false, 1) := by kernel_rfl
theorem eb_6 : eb Tryd.prog 6 = some 1 := by kernel_rfl
theorem zc_6 : zc Tryd.prog 6 = some [.int .u8 0] := by kernel_rfl
theorem zl_6 : zl Tryd.prog 6 = some 1 := by kernel_rfl
theorem tk_7 : tk Tryd.prog 7 = some (true, 4) := by kernel_rfl
theorem eb_7 : eb Tryd.prog 7 = some 24 := by kernel_rfl
theorem zc_7 : zc Tryd.prog 7 = some [.int .i64 0, .int .i64 0, .bool false, .int .u8 0] := by kernel_rfl
theorem zl_7 : zl Tryd.prog 7 = some 4 := by kernel_rfl
theorem fo_7_0 : fo Tryd.prog 7 0 = some (0, false, 1) := by kernel_rfl
theorem fo_7_1 : fo Tryd.prog 7 1 = some (1, false, 1) := by kernel_rfl
theorem fo_7_2 : fo Tryd.prog 7 2 = some (2, false, 1) := by kernel_rfl
theorem fo_7_3 : fo Tryd.prog 7 3 = some (3, false, 1) := by kernel_rfl
theorem sh_7 : Program.stoodInHeld Tryd.prog 7 = false := by kernel_rfl
theorem eg_7 : Program.eqGuardType Tryd.prog (Program.depth Tryd.prog) 7 = false := by kernel_rfl
theorem pls_7 : pls Tryd.prog 7 = some [(0, 1), (1, 1), (2, 1), (3, 1)] := by kernel_rfl
theorem tk_8 : tk Tryd.prog 8 = some (true, 4) := by kernel_rfl
theorem eb_8 : eb Tryd.prog 8 = some 24 := by kernel_rfl
theorem zc_8 : zc Tryd.prog 8 = some [.int .i64 0, .int .i64 0, .bool false, .int .u8 0] := by kernel_rfl
theorem zl_8 : zl Tryd.prog 8 = some 4 := by kernel_rfl
theorem fo_8_0 : fo Tryd.prog 8 0 = some (0, false, 1) := by kernel_rfl
theorem fo_8_1 : fo Tryd.prog 8 1 = some (1, false, 1) := by kernel_rfl
theorem fo_8_2 : fo Tryd.prog 8 2 = some (2, false, 1) := by kernel_rfl
theorem fo_8_3 : fo Tryd.prog 8 3 = some (3, false, 1) := by kernel_rfl
theorem sh_8 : Program.stoodInHeld Tryd.prog 8 = false := by kernel_rfl
theorem eg_8 : Program.eqGuardType Tryd.prog (Program.depth Tryd.prog) 8 = false := by kernel_rfl
theorem pls_8 : pls Tryd.prog 8 = some [(0, 1), (1, 1), (2, 1), (3, 1)] := by kernel_rfl
theorem tk_9 : tk Tryd.prog 9 = some (false, 1) := by kernel_rfl
theorem eb_9 : eb Tryd.prog 9 = some 16 := by kernel_rfl
theorem zc_9 : zc Tryd.prog 9 = some [.str ByteArray.empty] := by kernel_rfl
theorem zl_9 : zl Tryd.prog 9 = some 1 := by kernel_rfl
theorem tk_10 : tk Tryd.prog 10 = some (false, 1) := by kernel_rfl
theorem eb_10 : eb Tryd.prog 10 = some 16 := by kernel_rfl
theorem zc_10 : zc Tryd.prog 10 = some [.str ByteArray.empty] := by kernel_rfl
theorem zl_10 : zl Tryd.prog 10 = some 1 := by kernel_rfl
theorem tk_11 : tk Tryd.prog 11 = some (false, 1) := by kernel_rfl
theorem eb_11 : eb Tryd.prog 11 = some 16 := by kernel_rfl
theorem zc_11 : zc Tryd.prog 11 = some [.str ByteArray.empty] := by kernel_rfl
theorem zl_11 : zl Tryd.prog 11 = some 1 := by kernel_rfl
theorem tk_12 : tk Tryd.prog 12 = some (false, 1) := by kernel_rfl
theorem eb_12 : eb Tryd.prog 12 = some 8 := by kernel_rfl
theorem zc_12 : zc Tryd.prog 12 = some [.int .u64 0] := by kernel_rfl
theorem zl_12 : zl Tryd.prog 12 = some 1 := by kernel_rfl
theorem tk_13 : tk Tryd.prog 13 = some (true, 2) := by kernel_rfl
theorem eb_13 : eb Tryd.prog 13 = some 24 := by kernel_rfl
theorem zc_13 : zc Tryd.prog 13 = some [.str ByteArray.empty, .int .u64 0] := by kernel_rfl
theorem zl_13 : zl Tryd.prog 13 = some 2 := by kernel_rfl
theorem fo_13_0 : fo Tryd.prog 13 0 = some (0, false, 1) := by kernel_rfl
theorem fo_13_1 : fo Tryd.prog 13 1 = some (1, false, 1) := by kernel_rfl
theorem sh_13 : Program.stoodInHeld Tryd.prog 13 = true := by kernel_rfl
theorem eg_13 : Program.eqGuardType Tryd.prog (Program.depth Tryd.prog) 13 = false := by kernel_rfl
theorem pls_13 : pls Tryd.prog 13 = some [(0, 1), (1, 1)] := by kernel_rfl
theorem tk_14 : tk Tryd.prog 14 = some (true, 2) := by kernel_rfl
theorem eb_14 : eb Tryd.prog 14 = some 24 := by kernel_rfl
theorem zc_14 : zc Tryd.prog 14 = some [.str ByteArray.empty, .int .u64 0] := by kernel_rfl
theorem zl_14 : zl Tryd.prog 14 = some 2 := by kernel_rfl
theorem fo_14_0 : fo Tryd.prog 14 0 = some (0, false, 1) := by kernel_rfl
theorem fo_14_1 : fo Tryd.prog 14 1 = some (1, false, 1) := by kernel_rfl
theorem sh_14 : Program.stoodInHeld Tryd.prog 14 = true := by kernel_rfl
theorem eg_14 : Program.eqGuardType Tryd.prog (Program.depth Tryd.prog) 14 = false := by kernel_rfl
theorem pls_14 : pls Tryd.prog 14 = some [(0, 1), (1, 1)] := by kernel_rfl
theorem tk_15 : tk Tryd.prog 15 = some (false, 1) := by kernel_rfl
theorem eb_15 : eb Tryd.prog 15 = some 8 := by kernel_rfl
theorem zc_15 : zc Tryd.prog 15 = some [.nilp] := by kernel_rfl
theorem zl_15 : zl Tryd.prog 15 = some 1 := by kernel_rfl
theorem tk_16 : tk Tryd.prog 16 = some (false, 1) := by kernel_rfl
theorem eb_16 : eb Tryd.prog 16 = some 8 := by kernel_rfl
theorem zc_16 : zc Tryd.prog 16 = some [.nilp] := by kernel_rfl
theorem zl_16 : zl Tryd.prog 16 = some 1 := by kernel_rfl
theorem tk_17 : tk Tryd.prog 17 = some (false, 1) := by kernel_rfl
theorem eb_17 : eb Tryd.prog 17 = some 8 := by kernel_rfl
theorem zc_17 : zc Tryd.prog 17 = some [.nilp] := by kernel_rfl
theorem zl_17 : zl Tryd.prog 17 = some 1 := by kernel_rfl
theorem tk_18 : tk Tryd.prog 18 = some (true, 1) := by kernel_rfl
theorem eb_18 : eb Tryd.prog 18 = some 8 := by kernel_rfl
theorem zc_18 : zc Tryd.prog 18 = some [.nilp] := by kernel_rfl
theorem zl_18 : zl Tryd.prog 18 = some 1 := by kernel_rfl
theorem fo_18_0 : fo Tryd.prog 18 0 = some (0, false, 1) := by kernel_rfl
theorem sh_18 : Program.stoodInHeld Tryd.prog 18 = true := by kernel_rfl
theorem eg_18 : Program.eqGuardType Tryd.prog (Program.depth Tryd.prog) 18 = false := by kernel_rfl
theorem pls_18 : pls Tryd.prog 18 = some [(0, 1)] := by kernel_rfl
theorem tk_19 : tk Tryd.prog 19 = some (true, 1) := by kernel_rfl
theorem eb_19 : eb Tryd.prog 19 = some 8 := by kernel_rfl
theorem zc_19 : zc Tryd.prog 19 = some [.nilp] := by kernel_rfl
theorem zl_19 : zl Tryd.prog 19 = some 1 := by kernel_rfl
theorem fo_19_0 : fo Tryd.prog 19 0 = some (0, false, 1) := by kernel_rfl
theorem sh_19 : Program.stoodInHeld Tryd.prog 19 = true := by kernel_rfl
theorem eg_19 : Program.eqGuardType Tryd.prog (Program.depth Tryd.prog) 19 = false := by kernel_rfl
theorem pls_19 : pls Tryd.prog 19 = some [(0, 1)] := by kernel_rfl
theorem tk_20 : tk Tryd.prog 20 = some (false, 1) := by kernel_rfl
theorem eb_20 : eb Tryd.prog 20 = some 16 := by kernel_rfl
theorem zc_20 : zc Tryd.prog 20 = some [.nili] := by kernel_rfl
theorem zl_20 : zl Tryd.prog 20 = some 1 := by kernel_rfl
theorem tk_21 : tk Tryd.prog 21 = some (false, 1) := by kernel_rfl
theorem eb_21 : eb Tryd.prog 21 = some 4 := by kernel_rfl
theorem zc_21 : zc Tryd.prog 21 = some [.int .i32 0] := by kernel_rfl
theorem zl_21 : zl Tryd.prog 21 = some 1 := by kernel_rfl
theorem tk_22 : tk Tryd.prog 22 = some (false, 1) := by kernel_rfl
theorem eb_22 : eb Tryd.prog 22 = some 24 := by kernel_rfl
theorem zc_22 : zc Tryd.prog 22 = some [.nils] := by kernel_rfl
theorem zl_22 : zl Tryd.prog 22 = some 1 := by kernel_rfl
theorem tk_23 : tk Tryd.prog 23 = some (false, 1) := by kernel_rfl
theorem eb_23 : eb Tryd.prog 23 = some 24 := by kernel_rfl
theorem zc_23 : zc Tryd.prog 23 = some [.nils] := by kernel_rfl
theorem zl_23 : zl Tryd.prog 23 = some 1 := by kernel_rfl
theorem tk_24 : tk Tryd.prog 24 = some (false, 1) := by kernel_rfl
theorem eb_24 : eb Tryd.prog 24 = some 8 := by kernel_rfl
theorem zc_24 : zc Tryd.prog 24 = some [.nilf] := by kernel_rfl
theorem zl_24 : zl Tryd.prog 24 = some 1 := by kernel_rfl
theorem tk_25 : tk Tryd.prog 25 = some (false, 1) := by kernel_rfl
theorem eb_25 : eb Tryd.prog 25 = some 8 := by kernel_rfl
theorem zc_25 : zc Tryd.prog 25 = some [.nilp] := by kernel_rfl
theorem zl_25 : zl Tryd.prog 25 = some 1 := by kernel_rfl
theorem tk_26 : tk Tryd.prog 26 = some (false, 1) := by kernel_rfl
theorem eb_26 : eb Tryd.prog 26 = some 8 := by kernel_rfl
theorem zc_26 : zc Tryd.prog 26 = some [.int .i64 0] := by kernel_rfl
theorem zl_26 : zl Tryd.prog 26 = some 1 := by kernel_rfl
theorem tk_27 : tk Tryd.prog 27 = some (false, 1) := by kernel_rfl
theorem eb_27 : eb Tryd.prog 27 = some 0 := by kernel_rfl
theorem tk_28 : tk Tryd.prog 28 = some (false, 1) := by kernel_rfl
theorem eb_28 : eb Tryd.prog 28 = some 8 := by kernel_rfl
theorem zc_28 : zc Tryd.prog 28 = some [.nilf] := by kernel_rfl
theorem zl_28 : zl Tryd.prog 28 = some 1 := by kernel_rfl
theorem tk_29 : tk Tryd.prog 29 = some (true, 4) := by kernel_rfl
theorem eb_29 : eb Tryd.prog 29 = some 32 := by kernel_rfl
theorem zc_29 : zc Tryd.prog 29 = some [.int .i64 0, .int .i64 0, .int .i64 0, .int .i64 0] := by kernel_rfl
theorem zl_29 : zl Tryd.prog 29 = some 4 := by kernel_rfl
theorem fo_29_0 : fo Tryd.prog 29 0 = some (0, false, 1) := by kernel_rfl
theorem fo_29_1 : fo Tryd.prog 29 1 = some (1, false, 1) := by kernel_rfl
theorem fo_29_2 : fo Tryd.prog 29 2 = some (2, false, 1) := by kernel_rfl
theorem fo_29_3 : fo Tryd.prog 29 3 = some (3, false, 1) := by kernel_rfl
theorem sh_29 : Program.stoodInHeld Tryd.prog 29 = false := by kernel_rfl
theorem eg_29 : Program.eqGuardType Tryd.prog (Program.depth Tryd.prog) 29 = false := by kernel_rfl
theorem pls_29 : pls Tryd.prog 29 = some [(0, 1), (1, 1), (2, 1), (3, 1)] := by kernel_rfl
theorem tk_30 : tk Tryd.prog 30 = some (true, 4) := by kernel_rfl
theorem eb_30 : eb Tryd.prog 30 = some 32 := by kernel_rfl
theorem zc_30 : zc Tryd.prog 30 = some [.int .i64 0, .int .i64 0, .int .i64 0, .int .i64 0] := by kernel_rfl
theorem zl_30 : zl Tryd.prog 30 = some 4 := by kernel_rfl
theorem fo_30_0 : fo Tryd.prog 30 0 = some (0, false, 1) := by kernel_rfl
theorem fo_30_1 : fo Tryd.prog 30 1 = some (1, false, 1) := by kernel_rfl
theorem fo_30_2 : fo Tryd.prog 30 2 = some (2, false, 1) := by kernel_rfl
theorem fo_30_3 : fo Tryd.prog 30 3 = some (3, false, 1) := by kernel_rfl
theorem sh_30 : Program.stoodInHeld Tryd.prog 30 = false := by kernel_rfl
theorem eg_30 : Program.eqGuardType Tryd.prog (Program.depth Tryd.prog) 30 = false := by kernel_rfl
theorem pls_30 : pls Tryd.prog 30 = some [(0, 1), (1, 1), (2, 1), (3, 1)] := by kernel_rfl
theorem tk_31 : tk Tryd.prog 31 = some (false, 1) := by kernel_rfl
theorem eb_31 : eb Tryd.prog 31 = some 8 := by kernel_rfl
theorem zc_31 : zc Tryd.prog 31 = some [.int .i64 0] := by kernel_rfl
theorem zl_31 : zl Tryd.prog 31 = some 1 := by kernel_rfl
theorem tk_32 : tk Tryd.prog 32 = some (true, 3) := by kernel_rfl
theorem eb_32 : eb Tryd.prog 32 = some 24 := by kernel_rfl
theorem zc_32 : zc Tryd.prog 32 = some [.int .i64 0, .int .i64 0, .int .i64 0] := by kernel_rfl
theorem zl_32 : zl Tryd.prog 32 = some 3 := by kernel_rfl
theorem fo_32_0 : fo Tryd.prog 32 0 = some (0, false, 1) := by kernel_rfl
theorem fo_32_1 : fo Tryd.prog 32 1 = some (1, false, 1) := by kernel_rfl
theorem fo_32_2 : fo Tryd.prog 32 2 = some (2, false, 1) := by kernel_rfl
theorem sh_32 : Program.stoodInHeld Tryd.prog 32 = false := by kernel_rfl
theorem eg_32 : Program.eqGuardType Tryd.prog (Program.depth Tryd.prog) 32 = false := by kernel_rfl
theorem pls_32 : pls Tryd.prog 32 = some [(0, 1), (1, 1), (2, 1)] := by kernel_rfl
theorem tk_33 : tk Tryd.prog 33 = some (true, 3) := by kernel_rfl
theorem eb_33 : eb Tryd.prog 33 = some 24 := by kernel_rfl
theorem zc_33 : zc Tryd.prog 33 = some [.int .i64 0, .int .i64 0, .int .i64 0] := by kernel_rfl
theorem zl_33 : zl Tryd.prog 33 = some 3 := by kernel_rfl
theorem fo_33_0 : fo Tryd.prog 33 0 = some (0, false, 1) := by kernel_rfl
theorem fo_33_1 : fo Tryd.prog 33 1 = some (1, false, 1) := by kernel_rfl
theorem fo_33_2 : fo Tryd.prog 33 2 = some (2, false, 1) := by kernel_rfl
theorem sh_33 : Program.stoodInHeld Tryd.prog 33 = false := by kernel_rfl
theorem eg_33 : Program.eqGuardType Tryd.prog (Program.depth Tryd.prog) 33 = false := by kernel_rfl
theorem pls_33 : pls Tryd.prog 33 = some [(0, 1), (1, 1), (2, 1)] := by kernel_rfl
theorem tk_34 : tk Tryd.prog 34 = some (true, 10) := by kernel_rfl
theorem eb_34 : eb Tryd.prog 34 = some 80 := by kernel_rfl
theorem zc_34 : zc Tryd.prog 34 = some [.int .i64 0, .int .i64 0, .bool false, .int .i64 0, .int .i64 0, .int .i64 0, .int .i64 0, .int .i64 0, .int .i64 0, .int .i64 0] := by kernel_rfl
theorem zl_34 : zl Tryd.prog 34 = some 10 := by kernel_rfl
theorem fo_34_0 : fo Tryd.prog 34 0 = some (0, false, 1) := by kernel_rfl
theorem fo_34_1 : fo Tryd.prog 34 1 = some (1, false, 1) := by kernel_rfl
theorem fo_34_2 : fo Tryd.prog 34 2 = some (2, false, 1) := by kernel_rfl
theorem fo_34_3 : fo Tryd.prog 34 3 = some (3, true, 4) := by kernel_rfl
theorem fo_34_4 : fo Tryd.prog 34 4 = some (7, true, 3) := by kernel_rfl
theorem sh_34 : Program.stoodInHeld Tryd.prog 34 = false := by kernel_rfl
theorem eg_34 : Program.eqGuardType Tryd.prog (Program.depth Tryd.prog) 34 = false := by kernel_rfl
theorem pls_34 : pls Tryd.prog 34 = some [(0, 1), (1, 1), (2, 1), (3, 4), (7, 3)] := by kernel_rfl
theorem tk_35 : tk Tryd.prog 35 = some (true, 10) := by kernel_rfl
theorem eb_35 : eb Tryd.prog 35 = some 80 := by kernel_rfl
theorem zc_35 : zc Tryd.prog 35 = some [.int .i64 0, .int .i64 0, .bool false, .int .i64 0, .int .i64 0, .int .i64 0, .int .i64 0, .int .i64 0, .int .i64 0, .int .i64 0] := by kernel_rfl
theorem zl_35 : zl Tryd.prog 35 = some 10 := by kernel_rfl
theorem fo_35_0 : fo Tryd.prog 35 0 = some (0, false, 1) := by kernel_rfl
theorem fo_35_1 : fo Tryd.prog 35 1 = some (1, false, 1) := by kernel_rfl
theorem fo_35_2 : fo Tryd.prog 35 2 = some (2, false, 1) := by kernel_rfl
theorem fo_35_3 : fo Tryd.prog 35 3 = some (3, true, 4) := by kernel_rfl
theorem fo_35_4 : fo Tryd.prog 35 4 = some (7, true, 3) := by kernel_rfl
theorem sh_35 : Program.stoodInHeld Tryd.prog 35 = false := by kernel_rfl
theorem eg_35 : Program.eqGuardType Tryd.prog (Program.depth Tryd.prog) 35 = false := by kernel_rfl
theorem pls_35 : pls Tryd.prog 35 = some [(0, 1), (1, 1), (2, 1), (3, 4), (7, 3)] := by kernel_rfl
theorem tk_36 : tk Tryd.prog 36 = some (true, 6) := by kernel_rfl
theorem eb_36 : eb Tryd.prog 36 = some 48 := by kernel_rfl
theorem zc_36 : zc Tryd.prog 36 = some [.int .i64 0, .int .i64 0, .int .i64 0, .int .i64 0, .int .i64 0, .int .i64 0] := by kernel_rfl
theorem zl_36 : zl Tryd.prog 36 = some 6 := by kernel_rfl
theorem sh_36 : Program.stoodInHeld Tryd.prog 36 = false := by kernel_rfl
theorem eg_36 : Program.eqGuardType Tryd.prog (Program.depth Tryd.prog) 36 = false := by kernel_rfl
theorem pls_36 : pls Tryd.prog 36 = none := by kernel_rfl
theorem tk_37 : tk Tryd.prog 37 = some (true, 10) := by kernel_rfl
theorem eb_37 : eb Tryd.prog 37 = some 80 := by kernel_rfl
theorem zc_37 : zc Tryd.prog 37 = some [.int .i64 0, .int .i64 0, .int .i64 0, .int .i64 0, .int .i64 0, .int .i64 0, .int .i64 0, .int .i64 0, .int .i64 0, .int .i64 0] := by kernel_rfl
theorem zl_37 : zl Tryd.prog 37 = some 10 := by kernel_rfl
theorem fo_37_0 : fo Tryd.prog 37 0 = some (0, false, 1) := by kernel_rfl
theorem fo_37_1 : fo Tryd.prog 37 1 = some (1, false, 1) := by kernel_rfl
theorem fo_37_2 : fo Tryd.prog 37 2 = some (2, true, 6) := by kernel_rfl
theorem fo_37_3 : fo Tryd.prog 37 3 = some (8, false, 1) := by kernel_rfl
theorem fo_37_4 : fo Tryd.prog 37 4 = some (9, false, 1) := by kernel_rfl
theorem sh_37 : Program.stoodInHeld Tryd.prog 37 = false := by kernel_rfl
theorem eg_37 : Program.eqGuardType Tryd.prog (Program.depth Tryd.prog) 37 = false := by kernel_rfl
theorem pls_37 : pls Tryd.prog 37 = some [(0, 1), (1, 1), (2, 6), (8, 1), (9, 1)] := by kernel_rfl
theorem tk_38 : tk Tryd.prog 38 = some (true, 10) := by kernel_rfl
theorem eb_38 : eb Tryd.prog 38 = some 80 := by kernel_rfl
theorem zc_38 : zc Tryd.prog 38 = some [.int .i64 0, .int .i64 0, .int .i64 0, .int .i64 0, .int .i64 0, .int .i64 0, .int .i64 0, .int .i64 0, .int .i64 0, .int .i64 0] := by kernel_rfl
theorem zl_38 : zl Tryd.prog 38 = some 10 := by kernel_rfl
theorem fo_38_0 : fo Tryd.prog 38 0 = some (0, false, 1) := by kernel_rfl
theorem fo_38_1 : fo Tryd.prog 38 1 = some (1, false, 1) := by kernel_rfl
theorem fo_38_2 : fo Tryd.prog 38 2 = some (2, true, 6) := by kernel_rfl
theorem fo_38_3 : fo Tryd.prog 38 3 = some (8, false, 1) := by kernel_rfl
theorem fo_38_4 : fo Tryd.prog 38 4 = some (9, false, 1) := by kernel_rfl
theorem sh_38 : Program.stoodInHeld Tryd.prog 38 = false := by kernel_rfl
theorem eg_38 : Program.eqGuardType Tryd.prog (Program.depth Tryd.prog) 38 = false := by kernel_rfl
theorem pls_38 : pls Tryd.prog 38 = some [(0, 1), (1, 1), (2, 6), (8, 1), (9, 1)] := by kernel_rfl
theorem tk_39 : tk Tryd.prog 39 = some (false, 1) := by kernel_rfl
theorem eb_39 : eb Tryd.prog 39 = some 8 := by kernel_rfl
theorem zc_39 : zc Tryd.prog 39 = some [.nilf] := by kernel_rfl
theorem zl_39 : zl Tryd.prog 39 = some 1 := by kernel_rfl
theorem tk_40 : tk Tryd.prog 40 = some (false, 1) := by kernel_rfl
theorem eb_40 : eb Tryd.prog 40 = some 8 := by kernel_rfl
theorem zc_40 : zc Tryd.prog 40 = some [.nilf] := by kernel_rfl
theorem zl_40 : zl Tryd.prog 40 = some 1 := by kernel_rfl
theorem tk_41 : tk Tryd.prog 41 = some (false, 1) := by kernel_rfl
theorem eb_41 : eb Tryd.prog 41 = some 8 := by kernel_rfl
theorem zc_41 : zc Tryd.prog 41 = some [.nilf] := by kernel_rfl
theorem zl_41 : zl Tryd.prog 41 = some 1 := by kernel_rfl
theorem tk_42 : tk Tryd.prog 42 = some (false, 1) := by kernel_rfl
theorem eb_42 : eb Tryd.prog 42 = some 8 := by kernel_rfl
theorem zc_42 : zc Tryd.prog 42 = some [.nilf] := by kernel_rfl
theorem zl_42 : zl Tryd.prog 42 = some 1 := by kernel_rfl
theorem tk_43 : tk Tryd.prog 43 = some (false, 1) := by kernel_rfl
theorem eb_43 : eb Tryd.prog 43 = some 0 := by kernel_rfl
theorem tk_44 : tk Tryd.prog 44 = some (false, 1) := by kernel_rfl
theorem eb_44 : eb Tryd.prog 44 = some 8 := by kernel_rfl
theorem zc_44 : zc Tryd.prog 44 = some [.nilf] := by kernel_rfl
theorem zl_44 : zl Tryd.prog 44 = some 1 := by kernel_rfl
theorem tk_45 : tk Tryd.prog 45 = some (false, 1) := by kernel_rfl
theorem eb_45 : eb Tryd.prog 45 = some 8 := by kernel_rfl
theorem zc_45 : zc Tryd.prog 45 = some [.int .i64 0] := by kernel_rfl
theorem zl_45 : zl Tryd.prog 45 = some 1 := by kernel_rfl
theorem tk_46 : tk Tryd.prog 46 = some (true, 7) := by kernel_rfl
theorem eb_46 : eb Tryd.prog 46 = some 56 := by kernel_rfl
theorem zc_46 : zc Tryd.prog 46 = some [.int .i64 0, .int .i64 0, .int .i64 0, .int .i64 0, .int .i64 0, .int .i64 0, .int .i64 0] := by kernel_rfl
theorem zl_46 : zl Tryd.prog 46 = some 7 := by kernel_rfl
theorem fo_46_0 : fo Tryd.prog 46 0 = some (0, false, 1) := by kernel_rfl
theorem fo_46_1 : fo Tryd.prog 46 1 = some (1, false, 1) := by kernel_rfl
theorem fo_46_2 : fo Tryd.prog 46 2 = some (2, false, 1) := by kernel_rfl
theorem fo_46_3 : fo Tryd.prog 46 3 = some (3, false, 1) := by kernel_rfl
theorem fo_46_4 : fo Tryd.prog 46 4 = some (4, false, 1) := by kernel_rfl
theorem fo_46_5 : fo Tryd.prog 46 5 = some (5, false, 1) := by kernel_rfl
theorem fo_46_6 : fo Tryd.prog 46 6 = some (6, false, 1) := by kernel_rfl
theorem sh_46 : Program.stoodInHeld Tryd.prog 46 = false := by kernel_rfl
theorem eg_46 : Program.eqGuardType Tryd.prog (Program.depth Tryd.prog) 46 = false := by kernel_rfl
theorem pls_46 : pls Tryd.prog 46 = some [(0, 1), (1, 1), (2, 1), (3, 1), (4, 1), (5, 1), (6, 1)] := by kernel_rfl
theorem tk_47 : tk Tryd.prog 47 = some (true, 7) := by kernel_rfl
theorem eb_47 : eb Tryd.prog 47 = some 56 := by kernel_rfl
theorem zc_47 : zc Tryd.prog 47 = some [.int .i64 0, .int .i64 0, .int .i64 0, .int .i64 0, .int .i64 0, .int .i64 0, .int .i64 0] := by kernel_rfl
theorem zl_47 : zl Tryd.prog 47 = some 7 := by kernel_rfl
theorem fo_47_0 : fo Tryd.prog 47 0 = some (0, false, 1) := by kernel_rfl
theorem fo_47_1 : fo Tryd.prog 47 1 = some (1, false, 1) := by kernel_rfl
theorem fo_47_2 : fo Tryd.prog 47 2 = some (2, false, 1) := by kernel_rfl
theorem fo_47_3 : fo Tryd.prog 47 3 = some (3, false, 1) := by kernel_rfl
theorem fo_47_4 : fo Tryd.prog 47 4 = some (4, false, 1) := by kernel_rfl
theorem fo_47_5 : fo Tryd.prog 47 5 = some (5, false, 1) := by kernel_rfl
theorem fo_47_6 : fo Tryd.prog 47 6 = some (6, false, 1) := by kernel_rfl
theorem sh_47 : Program.stoodInHeld Tryd.prog 47 = false := by kernel_rfl
theorem eg_47 : Program.eqGuardType Tryd.prog (Program.depth Tryd.prog) 47 = false := by kernel_rfl
theorem pls_47 : pls Tryd.prog 47 = some [(0, 1), (1, 1), (2, 1), (3, 1), (4, 1), (5, 1), (6, 1)] := by kernel_rfl
theorem tk_48 : tk Tryd.prog 48 = some (false, 1) := by kernel_rfl
theorem eb_48 : eb Tryd.prog 48 = some 24 := by kernel_rfl
theorem zc_48 : zc Tryd.prog 48 = some [.nils] := by kernel_rfl
theorem zl_48 : zl Tryd.prog 48 = some 1 := by kernel_rfl
theorem tk_49 : tk Tryd.prog 49 = some (false, 1) := by kernel_rfl
theorem eb_49 : eb Tryd.prog 49 = some 8 := by kernel_rfl
theorem zc_49 : zc Tryd.prog 49 = some [.nilf] := by kernel_rfl
theorem zl_49 : zl Tryd.prog 49 = some 1 := by kernel_rfl
theorem tk_50 : tk Tryd.prog 50 = some (false, 1) := by kernel_rfl
theorem eb_50 : eb Tryd.prog 50 = some 8 := by kernel_rfl
theorem zc_50 : zc Tryd.prog 50 = some [.nilf] := by kernel_rfl
theorem zl_50 : zl Tryd.prog 50 = some 1 := by kernel_rfl
theorem tk_51 : tk Tryd.prog 51 = some (false, 1) := by kernel_rfl
theorem eb_51 : eb Tryd.prog 51 = some 8 := by kernel_rfl
theorem zc_51 : zc Tryd.prog 51 = some [.nilf] := by kernel_rfl
theorem zl_51 : zl Tryd.prog 51 = some 1 := by kernel_rfl
theorem tk_52 : tk Tryd.prog 52 = some (false, 1) := by kernel_rfl
theorem eb_52 : eb Tryd.prog 52 = some 8 := by kernel_rfl
theorem zc_52 : zc Tryd.prog 52 = some [.nilf] := by kernel_rfl
theorem zl_52 : zl Tryd.prog 52 = some 1 := by kernel_rfl
theorem tk_53 : tk Tryd.prog 53 = some (false, 1) := by kernel_rfl
theorem eb_53 : eb Tryd.prog 53 = some 0 := by kernel_rfl
theorem tk_54 : tk Tryd.prog 54 = some (false, 1) := by kernel_rfl
theorem eb_54 : eb Tryd.prog 54 = some 8 := by kernel_rfl
theorem zc_54 : zc Tryd.prog 54 = some [.nilf] := by kernel_rfl
theorem zl_54 : zl Tryd.prog 54 = some 1 := by kernel_rfl
theorem tk_55 : tk Tryd.prog 55 = some (false, 1) := by kernel_rfl
theorem eb_55 : eb Tryd.prog 55 = some 8 := by kernel_rfl
theorem zc_55 : zc Tryd.prog 55 = some [.nilmap] := by kernel_rfl
theorem zl_55 : zl Tryd.prog 55 = some 1 := by kernel_rfl
theorem tk_56 : tk Tryd.prog 56 = some (false, 1) := by kernel_rfl
theorem eb_56 : eb Tryd.prog 56 = some 8 := by kernel_rfl
theorem zc_56 : zc Tryd.prog 56 = some [.nilmap] := by kernel_rfl
theorem zl_56 : zl Tryd.prog 56 = some 1 := by kernel_rfl
theorem tk_57 : tk Tryd.prog 57 = some (true, 11) := by kernel_rfl
theorem eb_57 : eb Tryd.prog 57 = some 88 := by kernel_rfl
theorem zc_57 : zc Tryd.prog 57 = some [.int .i64 0, .int .i64 0, .int .i64 0, .int .i64 0, .int .i64 0, .int .i64 0, .int .i64 0, .int .i64 0, .int .i64 0, .int .i64 0, .bool false] := by kernel_rfl
theorem zl_57 : zl Tryd.prog 57 = some 11 := by kernel_rfl
theorem fo_57_0 : fo Tryd.prog 57 0 = some (0, true, 10) := by kernel_rfl
theorem fo_57_1 : fo Tryd.prog 57 1 = some (10, false, 1) := by kernel_rfl
theorem sh_57 : Program.stoodInHeld Tryd.prog 57 = false := by kernel_rfl
theorem eg_57 : Program.eqGuardType Tryd.prog (Program.depth Tryd.prog) 57 = false := by kernel_rfl
theorem pls_57 : pls Tryd.prog 57 = some [(0, 10), (10, 1)] := by kernel_rfl
theorem tk_58 : tk Tryd.prog 58 = some (true, 11) := by kernel_rfl
theorem eb_58 : eb Tryd.prog 58 = some 88 := by kernel_rfl
theorem zc_58 : zc Tryd.prog 58 = some [.int .i64 0, .int .i64 0, .int .i64 0, .int .i64 0, .int .i64 0, .int .i64 0, .int .i64 0, .int .i64 0, .int .i64 0, .int .i64 0, .bool false] := by kernel_rfl
theorem zl_58 : zl Tryd.prog 58 = some 11 := by kernel_rfl
theorem fo_58_0 : fo Tryd.prog 58 0 = some (0, true, 10) := by kernel_rfl
theorem fo_58_1 : fo Tryd.prog 58 1 = some (10, false, 1) := by kernel_rfl
theorem sh_58 : Program.stoodInHeld Tryd.prog 58 = false := by kernel_rfl
theorem eg_58 : Program.eqGuardType Tryd.prog (Program.depth Tryd.prog) 58 = false := by kernel_rfl
theorem pls_58 : pls Tryd.prog 58 = some [(0, 10), (10, 1)] := by kernel_rfl
theorem tk_59 : tk Tryd.prog 59 = some (true, 14) := by kernel_rfl
theorem eb_59 : eb Tryd.prog 59 = some 128 := by kernel_rfl
theorem zc_59 : zc Tryd.prog 59 = some [.nils, .nilmap, .int .i64 0, .int .i64 0, .int .i64 0, .int .i64 0, .int .i64 0, .int .i64 0, .int .i64 0, .int .i64 0, .int .i64 0, .int .i64 0, .bool false, .nilmap] := by kernel_rfl
theorem zl_59 : zl Tryd.prog 59 = some 14 := by kernel_rfl
theorem fo_59_0 : fo Tryd.prog 59 0 = some (0, false, 1) := by kernel_rfl
theorem fo_59_1 : fo Tryd.prog 59 1 = some (1, false, 1) := by kernel_rfl
theorem fo_59_2 : fo Tryd.prog 59 2 = some (2, true, 11) := by kernel_rfl
theorem fo_59_3 : fo Tryd.prog 59 3 = some (13, false, 1) := by kernel_rfl
theorem sh_59 : Program.stoodInHeld Tryd.prog 59 = false := by kernel_rfl
theorem eg_59 : Program.eqGuardType Tryd.prog (Program.depth Tryd.prog) 59 = false := by kernel_rfl
theorem pls_59 : pls Tryd.prog 59 = some [(0, 1), (1, 1), (2, 11), (13, 1)] := by kernel_rfl
theorem tk_60 : tk Tryd.prog 60 = some (true, 14) := by kernel_rfl
theorem eb_60 : eb Tryd.prog 60 = some 128 := by kernel_rfl
theorem zc_60 : zc Tryd.prog 60 = some [.nils, .nilmap, .int .i64 0, .int .i64 0, .int .i64 0, .int .i64 0, .int .i64 0, .int .i64 0, .int .i64 0, .int .i64 0, .int .i64 0, .int .i64 0, .bool false, .nilmap] := by kernel_rfl
theorem zl_60 : zl Tryd.prog 60 = some 14 := by kernel_rfl
theorem fo_60_0 : fo Tryd.prog 60 0 = some (0, false, 1) := by kernel_rfl
theorem fo_60_1 : fo Tryd.prog 60 1 = some (1, false, 1) := by kernel_rfl
theorem fo_60_2 : fo Tryd.prog 60 2 = some (2, true, 11) := by kernel_rfl
theorem fo_60_3 : fo Tryd.prog 60 3 = some (13, false, 1) := by kernel_rfl
theorem sh_60 : Program.stoodInHeld Tryd.prog 60 = false := by kernel_rfl
theorem eg_60 : Program.eqGuardType Tryd.prog (Program.depth Tryd.prog) 60 = false := by kernel_rfl
theorem pls_60 : pls Tryd.prog 60 = some [(0, 1), (1, 1), (2, 11), (13, 1)] := by kernel_rfl
theorem tk_61 : tk Tryd.prog 61 = some (false, 1) := by kernel_rfl
theorem eb_61 : eb Tryd.prog 61 = some 8 := by kernel_rfl
theorem zc_61 : zc Tryd.prog 61 = some [.nilp] := by kernel_rfl
theorem zl_61 : zl Tryd.prog 61 = some 1 := by kernel_rfl
theorem tk_62 : tk Tryd.prog 62 = some (true, 5) := by kernel_rfl
theorem eb_62 : eb Tryd.prog 62 = some 40 := by kernel_rfl
theorem zc_62 : zc Tryd.prog 62 = some [.int .i64 0, .int .i64 0, .int .i64 0, .int .i64 0, .int .i64 0] := by kernel_rfl
theorem zl_62 : zl Tryd.prog 62 = some 5 := by kernel_rfl
theorem fo_62_0 : fo Tryd.prog 62 0 = some (0, true, 4) := by kernel_rfl
theorem fo_62_1 : fo Tryd.prog 62 1 = some (4, false, 1) := by kernel_rfl
theorem sh_62 : Program.stoodInHeld Tryd.prog 62 = false := by kernel_rfl
theorem eg_62 : Program.eqGuardType Tryd.prog (Program.depth Tryd.prog) 62 = false := by kernel_rfl
theorem pls_62 : pls Tryd.prog 62 = some [(0, 4), (4, 1)] := by kernel_rfl
theorem tk_63 : tk Tryd.prog 63 = some (true, 5) := by kernel_rfl
theorem eb_63 : eb Tryd.prog 63 = some 40 := by kernel_rfl
theorem zc_63 : zc Tryd.prog 63 = some [.int .i64 0, .int .i64 0, .int .i64 0, .int .i64 0, .int .i64 0] := by kernel_rfl
theorem zl_63 : zl Tryd.prog 63 = some 5 := by kernel_rfl
theorem fo_63_0 : fo Tryd.prog 63 0 = some (0, true, 4) := by kernel_rfl
theorem fo_63_1 : fo Tryd.prog 63 1 = some (4, false, 1) := by kernel_rfl
theorem sh_63 : Program.stoodInHeld Tryd.prog 63 = false := by kernel_rfl
theorem eg_63 : Program.eqGuardType Tryd.prog (Program.depth Tryd.prog) 63 = false := by kernel_rfl
theorem pls_63 : pls Tryd.prog 63 = some [(0, 4), (4, 1)] := by kernel_rfl
theorem tk_64 : tk Tryd.prog 64 = some (false, 1) := by kernel_rfl
theorem eb_64 : eb Tryd.prog 64 = some 0 := by kernel_rfl
theorem tk_65 : tk Tryd.prog 65 = some (false, 1) := by kernel_rfl
theorem eb_65 : eb Tryd.prog 65 = some 8 := by kernel_rfl
theorem zc_65 : zc Tryd.prog 65 = some [.nilf] := by kernel_rfl
theorem zl_65 : zl Tryd.prog 65 = some 1 := by kernel_rfl
theorem tk_66 : tk Tryd.prog 66 = some (false, 1) := by kernel_rfl
theorem eb_66 : eb Tryd.prog 66 = some 0 := by kernel_rfl
theorem tk_67 : tk Tryd.prog 67 = some (false, 1) := by kernel_rfl
theorem eb_67 : eb Tryd.prog 67 = some 8 := by kernel_rfl
theorem zc_67 : zc Tryd.prog 67 = some [.nilf] := by kernel_rfl
theorem zl_67 : zl Tryd.prog 67 = some 1 := by kernel_rfl
theorem tk_68 : tk Tryd.prog 68 = some (true, 2) := by kernel_rfl
theorem eb_68 : eb Tryd.prog 68 = some 16 := by kernel_rfl
theorem zc_68 : zc Tryd.prog 68 = some [.nilp, .nilp] := by kernel_rfl
theorem zl_68 : zl Tryd.prog 68 = some 2 := by kernel_rfl
theorem sh_68 : Program.stoodInHeld Tryd.prog 68 = false := by kernel_rfl
theorem eg_68 : Program.eqGuardType Tryd.prog (Program.depth Tryd.prog) 68 = false := by kernel_rfl
theorem pls_68 : pls Tryd.prog 68 = none := by kernel_rfl
theorem tk_69 : tk Tryd.prog 69 = some (false, 1) := by kernel_rfl
theorem eb_69 : eb Tryd.prog 69 = some 8 := by kernel_rfl
theorem zc_69 : zc Tryd.prog 69 = some [.nilf] := by kernel_rfl
theorem zl_69 : zl Tryd.prog 69 = some 1 := by kernel_rfl
theorem tk_70 : tk Tryd.prog 70 = some (false, 1) := by kernel_rfl
theorem eb_70 : eb Tryd.prog 70 = some 8 := by kernel_rfl
theorem zc_70 : zc Tryd.prog 70 = some [.nilf] := by kernel_rfl
theorem zl_70 : zl Tryd.prog 70 = some 1 := by kernel_rfl
theorem tk_71 : tk Tryd.prog 71 = some (false, 1) := by kernel_rfl
theorem eb_71 : eb Tryd.prog 71 = some 8 := by kernel_rfl
theorem zc_71 : zc Tryd.prog 71 = some [.nilf] := by kernel_rfl
theorem zl_71 : zl Tryd.prog 71 = some 1 := by kernel_rfl
theorem tk_72 : tk Tryd.prog 72 = some (false, 1) := by kernel_rfl
theorem eb_72 : eb Tryd.prog 72 = some 8 := by kernel_rfl
theorem zc_72 : zc Tryd.prog 72 = some [.nilf] := by kernel_rfl
theorem zl_72 : zl Tryd.prog 72 = some 1 := by kernel_rfl
theorem tk_73 : tk Tryd.prog 73 = some (false, 1) := by kernel_rfl
theorem eb_73 : eb Tryd.prog 73 = some 8 := by kernel_rfl
theorem zc_73 : zc Tryd.prog 73 = some [.nilf] := by kernel_rfl
theorem zl_73 : zl Tryd.prog 73 = some 1 := by kernel_rfl
theorem tk_74 : tk Tryd.prog 74 = some (false, 1) := by kernel_rfl
theorem eb_74 : eb Tryd.prog 74 = some 0 := by kernel_rfl
theorem tk_75 : tk Tryd.prog 75 = some (false, 1) := by kernel_rfl
theorem eb_75 : eb Tryd.prog 75 = some 8 := by kernel_rfl
theorem zc_75 : zc Tryd.prog 75 = some [.nilf] := by kernel_rfl
theorem zl_75 : zl Tryd.prog 75 = some 1 := by kernel_rfl
theorem tk_76 : tk Tryd.prog 76 = some (false, 1) := by kernel_rfl
theorem eb_76 : eb Tryd.prog 76 = some 8 := by kernel_rfl
theorem zc_76 : zc Tryd.prog 76 = some [.nilf] := by kernel_rfl
theorem zl_76 : zl Tryd.prog 76 = some 1 := by kernel_rfl
theorem tk_77 : tk Tryd.prog 77 = some (false, 1) := by kernel_rfl
theorem eb_77 : eb Tryd.prog 77 = some 8 := by kernel_rfl
theorem zc_77 : zc Tryd.prog 77 = some [.nilf] := by kernel_rfl
theorem zl_77 : zl Tryd.prog 77 = some 1 := by kernel_rfl
theorem tk_78 : tk Tryd.prog 78 = some (false, 1) := by kernel_rfl
theorem eb_78 : eb Tryd.prog 78 = some 8 := by kernel_rfl
theorem zc_78 : zc Tryd.prog 78 = some [.nilf] := by kernel_rfl
theorem zl_78 : zl Tryd.prog 78 = some 1 := by kernel_rfl
theorem tk_79 : tk Tryd.prog 79 = some (false, 1) := by kernel_rfl
theorem eb_79 : eb Tryd.prog 79 = some 8 := by kernel_rfl
theorem zc_79 : zc Tryd.prog 79 = some [.nilf] := by kernel_rfl
theorem zl_79 : zl Tryd.prog 79 = some 1 := by kernel_rfl
theorem tk_80 : tk Tryd.prog 80 = some (false, 1) := by kernel_rfl
theorem eb_80 : eb Tryd.prog 80 = some 8 := by kernel_rfl
theorem zc_80 : zc Tryd.prog 80 = some [.nilf] := by kernel_rfl
theorem zl_80 : zl Tryd.prog 80 = some 1 := by kernel_rfl
theorem tk_81 : tk Tryd.prog 81 = some (false, 1) := by kernel_rfl
theorem eb_81 : eb Tryd.prog 81 = some 8 := by kernel_rfl
theorem zc_81 : zc Tryd.prog 81 = some [.nilf] := by kernel_rfl
theorem zl_81 : zl Tryd.prog 81 = some 1 := by kernel_rfl
theorem tk_82 : tk Tryd.prog 82 = some (false, 1) := by kernel_rfl
theorem eb_82 : eb Tryd.prog 82 = some 8 := by kernel_rfl
theorem zc_82 : zc Tryd.prog 82 = some [.nilf] := by kernel_rfl
theorem zl_82 : zl Tryd.prog 82 = some 1 := by kernel_rfl
theorem tk_83 : tk Tryd.prog 83 = some (false, 1) := by kernel_rfl
theorem eb_83 : eb Tryd.prog 83 = some 8 := by kernel_rfl
theorem zc_83 : zc Tryd.prog 83 = some [.nilf] := by kernel_rfl
theorem zl_83 : zl Tryd.prog 83 = some 1 := by kernel_rfl
theorem tk_84 : tk Tryd.prog 84 = some (false, 1) := by kernel_rfl
theorem eb_84 : eb Tryd.prog 84 = some 8 := by kernel_rfl
theorem zc_84 : zc Tryd.prog 84 = some [.nilf] := by kernel_rfl
theorem zl_84 : zl Tryd.prog 84 = some 1 := by kernel_rfl
theorem tk_85 : tk Tryd.prog 85 = some (false, 1) := by kernel_rfl
theorem eb_85 : eb Tryd.prog 85 = some 8 := by kernel_rfl
theorem zc_85 : zc Tryd.prog 85 = some [.nilf] := by kernel_rfl
theorem zl_85 : zl Tryd.prog 85 = some 1 := by kernel_rfl
theorem tk_86 : tk Tryd.prog 86 = some (false, 1) := by kernel_rfl
theorem eb_86 : eb Tryd.prog 86 = some 8 := by kernel_rfl
theorem zc_86 : zc Tryd.prog 86 = some [.nilf] := by kernel_rfl
theorem zl_86 : zl Tryd.prog 86 = some 1 := by kernel_rfl
theorem tk_87 : tk Tryd.prog 87 = some (false, 1) := by kernel_rfl
theorem eb_87 : eb Tryd.prog 87 = some 8 := by kernel_rfl
theorem zc_87 : zc Tryd.prog 87 = some [.nilf] := by kernel_rfl
theorem zl_87 : zl Tryd.prog 87 = some 1 := by kernel_rfl
theorem tk_88 : tk Tryd.prog 88 = some (false, 1) := by kernel_rfl
theorem eb_88 : eb Tryd.prog 88 = some 8 := by kernel_rfl
theorem zc_88 : zc Tryd.prog 88 = some [.nilf] := by kernel_rfl
theorem zl_88 : zl Tryd.prog 88 = some 1 := by kernel_rfl
theorem tk_89 : tk Tryd.prog 89 = some (false, 1) := by kernel_rfl
theorem eb_89 : eb Tryd.prog 89 = some 8 := by kernel_rfl
theorem zc_89 : zc Tryd.prog 89 = some [.nilf] := by kernel_rfl
theorem zl_89 : zl Tryd.prog 89 = some 1 := by kernel_rfl
theorem tk_90 : tk Tryd.prog 90 = some (false, 1) := by kernel_rfl
theorem eb_90 : eb Tryd.prog 90 = some 8 := by kernel_rfl
theorem zc_90 : zc Tryd.prog 90 = some [.nilf] := by kernel_rfl
theorem zl_90 : zl Tryd.prog 90 = some 1 := by kernel_rfl
theorem tk_91 : tk Tryd.prog 91 = some (false, 1) := by kernel_rfl
theorem eb_91 : eb Tryd.prog 91 = some 8 := by kernel_rfl
theorem zc_91 : zc Tryd.prog 91 = some [.int .u64 0] := by kernel_rfl
theorem zl_91 : zl Tryd.prog 91 = some 1 := by kernel_rfl
theorem tk_92 : tk Tryd.prog 92 = some (false, 1) := by kernel_rfl
theorem eb_92 : eb Tryd.prog 92 = some 8 := by kernel_rfl
theorem zc_92 : zc Tryd.prog 92 = some [.nilf] := by kernel_rfl
theorem zl_92 : zl Tryd.prog 92 = some 1 := by kernel_rfl
theorem tk_93 : tk Tryd.prog 93 = some (false, 1) := by kernel_rfl
theorem eb_93 : eb Tryd.prog 93 = some 8 := by kernel_rfl
theorem zc_93 : zc Tryd.prog 93 = some [.nilf] := by kernel_rfl
theorem zl_93 : zl Tryd.prog 93 = some 1 := by kernel_rfl
theorem tk_94 : tk Tryd.prog 94 = some (false, 1) := by kernel_rfl
theorem eb_94 : eb Tryd.prog 94 = some 8 := by kernel_rfl
theorem zc_94 : zc Tryd.prog 94 = some [.nilf] := by kernel_rfl
theorem zl_94 : zl Tryd.prog 94 = some 1 := by kernel_rfl
theorem tk_95 : tk Tryd.prog 95 = some (false, 1) := by kernel_rfl
theorem eb_95 : eb Tryd.prog 95 = some 8 := by kernel_rfl
theorem zc_95 : zc Tryd.prog 95 = some [.nilf] := by kernel_rfl
theorem zl_95 : zl Tryd.prog 95 = some 1 := by kernel_rfl
theorem tk_96 : tk Tryd.prog 96 = some (false, 1) := by kernel_rfl
theorem eb_96 : eb Tryd.prog 96 = some 8 := by kernel_rfl
theorem zc_96 : zc Tryd.prog 96 = some [.nilf] := by kernel_rfl
theorem zl_96 : zl Tryd.prog 96 = some 1 := by kernel_rfl
theorem tk_97 : tk Tryd.prog 97 = some (true, 4) := by kernel_rfl
theorem eb_97 : eb Tryd.prog 97 = some 32 := by kernel_rfl
theorem zc_97 : zc Tryd.prog 97 = some [.int .i64 0, .int .i64 0, .int .i64 0, .int .i64 0] := by kernel_rfl
theorem zl_97 : zl Tryd.prog 97 = some 4 := by kernel_rfl
theorem fo_97_0 : fo Tryd.prog 97 0 = some (0, false, 1) := by kernel_rfl
theorem fo_97_1 : fo Tryd.prog 97 1 = some (1, false, 1) := by kernel_rfl
theorem fo_97_2 : fo Tryd.prog 97 2 = some (2, false, 1) := by kernel_rfl
theorem fo_97_3 : fo Tryd.prog 97 3 = some (3, false, 1) := by kernel_rfl
theorem sh_97 : Program.stoodInHeld Tryd.prog 97 = false := by kernel_rfl
theorem eg_97 : Program.eqGuardType Tryd.prog (Program.depth Tryd.prog) 97 = false := by kernel_rfl
theorem pls_97 : pls Tryd.prog 97 = some [(0, 1), (1, 1), (2, 1), (3, 1)] := by kernel_rfl
theorem tk_98 : tk Tryd.prog 98 = some (true, 4) := by kernel_rfl
theorem eb_98 : eb Tryd.prog 98 = some 32 := by kernel_rfl
theorem zc_98 : zc Tryd.prog 98 = some [.int .i64 0, .int .i64 0, .int .i64 0, .int .i64 0] := by kernel_rfl
theorem zl_98 : zl Tryd.prog 98 = some 4 := by kernel_rfl
theorem fo_98_0 : fo Tryd.prog 98 0 = some (0, false, 1) := by kernel_rfl
theorem fo_98_1 : fo Tryd.prog 98 1 = some (1, false, 1) := by kernel_rfl
theorem fo_98_2 : fo Tryd.prog 98 2 = some (2, false, 1) := by kernel_rfl
theorem fo_98_3 : fo Tryd.prog 98 3 = some (3, false, 1) := by kernel_rfl
theorem sh_98 : Program.stoodInHeld Tryd.prog 98 = false := by kernel_rfl
theorem eg_98 : Program.eqGuardType Tryd.prog (Program.depth Tryd.prog) 98 = false := by kernel_rfl
theorem pls_98 : pls Tryd.prog 98 = some [(0, 1), (1, 1), (2, 1), (3, 1)] := by kernel_rfl
theorem tk_99 : tk Tryd.prog 99 = some (false, 1) := by kernel_rfl
theorem eb_99 : eb Tryd.prog 99 = some 8 := by kernel_rfl
theorem zc_99 : zc Tryd.prog 99 = some [.nilf] := by kernel_rfl
theorem zl_99 : zl Tryd.prog 99 = some 1 := by kernel_rfl
theorem tk_100 : tk Tryd.prog 100 = some (false, 1) := by kernel_rfl
theorem eb_100 : eb Tryd.prog 100 = some 8 := by kernel_rfl
theorem zc_100 : zc Tryd.prog 100 = some [.nilf] := by kernel_rfl
theorem zl_100 : zl Tryd.prog 100 = some 1 := by kernel_rfl
theorem tk_101 : tk Tryd.prog 101 = some (false, 1) := by kernel_rfl
theorem eb_101 : eb Tryd.prog 101 = some 8 := by kernel_rfl
theorem zc_101 : zc Tryd.prog 101 = some [.nilf] := by kernel_rfl
theorem zl_101 : zl Tryd.prog 101 = some 1 := by kernel_rfl
theorem tk_102 : tk Tryd.prog 102 = some (false, 1) := by kernel_rfl
theorem eb_102 : eb Tryd.prog 102 = some 8 := by kernel_rfl
theorem zc_102 : zc Tryd.prog 102 = some [.nilf] := by kernel_rfl
theorem zl_102 : zl Tryd.prog 102 = some 1 := by kernel_rfl
theorem tk_103 : tk Tryd.prog 103 = some (false, 1) := by kernel_rfl
theorem eb_103 : eb Tryd.prog 103 = some 8 := by kernel_rfl
theorem zc_103 : zc Tryd.prog 103 = some [.int .i64 0] := by kernel_rfl
theorem zl_103 : zl Tryd.prog 103 = some 1 := by kernel_rfl
theorem tk_104 : tk Tryd.prog 104 = some (false, 1) := by kernel_rfl
theorem eb_104 : eb Tryd.prog 104 = some 0 := by kernel_rfl
theorem tk_105 : tk Tryd.prog 105 = some (false, 1) := by kernel_rfl
theorem eb_105 : eb Tryd.prog 105 = some 8 := by kernel_rfl
theorem zc_105 : zc Tryd.prog 105 = some [.nilf] := by kernel_rfl
theorem zl_105 : zl Tryd.prog 105 = some 1 := by kernel_rfl
theorem tk_106 : tk Tryd.prog 106 = some (false, 1) := by kernel_rfl
theorem eb_106 : eb Tryd.prog 106 = some 8 := by kernel_rfl
theorem zc_106 : zc Tryd.prog 106 = some [.nilf] := by kernel_rfl
theorem zl_106 : zl Tryd.prog 106 = some 1 := by kernel_rfl
theorem tk_107 : tk Tryd.prog 107 = some (false, 1) := by kernel_rfl
theorem eb_107 : eb Tryd.prog 107 = some 8 := by kernel_rfl
theorem zc_107 : zc Tryd.prog 107 = some [.nilf] := by kernel_rfl
theorem zl_107 : zl Tryd.prog 107 = some 1 := by kernel_rfl
theorem tk_108 : tk Tryd.prog 108 = some (false, 1) := by kernel_rfl
theorem eb_108 : eb Tryd.prog 108 = some 8 := by kernel_rfl
theorem zc_108 : zc Tryd.prog 108 = some [.nilf] := by kernel_rfl
theorem zl_108 : zl Tryd.prog 108 = some 1 := by kernel_rfl
theorem tk_109 : tk Tryd.prog 109 = some (false, 1) := by kernel_rfl
theorem eb_109 : eb Tryd.prog 109 = some 8 := by kernel_rfl
theorem zc_109 : zc Tryd.prog 109 = some [.nilf] := by kernel_rfl
theorem zl_109 : zl Tryd.prog 109 = some 1 := by kernel_rfl
theorem tk_110 : tk Tryd.prog 110 = some (false, 1) := by kernel_rfl
theorem eb_110 : eb Tryd.prog 110 = some 8 := by kernel_rfl
theorem zc_110 : zc Tryd.prog 110 = some [.nilf] := by kernel_rfl
theorem zl_110 : zl Tryd.prog 110 = some 1 := by kernel_rfl
theorem tk_111 : tk Tryd.prog 111 = some (false, 1) := by kernel_rfl
theorem eb_111 : eb Tryd.prog 111 = some 4 := by kernel_rfl
theorem zc_111 : zc Tryd.prog 111 = some [.int .u32 0] := by kernel_rfl
theorem zl_111 : zl Tryd.prog 111 = some 1 := by kernel_rfl
theorem tk_112 : tk Tryd.prog 112 = some (false, 1) := by kernel_rfl
theorem eb_112 : eb Tryd.prog 112 = some 8 := by kernel_rfl
theorem zc_112 : zc Tryd.prog 112 = some [.nilf] := by kernel_rfl
theorem zl_112 : zl Tryd.prog 112 = some 1 := by kernel_rfl
theorem tk_113 : tk Tryd.prog 113 = some (false, 1) := by kernel_rfl
theorem eb_113 : eb Tryd.prog 113 = some 8 := by kernel_rfl
theorem zc_113 : zc Tryd.prog 113 = some [.int .u64 0] := by kernel_rfl
theorem zl_113 : zl Tryd.prog 113 = some 1 := by kernel_rfl
theorem tk_114 : tk Tryd.prog 114 = some (false, 1) := by kernel_rfl
theorem eb_114 : eb Tryd.prog 114 = some 8 := by kernel_rfl
theorem zc_114 : zc Tryd.prog 114 = some [.nilf] := by kernel_rfl
theorem zl_114 : zl Tryd.prog 114 = some 1 := by kernel_rfl
theorem tk_115 : tk Tryd.prog 115 = some (true, 2) := by kernel_rfl
theorem eb_115 : eb Tryd.prog 115 = some 8 := by kernel_rfl
theorem zc_115 : zc Tryd.prog 115 = some [.bool false, .int .u32 0] := by kernel_rfl
theorem zl_115 : zl Tryd.prog 115 = some 2 := by kernel_rfl
theorem fo_115_0 : fo Tryd.prog 115 0 = some (0, false, 1) := by kernel_rfl
theorem fo_115_1 : fo Tryd.prog 115 1 = some (1, false, 1) := by kernel_rfl
theorem sh_115 : Program.stoodInHeld Tryd.prog 115 = false := by kernel_rfl
theorem eg_115 : Program.eqGuardType Tryd.prog (Program.depth Tryd.prog) 115 = false := by kernel_rfl
theorem pls_115 : pls Tryd.prog 115 = some [(0, 1), (1, 1)] := by kernel_rfl
theorem tk_116 : tk Tryd.prog 116 = some (true, 2) := by kernel_rfl
theorem eb_116 : eb Tryd.prog 116 = some 8 := by kernel_rfl
theorem zc_116 : zc Tryd.prog 116 = some [.bool false, .int .u32 0] := by kernel_rfl
theorem zl_116 : zl Tryd.prog 116 = some 2 := by kernel_rfl
theorem fo_116_0 : fo Tryd.prog 116 0 = some (0, false, 1) := by kernel_rfl
theorem fo_116_1 : fo Tryd.prog 116 1 = some (1, false, 1) := by kernel_rfl
theorem sh_116 : Program.stoodInHeld Tryd.prog 116 = false := by kernel_rfl
theorem eg_116 : Program.eqGuardType Tryd.prog (Program.depth Tryd.prog) 116 = false := by kernel_rfl
theorem pls_116 : pls Tryd.prog 116 = some [(0, 1), (1, 1)] := by kernel_rfl
theorem tk_117 : tk Tryd.prog 117 = some (true, 8) := by kernel_rfl
theorem eb_117 : eb Tryd.prog 117 = some 8 := by kernel_rfl
theorem zc_117 : zc Tryd.prog 117 = some [.int .u8 0, .int .u8 0, .int .u8 0, .int .u8 0, .int .u8 0, .int .u8 0, .int .u8 0, .int .u8 0] := by kernel_rfl
theorem zl_117 : zl Tryd.prog 117 = some 8 := by kernel_rfl
theorem sh_117 : Program.stoodInHeld Tryd.prog 117 = false := by kernel_rfl
theorem eg_117 : Program.eqGuardType Tryd.prog (Program.depth Tryd.prog) 117 = false := by kernel_rfl
theorem pls_117 : pls Tryd.prog 117 = none := by kernel_rfl
theorem tk_118 : tk Tryd.prog 118 = some (true, 12) := by kernel_rfl
theorem eb_118 : eb Tryd.prog 118 = some 32 := by kernel_rfl
theorem zc_118 : zc Tryd.prog 118 = some [.bool false, .int .u32 0, .bool false, .int .i64 0, .int .u8 0, .int .u8 0, .int .u8 0, .int .u8 0, .int .u8 0, .int .u8 0, .int .u8 0, .int .u8 0] := by kernel_rfl
theorem zl_118 : zl Tryd.prog 118 = some 12 := by kernel_rfl
theorem fo_118_0 : fo Tryd.prog 118 0 = some (0, true, 2) := by kernel_rfl
theorem fo_118_1 : fo Tryd.prog 118 1 = some (2, false, 1) := by kernel_rfl
theorem fo_118_2 : fo Tryd.prog 118 2 = some (3, false, 1) := by kernel_rfl
theorem fo_118_3 : fo Tryd.prog 118 3 = some (4, true, 8) := by kernel_rfl
theorem sh_118 : Program.stoodInHeld Tryd.prog 118 = false := by kernel_rfl
theorem eg_118 : Program.eqGuardType Tryd.prog (Program.depth Tryd.prog) 118 = false := by kernel_rfl
theorem pls_118 : pls Tryd.prog 118 = some [(0, 2), (2, 1), (3, 1), (4, 8)] := by kernel_rfl
theorem tk_119 : tk Tryd.prog 119 = some (true, 12) := by kernel_rfl
theorem eb_119 : eb Tryd.prog 119 = some 32 := by kernel_rfl
theorem zc_119 : zc Tryd.prog 119 = some [.bool false, .int .u32 0, .bool false, .int .i64 0, .int .u8 0, .int .u8 0, .int .u8 0, .int .u8 0, .int .u8 0, .int .u8 0, .int .u8 0, .int .u8 0] := by kernel_rfl
theorem zl_119 : zl Tryd.prog 119 = some 12 := by kernel_rfl
theorem fo_119_0 : fo Tryd.prog 119 0 = some (0, true, 2) := by kernel_rfl
theorem fo_119_1 : fo Tryd.prog 119 1 = some (2, false, 1) := by kernel_rfl
theorem fo_119_2 : fo Tryd.prog 119 2 = some (3, false, 1) := by kernel_rfl
theorem fo_119_3 : fo Tryd.prog 119 3 = some (4, true, 8) := by kernel_rfl
theorem sh_119 : Program.stoodInHeld Tryd.prog 119 = false := by kernel_rfl
theorem eg_119 : Program.eqGuardType Tryd.prog (Program.depth Tryd.prog) 119 = false := by kernel_rfl
theorem pls_119 : pls Tryd.prog 119 = some [(0, 2), (2, 1), (3, 1), (4, 8)] := by kernel_rfl
theorem tk_120 : tk Tryd.prog 120 = some (false, 1) := by kernel_rfl
theorem eb_120 : eb Tryd.prog 120 = some 8 := by kernel_rfl
theorem zc_120 : zc Tryd.prog 120 = some [.nilf] := by kernel_rfl
theorem zl_120 : zl Tryd.prog 120 = some 1 := by kernel_rfl
theorem tk_121 : tk Tryd.prog 121 = some (false, 1) := by kernel_rfl
theorem eb_121 : eb Tryd.prog 121 = some 24 := by kernel_rfl
theorem zc_121 : zc Tryd.prog 121 = some [.nils] := by kernel_rfl
theorem zl_121 : zl Tryd.prog 121 = some 1 := by kernel_rfl
theorem tk_122 : tk Tryd.prog 122 = some (false, 1) := by kernel_rfl
theorem eb_122 : eb Tryd.prog 122 = some 8 := by kernel_rfl
theorem zc_122 : zc Tryd.prog 122 = some [.nilf] := by kernel_rfl
theorem zl_122 : zl Tryd.prog 122 = some 1 := by kernel_rfl
theorem tk_123 : tk Tryd.prog 123 = some (false, 1) := by kernel_rfl
theorem eb_123 : eb Tryd.prog 123 = some 8 := by kernel_rfl
theorem zc_123 : zc Tryd.prog 123 = some [.int .u64 0] := by kernel_rfl
theorem zl_123 : zl Tryd.prog 123 = some 1 := by kernel_rfl
theorem tk_124 : tk Tryd.prog 124 = some (false, 1) := by kernel_rfl
theorem eb_124 : eb Tryd.prog 124 = some 8 := by kernel_rfl
theorem zc_124 : zc Tryd.prog 124 = some [.nilf] := by kernel_rfl
theorem zl_124 : zl Tryd.prog 124 = some 1 := by kernel_rfl
theorem tk_125 : tk Tryd.prog 125 = some (false, 1) := by kernel_rfl
theorem eb_125 : eb Tryd.prog 125 = some 8 := by kernel_rfl
theorem zc_125 : zc Tryd.prog 125 = some [.nilf] := by kernel_rfl
theorem zl_125 : zl Tryd.prog 125 = some 1 := by kernel_rfl
theorem tk_126 : tk Tryd.prog 126 = some (false, 1) := by kernel_rfl
theorem eb_126 : eb Tryd.prog 126 = some 8 := by kernel_rfl
theorem zc_126 : zc Tryd.prog 126 = some [.nilf] := by kernel_rfl
theorem zl_126 : zl Tryd.prog 126 = some 1 := by kernel_rfl
theorem tk_127 : tk Tryd.prog 127 = some (false, 1) := by kernel_rfl
theorem eb_127 : eb Tryd.prog 127 = some 8 := by kernel_rfl
theorem zc_127 : zc Tryd.prog 127 = some [.nilp] := by kernel_rfl
theorem zl_127 : zl Tryd.prog 127 = some 1 := by kernel_rfl
theorem tk_128 : tk Tryd.prog 128 = some (false, 1) := by kernel_rfl
theorem eb_128 : eb Tryd.prog 128 = some 8 := by kernel_rfl
theorem zc_128 : zc Tryd.prog 128 = some [.nilf] := by kernel_rfl
theorem zl_128 : zl Tryd.prog 128 = some 1 := by kernel_rfl
theorem tk_129 : tk Tryd.prog 129 = some (false, 1) := by kernel_rfl
theorem eb_129 : eb Tryd.prog 129 = some 8 := by kernel_rfl
theorem zc_129 : zc Tryd.prog 129 = some [.nilf] := by kernel_rfl
theorem zl_129 : zl Tryd.prog 129 = some 1 := by kernel_rfl
theorem tk_130 : tk Tryd.prog 130 = some (false, 1) := by kernel_rfl
theorem eb_130 : eb Tryd.prog 130 = some 8 := by kernel_rfl
theorem zc_130 : zc Tryd.prog 130 = some [.nilf] := by kernel_rfl
theorem zl_130 : zl Tryd.prog 130 = some 1 := by kernel_rfl
theorem tk_131 : tk Tryd.prog 131 = some (false, 1) := by kernel_rfl
theorem eb_131 : eb Tryd.prog 131 = some 8 := by kernel_rfl
theorem zc_131 : zc Tryd.prog 131 = some [.nilf] := by kernel_rfl
theorem zl_131 : zl Tryd.prog 131 = some 1 := by kernel_rfl
theorem tk_132 : tk Tryd.prog 132 = some (false, 1) := by kernel_rfl
theorem eb_132 : eb Tryd.prog 132 = some 8 := by kernel_rfl
theorem zc_132 : zc Tryd.prog 132 = some [.nilf] := by kernel_rfl
theorem zl_132 : zl Tryd.prog 132 = some 1 := by kernel_rfl
theorem tk_133 : tk Tryd.prog 133 = some (false, 1) := by kernel_rfl
theorem eb_133 : eb Tryd.prog 133 = some 8 := by kernel_rfl
theorem zc_133 : zc Tryd.prog 133 = some [.nilf] := by kernel_rfl
theorem zl_133 : zl Tryd.prog 133 = some 1 := by kernel_rfl
theorem tk_134 : tk Tryd.prog 134 = some (false, 1) := by kernel_rfl
theorem eb_134 : eb Tryd.prog 134 = some 8 := by kernel_rfl
theorem zc_134 : zc Tryd.prog 134 = some [.nilf] := by kernel_rfl
theorem zl_134 : zl Tryd.prog 134 = some 1 := by kernel_rfl
theorem tk_135 : tk Tryd.prog 135 = some (false, 1) := by kernel_rfl
theorem eb_135 : eb Tryd.prog 135 = some 8 := by kernel_rfl
theorem zc_135 : zc Tryd.prog 135 = some [.nilp] := by kernel_rfl
theorem zl_135 : zl Tryd.prog 135 = some 1 := by kernel_rfl
theorem tk_136 : tk Tryd.prog 136 = some (false, 1) := by kernel_rfl
theorem eb_136 : eb Tryd.prog 136 = some 0 := by kernel_rfl
theorem tk_137 : tk Tryd.prog 137 = some (false, 1) := by kernel_rfl
theorem eb_137 : eb Tryd.prog 137 = some 8 := by kernel_rfl
theorem zc_137 : zc Tryd.prog 137 = some [.nilf] := by kernel_rfl
theorem zl_137 : zl Tryd.prog 137 = some 1 := by kernel_rfl
theorem tk_138 : tk Tryd.prog 138 = some (false, 1) := by kernel_rfl
theorem eb_138 : eb Tryd.prog 138 = some 8 := by kernel_rfl
theorem zc_138 : zc Tryd.prog 138 = some [.nilf] := by kernel_rfl
theorem zl_138 : zl Tryd.prog 138 = some 1 := by kernel_rfl
theorem tk_139 : tk Tryd.prog 139 = some (false, 1) := by kernel_rfl
theorem eb_139 : eb Tryd.prog 139 = some 8 := by kernel_rfl
theorem zc_139 : zc Tryd.prog 139 = some [.nilf] := by kernel_rfl
theorem zl_139 : zl Tryd.prog 139 = some 1 := by kernel_rfl
theorem tk_140 : tk Tryd.prog 140 = some (false, 1) := by kernel_rfl
theorem eb_140 : eb Tryd.prog 140 = some 8 := by kernel_rfl
theorem zc_140 : zc Tryd.prog 140 = some [.nilf] := by kernel_rfl
theorem zl_140 : zl Tryd.prog 140 = some 1 := by kernel_rfl
theorem tk_141 : tk Tryd.prog 141 = some (false, 1) := by kernel_rfl
theorem eb_141 : eb Tryd.prog 141 = some 24 := by kernel_rfl
theorem zc_141 : zc Tryd.prog 141 = some [.nils] := by kernel_rfl
theorem zl_141 : zl Tryd.prog 141 = some 1 := by kernel_rfl
theorem tk_142 : tk Tryd.prog 142 = some (false, 1) := by kernel_rfl
theorem eb_142 : eb Tryd.prog 142 = some 8 := by kernel_rfl
theorem zc_142 : zc Tryd.prog 142 = some [.nilf] := by kernel_rfl
theorem zl_142 : zl Tryd.prog 142 = some 1 := by kernel_rfl
theorem tk_143 : tk Tryd.prog 143 = some (false, 1) := by kernel_rfl
theorem eb_143 : eb Tryd.prog 143 = some 8 := by kernel_rfl
theorem zc_143 : zc Tryd.prog 143 = some [.nilf] := by kernel_rfl
theorem zl_143 : zl Tryd.prog 143 = some 1 := by kernel_rfl
theorem tk_144 : tk Tryd.prog 144 = some (false, 1) := by kernel_rfl
theorem eb_144 : eb Tryd.prog 144 = some 2 := by kernel_rfl
theorem zc_144 : zc Tryd.prog 144 = some [.int .u16 0] := by kernel_rfl
theorem zl_144 : zl Tryd.prog 144 = some 1 := by kernel_rfl
theorem tk_145 : tk Tryd.prog 145 = some (false, 1) := by kernel_rfl
theorem eb_145 : eb Tryd.prog 145 = some 8 := by kernel_rfl
theorem zc_145 : zc Tryd.prog 145 = some [.nilf] := by kernel_rfl
theorem zl_145 : zl Tryd.prog 145 = some 1 := by kernel_rfl
theorem tk_146 : tk Tryd.prog 146 = some (false, 1) := by kernel_rfl
theorem eb_146 : eb Tryd.prog 146 = some 8 := by kernel_rfl
theorem zc_146 : zc Tryd.prog 146 = some [.nilf] := by kernel_rfl
theorem zl_146 : zl Tryd.prog 146 = some 1 := by kernel_rfl
theorem tk_147 : tk Tryd.prog 147 = some (false, 1) := by kernel_rfl
theorem eb_147 : eb Tryd.prog 147 = some 8 := by kernel_rfl
theorem zc_147 : zc Tryd.prog 147 = some [.nilf] := by kernel_rfl
theorem zl_147 : zl Tryd.prog 147 = some 1 := by kernel_rfl
theorem tk_148 : tk Tryd.prog 148 = some (false, 1) := by kernel_rfl
theorem eb_148 : eb Tryd.prog 148 = some 8 := by kernel_rfl
theorem zc_148 : zc Tryd.prog 148 = some [.nilf] := by kernel_rfl
theorem zl_148 : zl Tryd.prog 148 = some 1 := by kernel_rfl
theorem tk_149 : tk Tryd.prog 149 = some (false, 1) := by kernel_rfl
theorem eb_149 : eb Tryd.prog 149 = some 8 := by kernel_rfl
theorem zc_149 : zc Tryd.prog 149 = some [.nilf] := by kernel_rfl
theorem zl_149 : zl Tryd.prog 149 = some 1 := by kernel_rfl
theorem tk_150 : tk Tryd.prog 150 = some (false, 1) := by kernel_rfl
theorem eb_150 : eb Tryd.prog 150 = some 8 := by kernel_rfl
theorem zc_150 : zc Tryd.prog 150 = some [.nilf] := by kernel_rfl
theorem zl_150 : zl Tryd.prog 150 = some 1 := by kernel_rfl
theorem tk_151 : tk Tryd.prog 151 = some (true, 16) := by kernel_rfl
theorem eb_151 : eb Tryd.prog 151 = some 16 := by kernel_rfl
theorem zc_151 : zc Tryd.prog 151 = some [.int .u8 0, .int .u8 0, .int .u8 0, .int .u8 0, .int .u8 0, .int .u8 0, .int .u8 0, .int .u8 0, .int .u8 0, .int .u8 0, .int .u8 0, .int .u8 0, .int .u8 0, .int .u8 0, .int .u8 0, .int .u8 0] := by kernel_rfl
theorem zl_151 : zl Tryd.prog 151 = some 16 := by kernel_rfl
theorem sh_151 : Program.stoodInHeld Tryd.prog 151 = false := by kernel_rfl
theorem eg_151 : Program.eqGuardType Tryd.prog (Program.depth Tryd.prog) 151 = false := by kernel_rfl
theorem pls_151 : pls Tryd.prog 151 = none := by kernel_rfl
theorem tk_152 : tk Tryd.prog 152 = some (false, 1) := by kernel_rfl
theorem eb_152 : eb Tryd.prog 152 = some 8 := by kernel_rfl
theorem zc_152 : zc Tryd.prog 152 = some [.nilf] := by kernel_rfl
theorem zl_152 : zl Tryd.prog 152 = some 1 := by kernel_rfl
theorem tk_153 : tk Tryd.prog 153 = some (false, 1) := by kernel_rfl
theorem eb_153 : eb Tryd.prog 153 = some 8 := by kernel_rfl
theorem zc_153 : zc Tryd.prog 153 = some [.nilf] := by kernel_rfl
theorem zl_153 : zl Tryd.prog 153 = some 1 := by kernel_rfl
theorem tk_154 : tk Tryd.prog 154 = some (false, 1) := by kernel_rfl
theorem eb_154 : eb Tryd.prog 154 = some 8 := by kernel_rfl
theorem zc_154 : zc Tryd.prog 154 = some [.nilf] := by kernel_rfl
theorem zl_154 : zl Tryd.prog 154 = some 1 := by kernel_rfl
theorem tk_155 : tk Tryd.prog 155 = some (false, 1) := by kernel_rfl
theorem eb_155 : eb Tryd.prog 155 = some 8 := by kernel_rfl
theorem zc_155 : zc Tryd.prog 155 = some [.nilf] := by kernel_rfl
theorem zl_155 : zl Tryd.prog 155 = some 1 := by kernel_rfl
theorem tk_156 : tk Tryd.prog 156 = some (true, 4) := by kernel_rfl
theorem eb_156 : eb Tryd.prog 156 = some 40 := by kernel_rfl
theorem zc_156 : zc Tryd.prog 156 = some [.nilp, .nilp, .nilp, .str ByteArray.empty] := by kernel_rfl
theorem zl_156 : zl Tryd.prog 156 = some 4 := by kernel_rfl
theorem fo_156_0 : fo Tryd.prog 156 0 = some (0, false, 1) := by kernel_rfl
theorem fo_156_1 : fo Tryd.prog 156 1 = some (1, false, 1) := by kernel_rfl
theorem fo_156_2 : fo Tryd.prog 156 2 = some (2, false, 1) := by kernel_rfl
theorem fo_156_3 : fo Tryd.prog 156 3 = some (3, false, 1) := by kernel_rfl
theorem sh_156 : Program.stoodInHeld Tryd.prog 156 = true := by kernel_rfl
theorem eg_156 : Program.eqGuardType Tryd.prog (Program.depth Tryd.prog) 156 = false := by kernel_rfl
theorem pls_156 : pls Tryd.prog 156 = some [(0, 1), (1, 1), (2, 1), (3, 1)] := by kernel_rfl
theorem tk_157 : tk Tryd.prog 157 = some (true, 4) := by kernel_rfl
theorem eb_157 : eb Tryd.prog 157 = some 40 := by kernel_rfl
theorem zc_157 : zc Tryd.prog 157 = some [.nilp, .nilp, .nilp, .str ByteArray.empty] := by kernel_rfl
theorem zl_157 : zl Tryd.prog 157 = some 4 := by kernel_rfl
theorem fo_157_0 : fo Tryd.prog 157 0 = some (0, false, 1) := by kernel_rfl
theorem fo_157_1 : fo Tryd.prog 157 1 = some (1, false, 1) := by kernel_rfl
theorem fo_157_2 : fo Tryd.prog 157 2 = some (2, false, 1) := by kernel_rfl
theorem fo_157_3 : fo Tryd.prog 157 3 = some (3, false, 1) := by kernel_rfl
theorem sh_157 : Program.stoodInHeld Tryd.prog 157 = true := by kernel_rfl
theorem eg_157 : Program.eqGuardType Tryd.prog (Program.depth Tryd.prog) 157 = false := by kernel_rfl
theorem pls_157 : pls Tryd.prog 157 = some [(0, 1), (1, 1), (2, 1), (3, 1)] := by kernel_rfl
theorem tk_158 : tk Tryd.prog 158 = some (true, 0) := by kernel_rfl
theorem eb_158 : eb Tryd.prog 158 = some 0 := by kernel_rfl
theorem zc_158 : zc Tryd.prog 158 = some [] := by kernel_rfl
theorem zl_158 : zl Tryd.prog 158 = some 0 := by kernel_rfl
theorem sh_158 : Program.stoodInHeld Tryd.prog 158 = false := by kernel_rfl
theorem eg_158 : Program.eqGuardType Tryd.prog (Program.depth Tryd.prog) 158 = false := by kernel_rfl
theorem pls_158 : pls Tryd.prog 158 = none := by kernel_rfl
theorem tk_159 : tk Tryd.prog 159 = some (true, 0) := by kernel_rfl
theorem eb_159 : eb Tryd.prog 159 = some 0 := by kernel_rfl
theorem zc_159 : zc Tryd.prog 159 = some [] := by kernel_rfl
theorem zl_159 : zl Tryd.prog 159 = some 0 := by kernel_rfl
theorem fo_159_0 : fo Tryd.prog 159 0 = some (0, true, 0) := by kernel_rfl
theorem sh_159 : Program.stoodInHeld Tryd.prog 159 = true := by kernel_rfl
theorem eg_159 : Program.eqGuardType Tryd.prog (Program.depth Tryd.prog) 159 = false := by kernel_rfl
theorem pls_159 : pls Tryd.prog 159 = some [(0, 0)] := by kernel_rfl
theorem tk_160 : tk Tryd.prog 160 = some (true, 0) := by kernel_rfl
theorem eb_160 : eb Tryd.prog 160 = some 0 := by kernel_rfl
theorem zc_160 : zc Tryd.prog 160 = some [] := by kernel_rfl
theorem zl_160 : zl Tryd.prog 160 = some 0 := by kernel_rfl
theorem fo_160_0 : fo Tryd.prog 160 0 = some (0, true, 0) := by kernel_rfl
theorem sh_160 : Program.stoodInHeld Tryd.prog 160 = true := by kernel_rfl
theorem eg_160 : Program.eqGuardType Tryd.prog (Program.depth Tryd.prog) 160 = false := by kernel_rfl
theorem pls_160 : pls Tryd.prog 160 = some [(0, 0)] := by kernel_rfl
theorem tk_161 : tk Tryd.prog 161 = some (false, 1) := by kernel_rfl
theorem eb_161 : eb Tryd.prog 161 = some 8 := by kernel_rfl
theorem zc_161 : zc Tryd.prog 161 = some [.nilf] := by kernel_rfl
theorem zl_161 : zl Tryd.prog 161 = some 1 := by kernel_rfl
theorem tk_162 : tk Tryd.prog 162 = some (false, 1) := by kernel_rfl
theorem eb_162 : eb Tryd.prog 162 = some 1 := by kernel_rfl
theorem zc_162 : zc Tryd.prog 162 = some [.int .u8 0] := by kernel_rfl
theorem zl_162 : zl Tryd.prog 162 = some 1 := by kernel_rfl
theorem tk_163 : tk Tryd.prog 163 = some (false, 1) := by kernel_rfl
theorem eb_163 : eb Tryd.prog 163 = some 1 := by kernel_rfl
theorem zc_163 : zc Tryd.prog 163 = some [.int .u8 0] := by kernel_rfl
theorem zl_163 : zl Tryd.prog 163 = some 1 := by kernel_rfl
theorem tk_164 : tk Tryd.prog 164 = some (false, 1) := by kernel_rfl
theorem eb_164 : eb Tryd.prog 164 = some 8 := by kernel_rfl
theorem zc_164 : zc Tryd.prog 164 = some [.nilf] := by kernel_rfl
theorem zl_164 : zl Tryd.prog 164 = some 1 := by kernel_rfl
theorem tk_165 : tk Tryd.prog 165 = some (false, 1) := by kernel_rfl
theorem eb_165 : eb Tryd.prog 165 = some 8 := by kernel_rfl
theorem zc_165 : zc Tryd.prog 165 = some [.nilp] := by kernel_rfl
theorem zl_165 : zl Tryd.prog 165 = some 1 := by kernel_rfl
theorem tk_166 : tk Tryd.prog 166 = some (false, 1) := by kernel_rfl
theorem eb_166 : eb Tryd.prog 166 = some 4 := by kernel_rfl
theorem zc_166 : zc Tryd.prog 166 = some [.int .i32 0] := by kernel_rfl
theorem zl_166 : zl Tryd.prog 166 = some 1 := by kernel_rfl
theorem tk_167 : tk Tryd.prog 167 = some (false, 1) := by kernel_rfl
theorem eb_167 : eb Tryd.prog 167 = some 4 := by kernel_rfl
theorem zc_167 : zc Tryd.prog 167 = some [.int .i32 0] := by kernel_rfl
theorem zl_167 : zl Tryd.prog 167 = some 1 := by kernel_rfl
theorem tk_168 : tk Tryd.prog 168 = some (true, 11) := by kernel_rfl
theorem eb_168 : eb Tryd.prog 168 = some 48 := by kernel_rfl
theorem zc_168 : zc Tryd.prog 168 = some [.int .u64 0, .int .u64 0, .int .u32 0, .int .u8 0, .int .u8 0, .int .u8 0, .int .u8 0, .nilf, .nilp, .int .i32 0, .int .i32 0] := by kernel_rfl
theorem zl_168 : zl Tryd.prog 168 = some 11 := by kernel_rfl
theorem fo_168_0 : fo Tryd.prog 168 0 = some (0, false, 1) := by kernel_rfl
theorem fo_168_1 : fo Tryd.prog 168 1 = some (1, false, 1) := by kernel_rfl
theorem fo_168_2 : fo Tryd.prog 168 2 = some (2, false, 1) := by kernel_rfl
theorem fo_168_3 : fo Tryd.prog 168 3 = some (3, false, 1) := by kernel_rfl
theorem fo_168_4 : fo Tryd.prog 168 4 = some (4, false, 1) := by kernel_rfl
theorem fo_168_5 : fo Tryd.prog 168 5 = some (5, false, 1) := by kernel_rfl
theorem fo_168_6 : fo Tryd.prog 168 6 = some (6, false, 1) := by kernel_rfl
theorem fo_168_7 : fo Tryd.prog 168 7 = some (7, false, 1) := by kernel_rfl
theorem fo_168_8 : fo Tryd.prog 168 8 = some (8, false, 1) := by kernel_rfl
theorem fo_168_9 : fo Tryd.prog 168 9 = some (9, false, 1) := by kernel_rfl
theorem fo_168_10 : fo Tryd.prog 168 10 = some (10, false, 1) := by kernel_rfl
theorem sh_168 : Program.stoodInHeld Tryd.prog 168 = true := by kernel_rfl
theorem eg_168 : Program.eqGuardType Tryd.prog (Program.depth Tryd.prog) 168 = false := by kernel_rfl
theorem pls_168 : pls Tryd.prog 168 = some [(0, 1), (1, 1), (2, 1), (3, 1), (4, 1), (5, 1), (6, 1), (7, 1), (8, 1), (9, 1), (10, 1)] := by kernel_rfl
theorem tk_169 : tk Tryd.prog 169 = some (true, 11) := by kernel_rfl
theorem eb_169 : eb Tryd.prog 169 = some 48 := by kernel_rfl
theorem zc_169 : zc Tryd.prog 169 = some [.int .u64 0, .int .u64 0, .int .u32 0, .int .u8 0, .int .u8 0, .int .u8 0, .int .u8 0, .nilf, .nilp, .int .i32 0, .int .i32 0] := by kernel_rfl
theorem zl_169 : zl Tryd.prog 169 = some 11 := by kernel_rfl
theorem fo_169_0 : fo Tryd.prog 169 0 = some (0, false, 1) := by kernel_rfl
theorem fo_169_1 : fo Tryd.prog 169 1 = some (1, false, 1) := by kernel_rfl
theorem fo_169_2 : fo Tryd.prog 169 2 = some (2, false, 1) := by kernel_rfl
theorem fo_169_3 : fo Tryd.prog 169 3 = some (3, false, 1) := by kernel_rfl
theorem fo_169_4 : fo Tryd.prog 169 4 = some (4, false, 1) := by kernel_rfl
theorem fo_169_5 : fo Tryd.prog 169 5 = some (5, false, 1) := by kernel_rfl
theorem fo_169_6 : fo Tryd.prog 169 6 = some (6, false, 1) := by kernel_rfl
theorem fo_169_7 : fo Tryd.prog 169 7 = some (7, false, 1) := by kernel_rfl
theorem fo_169_8 : fo Tryd.prog 169 8 = some (8, false, 1) := by kernel_rfl
theorem fo_169_9 : fo Tryd.prog 169 9 = some (9, false, 1) := by kernel_rfl
theorem fo_169_10 : fo Tryd.prog 169 10 = some (10, false, 1) := by kernel_rfl
theorem sh_169 : Program.stoodInHeld Tryd.prog 169 = true := by kernel_rfl
theorem eg_169 : Program.eqGuardType Tryd.prog (Program.depth Tryd.prog) 169 = false := by kernel_rfl
theorem pls_169 : pls Tryd.prog 169 = some [(0, 1), (1, 1), (2, 1), (3, 1), (4, 1), (5, 1), (6, 1), (7, 1), (8, 1), (9, 1), (10, 1)] := by kernel_rfl
theorem tk_170 : tk Tryd.prog 170 = some (false, 1) := by kernel_rfl
theorem eb_170 : eb Tryd.prog 170 = some 8 := by kernel_rfl
theorem zc_170 : zc Tryd.prog 170 = some [.nilp] := by kernel_rfl
theorem zl_170 : zl Tryd.prog 170 = some 1 := by kernel_rfl
theorem en_2 : enters Tryd.prog 2 = true := by kernel_rfl
theorem en_3 : enters Tryd.prog 3 = true := by kernel_rfl
theorem en_4 : enters Tryd.prog 4 = true := by kernel_rfl
theorem en_5 : enters Tryd.prog 5 = true := by kernel_rfl
theorem en_6 : enters Tryd.prog 6 = true := by kernel_rfl
theorem en_7 : enters Tryd.prog 7 = true := by kernel_rfl
theorem en_8 : enters Tryd.prog 8 = true := by kernel_rfl
theorem en_9 : enters Tryd.prog 9 = true := by kernel_rfl
theorem en_10 : enters Tryd.prog 10 = true := by kernel_rfl
theorem en_11 : enters Tryd.prog 11 = true := by kernel_rfl
theorem en_12 : enters Tryd.prog 12 = true := by kernel_rfl
theorem en_13 : enters Tryd.prog 13 = true := by kernel_rfl
theorem en_14 : enters Tryd.prog 14 = true := by kernel_rfl
theorem en_15 : enters Tryd.prog 15 = true := by kernel_rfl
theorem en_16 : enters Tryd.prog 16 = true := by kernel_rfl
theorem en_17 : enters Tryd.prog 17 = true := by kernel_rfl
theorem en_18 : enters Tryd.prog 18 = true := by kernel_rfl
theorem en_19 : enters Tryd.prog 19 = true := by kernel_rfl
theorem en_20 : enters Tryd.prog 20 = true := by kernel_rfl
theorem en_21 : enters Tryd.prog 21 = true := by kernel_rfl
theorem en_22 : enters Tryd.prog 22 = true := by kernel_rfl
theorem en_23 : enters Tryd.prog 23 = true := by kernel_rfl
theorem en_24 : enters Tryd.prog 24 = true := by kernel_rfl
theorem en_25 : enters Tryd.prog 25 = true := by kernel_rfl
theorem en_26 : enters Tryd.prog 26 = true := by kernel_rfl
theorem en_27 : enters Tryd.prog 27 = true := by kernel_rfl
theorem en_28 : enters Tryd.prog 28 = true := by kernel_rfl
theorem en_29 : enters Tryd.prog 29 = true := by kernel_rfl
theorem en_30 : enters Tryd.prog 30 = true := by kernel_rfl
theorem en_31 : enters Tryd.prog 31 = true := by kernel_rfl
theorem en_32 : enters Tryd.prog 32 = true := by kernel_rfl
theorem en_33 : enters Tryd.prog 33 = true := by kernel_rfl
theorem en_34 : enters Tryd.prog 34 = true := by kernel_rfl
theorem en_35 : enters Tryd.prog 35 = true := by kernel_rfl
theorem en_36 : enters Tryd.prog 36 = true := by kernel_rfl
theorem en_37 : enters Tryd.prog 37 = true := by kernel_rfl
theorem en_38 : enters Tryd.prog 38 = true := by kernel_rfl
theorem en_39 : enters Tryd.prog 39 = true := by kernel_rfl
theorem en_40 : enters Tryd.prog 40 = true := by kernel_rfl
theorem en_41 : enters Tryd.prog 41 = true := by kernel_rfl
theorem en_42 : enters Tryd.prog 42 = true := by kernel_rfl
theorem en_43 : enters Tryd.prog 43 = true := by kernel_rfl
theorem en_44 : enters Tryd.prog 44 = true := by kernel_rfl
theorem en_45 : enters Tryd.prog 45 = true := by kernel_rfl
theorem en_46 : enters Tryd.prog 46 = true := by kernel_rfl
theorem en_47 : enters Tryd.prog 47 = true := by kernel_rfl
theorem en_48 : enters Tryd.prog 48 = true := by kernel_rfl
theorem en_49 : enters Tryd.prog 49 = true := by kernel_rfl
theorem en_50 : enters Tryd.prog 50 = true := by kernel_rfl
theorem en_51 : enters Tryd.prog 51 = true := by kernel_rfl
theorem en_52 : enters Tryd.prog 52 = true := by kernel_rfl
theorem en_53 : enters Tryd.prog 53 = true := by kernel_rfl
theorem en_54 : enters Tryd.prog 54 = true := by kernel_rfl
theorem en_55 : enters Tryd.prog 55 = true := by kernel_rfl
theorem en_56 : enters Tryd.prog 56 = true := by kernel_rfl
theorem en_57 : enters Tryd.prog 57 = true := by kernel_rfl
theorem en_58 : enters Tryd.prog 58 = true := by kernel_rfl
theorem en_59 : enters Tryd.prog 59 = true := by kernel_rfl
theorem en_60 : enters Tryd.prog 60 = true := by kernel_rfl
theorem en_61 : enters Tryd.prog 61 = true := by kernel_rfl
theorem en_62 : enters Tryd.prog 62 = true := by kernel_rfl
theorem en_63 : enters Tryd.prog 63 = true := by kernel_rfl
theorem en_64 : enters Tryd.prog 64 = true := by kernel_rfl
theorem en_65 : enters Tryd.prog 65 = true := by kernel_rfl
theorem en_66 : enters Tryd.prog 66 = true := by kernel_rfl
theorem en_67 : enters Tryd.prog 67 = true := by kernel_rfl
theorem en_68 : enters Tryd.prog 68 = true := by kernel_rfl
theorem en_69 : enters Tryd.prog 69 = true := by kernel_rfl
theorem en_70 : enters Tryd.prog 70 = true := by kernel_rfl
theorem en_71 : enters Tryd.prog 71 = true := by kernel_rfl
theorem en_72 : enters Tryd.prog 72 = true := by kernel_rfl
theorem en_73 : enters Tryd.prog 73 = true := by kernel_rfl
theorem en_74 : enters Tryd.prog 74 = true := by kernel_rfl
theorem en_75 : enters Tryd.prog 75 = true := by kernel_rfl
theorem en_76 : enters Tryd.prog 76 = true := by kernel_rfl
theorem en_77 : enters Tryd.prog 77 = true := by kernel_rfl
theorem en_78 : enters Tryd.prog 78 = true := by kernel_rfl
theorem en_79 : enters Tryd.prog 79 = true := by kernel_rfl
theorem en_80 : enters Tryd.prog 80 = true := by kernel_rfl
theorem en_81 : enters Tryd.prog 81 = true := by kernel_rfl
theorem en_82 : enters Tryd.prog 82 = true := by kernel_rfl
theorem en_83 : enters Tryd.prog 83 = true := by kernel_rfl
theorem en_84 : enters Tryd.prog 84 = true := by kernel_rfl
theorem en_85 : enters Tryd.prog 85 = true := by kernel_rfl
theorem en_86 : enters Tryd.prog 86 = true := by kernel_rfl
theorem en_87 : enters Tryd.prog 87 = true := by kernel_rfl
theorem en_88 : enters Tryd.prog 88 = true := by kernel_rfl
theorem en_89 : enters Tryd.prog 89 = true := by kernel_rfl
theorem en_90 : enters Tryd.prog 90 = true := by kernel_rfl
theorem en_91 : enters Tryd.prog 91 = true := by kernel_rfl
theorem en_92 : enters Tryd.prog 92 = true := by kernel_rfl
theorem en_93 : enters Tryd.prog 93 = true := by kernel_rfl
theorem en_94 : enters Tryd.prog 94 = true := by kernel_rfl
theorem en_95 : enters Tryd.prog 95 = true := by kernel_rfl
theorem en_96 : enters Tryd.prog 96 = true := by kernel_rfl
theorem en_116 : enters Tryd.prog 116 = true := by kernel_rfl
theorem mixed : Tryd.prog.follows .mixedOrders = true := by kernel_rfl
attribute [go_sem] tk_0 tk_1 eb_1 zc_1 zl_1 tk_2 eb_2 zc_2 zl_2 tk_3 eb_3 zc_3 zl_3 tk_4 eb_4 zc_4 zl_4 tk_5 eb_5 zc_5 zl_5 tk_6 eb_6 zc_6 zl_6 tk_7 eb_7 zc_7 zl_7 fo_7_0 fo_7_1 fo_7_2 fo_7_3 sh_7 eg_7 pls_7 tk_8 eb_8 zc_8 zl_8
attribute [go_sem] fo_8_0 fo_8_1 fo_8_2 fo_8_3 sh_8 eg_8 pls_8 tk_9 eb_9 zc_9 zl_9 tk_10 eb_10 zc_10 zl_10 tk_11 eb_11 zc_11 zl_11 tk_12 eb_12 zc_12 zl_12 tk_13 eb_13 zc_13 zl_13 fo_13_0 fo_13_1 sh_13 eg_13 pls_13 tk_14 eb_14 zc_14 zl_14 fo_14_0 fo_14_1 sh_14 eg_14
attribute [go_sem] pls_14 tk_15 eb_15 zc_15 zl_15 tk_16 eb_16 zc_16 zl_16 tk_17 eb_17 zc_17 zl_17 tk_18 eb_18 zc_18 zl_18 fo_18_0 sh_18 eg_18 pls_18 tk_19 eb_19 zc_19 zl_19 fo_19_0 sh_19 eg_19 pls_19 tk_20 eb_20 zc_20 zl_20 tk_21 eb_21 zc_21 zl_21 tk_22 eb_22 zc_22
attribute [go_sem] zl_22 tk_23 eb_23 zc_23 zl_23 tk_24 eb_24 zc_24 zl_24 tk_25 eb_25 zc_25 zl_25 tk_26 eb_26 zc_26 zl_26 tk_27 eb_27 tk_28 eb_28 zc_28 zl_28 tk_29 eb_29 zc_29 zl_29 fo_29_0 fo_29_1 fo_29_2 fo_29_3 sh_29 eg_29 pls_29 tk_30 eb_30 zc_30 zl_30 fo_30_0 fo_30_1
attribute [go_sem] fo_30_2 fo_30_3 sh_30 eg_30 pls_30 tk_31 eb_31 zc_31 zl_31 tk_32 eb_32 zc_32 zl_32 fo_32_0 fo_32_1 fo_32_2 sh_32 eg_32 pls_32 tk_33 eb_33 zc_33 zl_33 fo_33_0 fo_33_1 fo_33_2 sh_33 eg_33 pls_33 tk_34 eb_34 zc_34 zl_34 fo_34_0 fo_34_1 fo_34_2 fo_34_3 fo_34_4 sh_34 eg_34
attribute [go_sem] pls_34 tk_35 eb_35 zc_35 zl_35 fo_35_0 fo_35_1 fo_35_2 fo_35_3 fo_35_4 sh_35 eg_35 pls_35 tk_36 eb_36 zc_36 zl_36 sh_36 eg_36 pls_36 tk_37 eb_37 zc_37 zl_37 fo_37_0 fo_37_1 fo_37_2 fo_37_3 fo_37_4 sh_37 eg_37 pls_37 tk_38 eb_38 zc_38 zl_38 fo_38_0 fo_38_1 fo_38_2 fo_38_3
attribute [go_sem] fo_38_4 sh_38 eg_38 pls_38 tk_39 eb_39 zc_39 zl_39 tk_40 eb_40 zc_40 zl_40 tk_41 eb_41 zc_41 zl_41 tk_42 eb_42 zc_42 zl_42 tk_43 eb_43 tk_44 eb_44 zc_44 zl_44 tk_45 eb_45 zc_45 zl_45 tk_46 eb_46 zc_46 zl_46 fo_46_0 fo_46_1 fo_46_2 fo_46_3 fo_46_4 fo_46_5
attribute [go_sem] fo_46_6 sh_46 eg_46 pls_46 tk_47 eb_47 zc_47 zl_47 fo_47_0 fo_47_1 fo_47_2 fo_47_3 fo_47_4 fo_47_5 fo_47_6 sh_47 eg_47 pls_47 tk_48 eb_48 zc_48 zl_48 tk_49 eb_49 zc_49 zl_49 tk_50 eb_50 zc_50 zl_50 tk_51 eb_51 zc_51 zl_51 tk_52 eb_52 zc_52 zl_52 tk_53 eb_53
attribute [go_sem] tk_54 eb_54 zc_54 zl_54 tk_55 eb_55 zc_55 zl_55 tk_56 eb_56 zc_56 zl_56 tk_57 eb_57 zc_57 zl_57 fo_57_0 fo_57_1 sh_57 eg_57 pls_57 tk_58 eb_58 zc_58 zl_58 fo_58_0 fo_58_1 sh_58 eg_58 pls_58 tk_59 eb_59 zc_59 zl_59 fo_59_0 fo_59_1 fo_59_2 fo_59_3 sh_59 eg_59
attribute [go_sem] pls_59 tk_60 eb_60 zc_60 zl_60 fo_60_0 fo_60_1 fo_60_2 fo_60_3 sh_60 eg_60 pls_60 tk_61 eb_61 zc_61 zl_61 tk_62 eb_62 zc_62 zl_62 fo_62_0 fo_62_1 sh_62 eg_62 pls_62 tk_63 eb_63 zc_63 zl_63 fo_63_0 fo_63_1 sh_63 eg_63 pls_63 tk_64 eb_64 tk_65 eb_65 zc_65 zl_65
attribute [go_sem] tk_66 eb_66 tk_67 eb_67 zc_67 zl_67 tk_68 eb_68 zc_68 zl_68 sh_68 eg_68 pls_68 tk_69 eb_69 zc_69 zl_69 tk_70 eb_70 zc_70 zl_70 tk_71 eb_71 zc_71 zl_71 tk_72 eb_72 zc_72 zl_72 tk_73 eb_73 zc_73 zl_73 tk_74 eb_74 tk_75 eb_75 zc_75 zl_75 tk_76
attribute [go_sem] eb_76 zc_76 zl_76 tk_77 eb_77 zc_77 zl_77 tk_78 eb_78 zc_78 zl_78 tk_79 eb_79 zc_79 zl_79 tk_80 eb_80 zc_80 zl_80 tk_81 eb_81 zc_81 zl_81 tk_82 eb_82 zc_82 zl_82 tk_83 eb_83 zc_83 zl_83 tk_84 eb_84 zc_84 zl_84 tk_85 eb_85 zc_85 zl_85 tk_86
attribute [go_sem] eb_86 zc_86 zl_86 tk_87 eb_87 zc_87 zl_87 tk_88 eb_88 zc_88 zl_88 tk_89 eb_89 zc_89 zl_89 tk_90 eb_90 zc_90 zl_90 tk_91 eb_91 zc_91 zl_91 tk_92 eb_92 zc_92 zl_92 tk_93 eb_93 zc_93 zl_93 tk_94 eb_94 zc_94 zl_94 tk_95 eb_95 zc_95 zl_95 tk_96
attribute [go_sem] eb_96 zc_96 zl_96 tk_97 eb_97 zc_97 zl_97 fo_97_0 fo_97_1 fo_97_2 fo_97_3 sh_97 eg_97 pls_97 tk_98 eb_98 zc_98 zl_98 fo_98_0 fo_98_1 fo_98_2 fo_98_3 sh_98 eg_98 pls_98 tk_99 eb_99 zc_99 zl_99 tk_100 eb_100 zc_100 zl_100 tk_101 eb_101 zc_101 zl_101 tk_102 eb_102 zc_102
attribute [go_sem] zl_102 tk_103 eb_103 zc_103 zl_103 tk_104 eb_104 tk_105 eb_105 zc_105 zl_105 tk_106 eb_106 zc_106 zl_106 tk_107 eb_107 zc_107 zl_107 tk_108 eb_108 zc_108 zl_108 tk_109 eb_109 zc_109 zl_109 tk_110 eb_110 zc_110 zl_110 tk_111 eb_111 zc_111 zl_111 tk_112 eb_112 zc_112 zl_112 tk_113
attribute [go_sem] eb_113 zc_113 zl_113 tk_114 eb_114 zc_114 zl_114 tk_115 eb_115 zc_115 zl_115 fo_115_0 fo_115_1 sh_115 eg_115 pls_115 tk_116 eb_116 zc_116 zl_116 fo_116_0 fo_116_1 sh_116 eg_116 pls_116 tk_117 eb_117 zc_117 zl_117 sh_117 eg_117 pls_117 tk_118 eb_118 zc_118 zl_118 fo_118_0 fo_118_1 fo_118_2 fo_118_3
attribute [go_sem] sh_118 eg_118 pls_118 tk_119 eb_119 zc_119 zl_119 fo_119_0 fo_119_1 fo_119_2 fo_119_3 sh_119 eg_119 pls_119 tk_120 eb_120 zc_120 zl_120 tk_121 eb_121 zc_121 zl_121 tk_122 eb_122 zc_122 zl_122 tk_123 eb_123 zc_123 zl_123 tk_124 eb_124 zc_124 zl_124 tk_125 eb_125 zc_125 zl_125 tk_126 eb_126
attribute [go_sem] zc_126 zl_126 tk_127 eb_127 zc_127 zl_127 tk_128 eb_128 zc_128 zl_128 tk_129 eb_129 zc_129 zl_129 tk_130 eb_130 zc_130 zl_130 tk_131 eb_131 zc_131 zl_131 tk_132 eb_132 zc_132 zl_132 tk_133 eb_133 zc_133 zl_133 tk_134 eb_134 zc_134 zl_134 tk_135 eb_135 zc_135 zl_135 tk_136 eb_136
attribute [go_sem] tk_137 eb_137 zc_137 zl_137 tk_138 eb_138 zc_138 zl_138 tk_139 eb_139 zc_139 zl_139 tk_140 eb_140 zc_140 zl_140 tk_141 eb_141 zc_141 zl_141 tk_142 eb_142 zc_142 zl_142 tk_143 eb_143 zc_143 zl_143 tk_144 eb_144 zc_144 zl_144 tk_145 eb_145 zc_145 zl_145 tk_146 eb_146 zc_146 zl_146
attribute [go_sem] tk_147 eb_147 zc_147 zl_147 tk_148 eb_148 zc_148 zl_148 tk_149 eb_149 zc_149 zl_149 tk_150 eb_150 zc_150 zl_150 tk_151 eb_151 zc_151 zl_151 sh_151 eg_151 pls_151 tk_152 eb_152 zc_152 zl_152 tk_153 eb_153 zc_153 zl_153 tk_154 eb_154 zc_154 zl_154 tk_155 eb_155 zc_155 zl_155 tk_156
attribute [go_sem] eb_156 zc_156 zl_156 fo_156_0 fo_156_1 fo_156_2 fo_156_3 sh_156 eg_156 pls_156 tk_157 eb_157 zc_157 zl_157 fo_157_0 fo_157_1 fo_157_2 fo_157_3 sh_157 eg_157 pls_157 tk_158 eb_158 zc_158 zl_158 sh_158 eg_158 pls_158 tk_159 eb_159 zc_159 zl_159 fo_159_0 sh_159 eg_159 pls_159 tk_160 eb_160 zc_160 zl_160
attribute [go_sem] fo_160_0 sh_160 eg_160 pls_160 tk_161 eb_161 zc_161 zl_161 tk_162 eb_162 zc_162 zl_162 tk_163 eb_163 zc_163 zl_163 tk_164 eb_164 zc_164 zl_164 tk_165 eb_165 zc_165 zl_165 tk_166 eb_166 zc_166 zl_166 tk_167 eb_167 zc_167 zl_167 tk_168 eb_168 zc_168 zl_168 fo_168_0 fo_168_1 fo_168_2 fo_168_3
attribute [go_sem] fo_168_4 fo_168_5 fo_168_6 fo_168_7 fo_168_8 fo_168_9 fo_168_10 sh_168 eg_168 pls_168 tk_169 eb_169 zc_169 zl_169 fo_169_0 fo_169_1 fo_169_2 fo_169_3 fo_169_4 fo_169_5 fo_169_6 fo_169_7 fo_169_8 fo_169_9 fo_169_10 sh_169 eg_169 pls_169 tk_170 eb_170 zc_170 zl_170
attribute [go_sem] Tryd.underlying0 Tryd.underlying1 Tryd.underlying2 Tryd.underlying3 Tryd.underlying4 Tryd.underlying5 Tryd.underlying6 Tryd.underlying7 Tryd.underlying8 Tryd.underlying9 Tryd.underlying10 Tryd.underlying11 Tryd.underlying12 Tryd.underlying13 Tryd.underlying14 Tryd.underlying15 Tryd.underlying16 Tryd.underlying17 Tryd.underlying18 Tryd.underlying19 Tryd.underlying20 Tryd.underlying21 Tryd.underlying22 Tryd.underlying23 Tryd.underlying24 Tryd.underlying25 Tryd.underlying26 Tryd.underlying27 Tryd.underlying28 Tryd.underlying29 Tryd.underlying30 Tryd.underlying31 Tryd.underlying32 Tryd.underlying33 Tryd.underlying34 Tryd.underlying35 Tryd.underlying36 Tryd.underlying37 Tryd.underlying38 Tryd.underlying39
attribute [go_sem] Tryd.underlying40 Tryd.underlying41 Tryd.underlying42 Tryd.underlying43 Tryd.underlying44 Tryd.underlying45 Tryd.underlying46 Tryd.underlying47 Tryd.underlying48 Tryd.underlying49 Tryd.underlying50 Tryd.underlying51 Tryd.underlying52 Tryd.underlying53 Tryd.underlying54 Tryd.underlying55 Tryd.underlying56 Tryd.underlying57 Tryd.underlying58 Tryd.underlying59 Tryd.underlying60 Tryd.underlying61 Tryd.underlying62 Tryd.underlying63 Tryd.underlying64 Tryd.underlying65 Tryd.underlying66 Tryd.underlying67 Tryd.underlying68 Tryd.underlying69 Tryd.underlying70 Tryd.underlying71 Tryd.underlying72 Tryd.underlying73 Tryd.underlying74 Tryd.underlying75 Tryd.underlying76 Tryd.underlying77 Tryd.underlying78 Tryd.underlying79
attribute [go_sem] Tryd.underlying80 Tryd.underlying81 Tryd.underlying82 Tryd.underlying83 Tryd.underlying84 Tryd.underlying85 Tryd.underlying86 Tryd.underlying87 Tryd.underlying88 Tryd.underlying89 Tryd.underlying90 Tryd.underlying91 Tryd.underlying92 Tryd.underlying93 Tryd.underlying94 Tryd.underlying95 Tryd.underlying96 Tryd.underlying97 Tryd.underlying98 Tryd.underlying99 Tryd.underlying100 Tryd.underlying101 Tryd.underlying102 Tryd.underlying103 Tryd.underlying104 Tryd.underlying105 Tryd.underlying106 Tryd.underlying107 Tryd.underlying108 Tryd.underlying109 Tryd.underlying110 Tryd.underlying111 Tryd.underlying112 Tryd.underlying113 Tryd.underlying114 Tryd.underlying115 Tryd.underlying116 Tryd.underlying117 Tryd.underlying118 Tryd.underlying119
attribute [go_sem] Tryd.underlying120 Tryd.underlying121 Tryd.underlying122 Tryd.underlying123 Tryd.underlying124 Tryd.underlying125 Tryd.underlying126 Tryd.underlying127 Tryd.underlying128 Tryd.underlying129 Tryd.underlying130 Tryd.underlying131 Tryd.underlying132 Tryd.underlying133 Tryd.underlying134 Tryd.underlying135 Tryd.underlying136 Tryd.underlying137 Tryd.underlying138 Tryd.underlying139 Tryd.underlying140 Tryd.underlying141 Tryd.underlying142 Tryd.underlying143 Tryd.underlying144 Tryd.underlying145 Tryd.underlying146 Tryd.underlying147 Tryd.underlying148 Tryd.underlying149 Tryd.underlying150 Tryd.underlying151 Tryd.underlying152 Tryd.underlying153 Tryd.underlying154 Tryd.underlying155 Tryd.underlying156 Tryd.underlying157 Tryd.underlying158 Tryd.underlying159
attribute [go_sem] Tryd.underlying160 Tryd.underlying161 Tryd.underlying162 Tryd.underlying163 Tryd.underlying164 Tryd.underlying165 Tryd.underlying166 Tryd.underlying167 Tryd.underlying168 Tryd.underlying169 Tryd.underlying170
theorem zv_61 : zv Tryd.prog 61 = some ((.nilp)) := by kernel_rfl
theorem zv_63 : zv Tryd.prog 63 = some (.agg [.int .i64 0, .int .i64 0, .int .i64 0, .int .i64 0, .int .i64 0]) := by kernel_rfl
attribute [go_sem] zv_61 zv_63
end Go.Proofs.YtdckcophbmnjjaaDoor
