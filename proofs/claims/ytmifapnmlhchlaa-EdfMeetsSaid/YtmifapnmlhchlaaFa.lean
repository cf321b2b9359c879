/- Closed facts about the program's types and functions. -/
import Derived.Test.YtmifapnmlhchlaaLg5
import Derived.Test.YtmifapnmlhchlaaProg
set_option linter.all false
namespace Go.Proofs.Ytmifapnmlhchlaa
open Go Go.Proofs.Ytmifapnmlhchlaa.Ab
open Go.Proofs (Try.prog)
theorem tk_0 : tk Try.prog 0 = some (false, 1) := by kernel_rfl
theorem tk_1 : tk Try.prog 1 = some (false, 1) := by kernel_rfl
theorem eb_1 : eb Try.prog 1 = some 8 := by kernel_rfl
theorem zc_1 : zc Try.prog 1 = some [.nilf] := by kernel_rfl
theorem zl_1 : zl Try.prog 1 = some 1 := by kernel_rfl
theorem tk_2 : tk Try.prog 2 = some (false, 1) := by kernel_rfl
theorem eb_2 : eb Try.prog 2 = some 8 := by kernel_rfl
theorem zc_2 : zc Try.prog 2 = some [.int .i64 0] := by kernel_rfl
theorem zl_2 : zl Try.prog 2 = some 1 := by kernel_rfl
theorem tk_3 : tk Try.prog 3 = some (false, 1) := by kernel_rfl
theorem eb_3 : eb Try.prog 3 = some 8 := by kernel_rfl
theorem zc_3 : zc Try.prog 3 = some [.int .i64 0] := by kernel_rfl
theorem zl_3 : zl Try.prog 3 = some 1 := by kernel_rfl
theorem tk_4 : tk Try.prog 4 = some (false, 1) := by kernel_rfl
theorem eb_4 : eb Try.prog 4 = some 1 := by kernel_rfl
theorem zc_4 : zc Try.prog 4 = some [.bool false] := by kernel_rfl
theorem zl_4 : zl Try.prog 4 = some 1 := by kernel_rfl
theorem tk_5 : tk Try.prog 5 = some (false, 1) := by kernel_rfl
theorem eb_5 : eb Try.prog 5 = some 1 := by kernel_rfl
theorem zc_5 : zc Try.prog 5 = some [.int .u8 0] := by kernel_rfl
theorem zl_5 : zl Try.prog 5 = some 1 := by kernel_rfl
theorem tk_6 : tk Try.prog 6 = some (false, 1) := by kernel_rfl
theorem eb_6 : eb Try.prog 6 = some 1 := by kernel_rfl
theorem zc_6 : zc Try.prog 6 = some [.int .u8 0] := by kernel_rfl
theorem zl_6 : zl Try.prog 6 = some 1 := by kernel_rfl
theorem tk_7 : tk Try.prog 7 = some (true, 4) := by kernel_rfl
theorem eb_7 : eb Try.prog 7 = some 24 := by kernel_rfl
theorem zc_7 : zc Try.prog 7 = some [.int .i64 0, .int .i64 0, .bool false, .int .u8 0] := by kernel_rfl
theorem zl_7 : zl Try.prog 7 = some 4 := by kernel_rfl
theorem fo_7_0 : fo Try.prog 7 0 = some (0, false, 1) := by kernel_rfl
theorem fo_7_1 : fo Try.prog 7 1 = some (1, false, 1) := by kernel_rfl
theorem fo_7_2 : fo Try.prog 7 2 = some (2, false, 1) := by kernel_rfl
theorem fo_7_3 : fo Try.prog 7 3 = some (3, false, 1) := by kernel_rfl
theorem sh_7 : Program.stoodInHeld Try.prog 7 = false := by kernel_rfl
theorem eg_7 : Program.eqGuardType Try.prog (Program.depth Try.prog) 7 = false := by kernel_rfl
theorem pls_7 : pls Try.prog 7 = some [(0, 1), (1, 1), (2, 1), (3, 1)] := by kernel_rfl
theorem tk_8 : tk Try.prog 8 = some (true, 4) := by kernel_rfl
theorem eb_8 : eb Try.prog 8 = some 24 := by kernel_rfl
theorem zc_8 : zc Try.prog 8 = some [.int .i64 0, .int .i64 0, .bool false, .int .u8 0] := by kernel_rfl
theorem zl_8 : zl Try.prog 8 = some 4 := by kernel_rfl
theorem fo_8_0 : fo Try.prog 8 0 = some (0, false, 1) := by kernel_rfl
theorem fo_8_1 : fo Try.prog 8 1 = some (1, false, 1) := by kernel_rfl
theorem fo_8_2 : fo Try.prog 8 2 = some (2, false, 1) := by kernel_rfl
theorem fo_8_3 : fo Try.prog 8 3 = some (3, false, 1) := by kernel_rfl
theorem sh_8 : Program.stoodInHeld Try.prog 8 = false := by kernel_rfl
theorem eg_8 : Program.eqGuardType Try.prog (Program.depth Try.prog) 8 = false := by kernel_rfl
theorem pls_8 : pls Try.prog 8 = some [(0, 1), (1, 1), (2, 1), (3, 1)] := by kernel_rfl
theorem tk_9 : tk Try.prog 9 = some (false, 1) := by kernel_rfl
theorem eb_9 : eb Try.prog 9 = some 16 := by kernel_rfl
theorem zc_9 : zc Try.prog 9 = some [.str ByteArray.empty] := by kernel_rfl
theorem zl_9 : zl Try.prog 9 = some 1 := by kernel_rfl
theorem tk_10 : tk Try.prog 10 = some (false, 1) := by kernel_rfl
theorem eb_10 : eb Try.prog 10 = some 16 := by kernel_rfl
theorem zc_10 : zc Try.prog 10 = some [.str ByteArray.empty] := by kernel_rfl
theorem zl_10 : zl Try.prog 10 = some 1 := by kernel_rfl
theorem tk_11 : tk Try.prog 11 = some (false, 1) := by kernel_rfl
theorem eb_11 : eb Try.prog 11 = some 16 := by kernel_rfl
theorem zc_11 : zc Try.prog 11 = some [.str ByteArray.empty] := by kernel_rfl
theorem zl_11 : zl Try.prog 11 = some 1 := by kernel_rfl
theorem tk_12 : tk Try.prog 12 = some (false, 1) := by kernel_rfl
theorem eb_12 : eb Try.prog 12 = some 8 := by kernel_rfl
theorem zc_12 : zc Try.prog 12 = some [.int .u64 0] := by kernel_rfl
theorem zl_12 : zl Try.prog 12 = some 1 := by kernel_rfl
theorem tk_13 : tk Try.prog 13 = some (true, 2) := by kernel_rfl
theorem eb_13 : eb Try.prog 13 = some 24 := by kernel_rfl
theorem zc_13 : zc Try.prog 13 = some [.str ByteArray.empty, .int .u64 0] := by kernel_rfl
theorem zl_13 : zl Try.prog 13 = some 2 := by kernel_rfl
theorem fo_13_0 : fo Try.prog 13 0 = some (0, false, 1) := by kernel_rfl
theorem fo_13_1 : fo Try.prog 13 1 = some (1, false, 1) := by kernel_rfl
theorem sh_13 : Program.stoodInHeld Try.prog 13 = true := by kernel_rfl
theorem eg_13 : Program.eqGuardType Try.prog (Program.depth Try.prog) 13 = false := by kernel_rfl
theorem pls_13 : pls Try.prog 13 = some [(0, 1), (1, 1)] := by kernel_rfl
theorem tk_14 : tk Try.prog 14 = some (true, 2) := by kernel_rfl
theorem eb_14 : eb Try.prog 14 = some 24 := by kernel_rfl
theorem zc_14 : zc Try.prog 14 = some [.str ByteArray.empty, .int .u64 0] := by kernel_rfl
theorem zl_14 : zl Try.prog 14 = some 2 := by kernel_rfl
theorem fo_14_0 : fo Try.prog 14 0 = some (0, false, 1) := by kernel_rfl
theorem fo_14_1 : fo Try.prog 14 1 = some (1, false, 1) := by kernel_rfl
theorem sh_14 : Program.stoodInHeld Try.prog 14 = true := by kernel_rfl
theorem eg_14 : Program.eqGuardType Try.prog (Program.depth Try.prog) 14 = false := by kernel_rfl
theorem pls_14 : pls Try.prog 14 = some [(0, 1), (1, 1)] := by kernel_rfl
theorem tk_15 : tk Try.prog 15 = some (false, 1) := by kernel_rfl
theorem eb_15 : eb Try.prog 15 = some 8 := by kernel_rfl
theorem zc_15 : zc Try.prog 15 = some [.nilp] := by kernel_rfl
theorem zl_15 : zl Try.prog 15 = some 1 := by kernel_rfl
theorem tk_16 : tk Try.prog 16 = some (false, 1) := by kernel_rfl
theorem eb_16 : eb Try.prog 16 = some 8 := by kernel_rfl
theorem zc_16 : zc Try.prog 16 = some [.nilp] := by kernel_rfl
theorem zl_16 : zl Try.prog 16 = some 1 := by kernel_rfl
theorem tk_17 : tk Try.prog 17 = some (false, 1) := by kernel_rfl
theorem eb_17 : eb Try.prog 17 = some 8 := by kernel_rfl
theorem zc_17 : zc Try.prog 17 = some [.nilp] := by kernel_rfl
theorem zl_17 : zl Try.prog 17 = some 1 := by kernel_rfl
theorem tk_18 : tk Try.prog 18 = some (true, 1) := by kernel_rfl
theorem eb_18 : eb Try.prog 18 = some 8 := by kernel_rfl
theorem zc_18 : zc Try.prog 18 = some [.nilp] := by kernel_rfl
theorem zl_18 : zl Try.prog 18 = some 1 := by kernel_rfl
theorem fo_18_0 : fo Try.prog 18 0 = some (0, false, 1) := by kernel_rfl
theorem sh_18 : Program.stoodInHeld Try.prog 18 = true := by kernel_rfl
theorem eg_18 : Program.eqGuardType Try.prog (Program.depth Try.prog) 18 = false := by kernel_rfl
theorem pls_18 : pls Try.prog 18 = some [(0, 1)] := by kernel_rfl
theorem tk_19 : tk Try.prog 19 = some (true, 1) := by kernel_rfl
theorem eb_19 : eb Try.prog 19 = some 8 := by kernel_rfl
theorem zc_19 : zc Try.prog 19 = some [.nilp] := by kernel_rfl
theorem zl_19 : zl Try.prog 19 = some 1 := by kernel_rfl
theorem fo_19_0 : fo Try.prog 19 0 = some (0, false, 1) := by kernel_rfl
theorem sh_19 : Program.stoodInHeld Try.prog 19 = true := by kernel_rfl
theorem eg_19 : Program.eqGuardType Try.prog (Program.depth Try.prog) 19 = false := by kernel_rfl
theorem pls_19 : pls Try.prog 19 = some [(0, 1)] := by kernel_rfl
theorem tk_20 : tk Try.prog 20 = some (false, 1) := by kernel_rfl
theorem eb_20 : eb Try.prog 20 = some 16 := by kernel_rfl
theorem zc_20 : zc Try.prog 20 = some [.nili] := by kernel_rfl
theorem zl_20 : zl Try.prog 20 = some 1 := by kernel_rfl
theorem tk_21 : tk Try.prog 21 = some (false, 1) := by kernel_rfl
theorem eb_21 : eb Try.prog 21 = some 4 := by kernel_rfl
theorem zc_21 : zc Try.prog 21 = some [.int .i32 0] := by kernel_rfl
theorem zl_21 : zl Try.prog 21 = some 1 := by kernel_rfl
theorem tk_22 : tk Try.prog 22 = some (false, 1) := by kernel_rfl
theorem eb_22 : eb Try.prog 22 = some 24 := by kernel_rfl
theorem zc_22 : zc Try.prog 22 = some [.nils] := by kernel_rfl
theorem zl_22 : zl Try.prog 22 = some 1 := by kernel_rfl
theorem tk_23 : tk Try.prog 23 = some (false, 1) := by kernel_rfl
theorem eb_23 : eb Try.prog 23 = some 8 := by kernel_rfl
theorem zc_23 : zc Try.prog 23 = some [.nilf] := by kernel_rfl
theorem zl_23 : zl Try.prog 23 = some 1 := by kernel_rfl
theorem tk_24 : tk Try.prog 24 = some (false, 1) := by kernel_rfl
theorem eb_24 : eb Try.prog 24 = some 24 := by kernel_rfl
theorem zc_24 : zc Try.prog 24 = some [.nils] := by kernel_rfl
theorem zl_24 : zl Try.prog 24 = some 1 := by kernel_rfl
theorem tk_25 : tk Try.prog 25 = some (false, 1) := by kernel_rfl
theorem eb_25 : eb Try.prog 25 = some 8 := by kernel_rfl
theorem zc_25 : zc Try.prog 25 = some [.int .i64 0] := by kernel_rfl
theorem zl_25 : zl Try.prog 25 = some 1 := by kernel_rfl
theorem tk_26 : tk Try.prog 26 = some (false, 1) := by kernel_rfl
theorem eb_26 : eb Try.prog 26 = some 0 := by kernel_rfl
theorem tk_27 : tk Try.prog 27 = some (false, 1) := by kernel_rfl
theorem eb_27 : eb Try.prog 27 = some 8 := by kernel_rfl
theorem zc_27 : zc Try.prog 27 = some [.nilf] := by kernel_rfl
theorem zl_27 : zl Try.prog 27 = some 1 := by kernel_rfl
theorem tk_28 : tk Try.prog 28 = some (false, 1) := by kernel_rfl
theorem eb_28 : eb Try.prog 28 = some 24 := by kernel_rfl
theorem zc_28 : zc Try.prog 28 = some [.nils] := by kernel_rfl
theorem zl_28 : zl Try.prog 28 = some 1 := by kernel_rfl
theorem tk_29 : tk Try.prog 29 = some (false, 1) := by kernel_rfl
theorem eb_29 : eb Try.prog 29 = some 0 := by kernel_rfl
theorem tk_30 : tk Try.prog 30 = some (false, 1) := by kernel_rfl
theorem eb_30 : eb Try.prog 30 = some 8 := by kernel_rfl
theorem zc_30 : zc Try.prog 30 = some [.nilf] := by kernel_rfl
theorem zl_30 : zl Try.prog 30 = some 1 := by kernel_rfl
theorem tk_31 : tk Try.prog 31 = some (false, 1) := by kernel_rfl
theorem eb_31 : eb Try.prog 31 = some 24 := by kernel_rfl
theorem zc_31 : zc Try.prog 31 = some [.nils] := by kernel_rfl
theorem zl_31 : zl Try.prog 31 = some 1 := by kernel_rfl
theorem tk_32 : tk Try.prog 32 = some (false, 1) := by kernel_rfl
theorem eb_32 : eb Try.prog 32 = some 0 := by kernel_rfl
theorem tk_33 : tk Try.prog 33 = some (false, 1) := by kernel_rfl
theorem eb_33 : eb Try.prog 33 = some 8 := by kernel_rfl
theorem zc_33 : zc Try.prog 33 = some [.nilf] := by kernel_rfl
theorem zl_33 : zl Try.prog 33 = some 1 := by kernel_rfl
theorem tk_34 : tk Try.prog 34 = some (false, 1) := by kernel_rfl
theorem eb_34 : eb Try.prog 34 = some 0 := by kernel_rfl
theorem tk_35 : tk Try.prog 35 = some (false, 1) := by kernel_rfl
theorem eb_35 : eb Try.prog 35 = some 8 := by kernel_rfl
theorem zc_35 : zc Try.prog 35 = some [.nilf] := by kernel_rfl
theorem zl_35 : zl Try.prog 35 = some 1 := by kernel_rfl
theorem tk_36 : tk Try.prog 36 = some (false, 1) := by kernel_rfl
theorem eb_36 : eb Try.prog 36 = some 8 := by kernel_rfl
theorem zc_36 : zc Try.prog 36 = some [.nilf] := by kernel_rfl
theorem zl_36 : zl Try.prog 36 = some 1 := by kernel_rfl
theorem tk_37 : tk Try.prog 37 = some (true, 3) := by kernel_rfl
theorem eb_37 : eb Try.prog 37 = some 24 := by kernel_rfl
theorem zc_37 : zc Try.prog 37 = some [.int .i64 0, .int .i64 0, .int .i64 0] := by kernel_rfl
theorem zl_37 : zl Try.prog 37 = some 3 := by kernel_rfl
theorem fo_37_0 : fo Try.prog 37 0 = some (0, false, 1) := by kernel_rfl
theorem fo_37_1 : fo Try.prog 37 1 = some (1, false, 1) := by kernel_rfl
theorem fo_37_2 : fo Try.prog 37 2 = some (2, false, 1) := by kernel_rfl
theorem sh_37 : Program.stoodInHeld Try.prog 37 = false := by kernel_rfl
theorem eg_37 : Program.eqGuardType Try.prog (Program.depth Try.prog) 37 = false := by kernel_rfl
theorem pls_37 : pls Try.prog 37 = some [(0, 1), (1, 1), (2, 1)] := by kernel_rfl
theorem tk_38 : tk Try.prog 38 = some (true, 3) := by kernel_rfl
theorem eb_38 : eb Try.prog 38 = some 24 := by kernel_rfl
theorem zc_38 : zc Try.prog 38 = some [.int .i64 0, .int .i64 0, .int .i64 0] := by kernel_rfl
theorem zl_38 : zl Try.prog 38 = some 3 := by kernel_rfl
theorem fo_38_0 : fo Try.prog 38 0 = some (0, false, 1) := by kernel_rfl
theorem fo_38_1 : fo Try.prog 38 1 = some (1, false, 1) := by kernel_rfl
theorem fo_38_2 : fo Try.prog 38 2 = some (2, false, 1) := by kernel_rfl
theorem sh_38 : Program.stoodInHeld Try.prog 38 = false := by kernel_rfl
theorem eg_38 : Program.eqGuardType Try.prog (Program.depth Try.prog) 38 = false := by kernel_rfl
theorem pls_38 : pls Try.prog 38 = some [(0, 1), (1, 1), (2, 1)] := by kernel_rfl
theorem tk_39 : tk Try.prog 39 = some (true, 3) := by kernel_rfl
theorem eb_39 : eb Try.prog 39 = some 24 := by kernel_rfl
theorem zc_39 : zc Try.prog 39 = some [.int .i64 0, .int .i64 0, .int .i64 0] := by kernel_rfl
theorem zl_39 : zl Try.prog 39 = some 3 := by kernel_rfl
theorem fo_39_0 : fo Try.prog 39 0 = some (0, false, 1) := by kernel_rfl
theorem fo_39_1 : fo Try.prog 39 1 = some (1, false, 1) := by kernel_rfl
theorem fo_39_2 : fo Try.prog 39 2 = some (2, false, 1) := by kernel_rfl
theorem sh_39 : Program.stoodInHeld Try.prog 39 = false := by kernel_rfl
theorem eg_39 : Program.eqGuardType Try.prog (Program.depth Try.prog) 39 = false := by kernel_rfl
theorem pls_39 : pls Try.prog 39 = some [(0, 1), (1, 1), (2, 1)] := by kernel_rfl
theorem tk_40 : tk Try.prog 40 = some (false, 1) := by kernel_rfl
theorem eb_40 : eb Try.prog 40 = some 8 := by kernel_rfl
theorem zc_40 : zc Try.prog 40 = some [.nilf] := by kernel_rfl
theorem zl_40 : zl Try.prog 40 = some 1 := by kernel_rfl
theorem tk_41 : tk Try.prog 41 = some (true, 4) := by kernel_rfl
theorem eb_41 : eb Try.prog 41 = some 32 := by kernel_rfl
theorem zc_41 : zc Try.prog 41 = some [.int .i64 0, .int .i64 0, .int .i64 0, .int .i64 0] := by kernel_rfl
theorem zl_41 : zl Try.prog 41 = some 4 := by kernel_rfl
theorem fo_41_0 : fo Try.prog 41 0 = some (0, false, 1) := by kernel_rfl
theorem fo_41_1 : fo Try.prog 41 1 = some (1, false, 1) := by kernel_rfl
theorem fo_41_2 : fo Try.prog 41 2 = some (2, false, 1) := by kernel_rfl
theorem fo_41_3 : fo Try.prog 41 3 = some (3, false, 1) := by kernel_rfl
theorem sh_41 : Program.stoodInHeld Try.prog 41 = false := by kernel_rfl
theorem eg_41 : Program.eqGuardType Try.prog (Program.depth Try.prog) 41 = false := by kernel_rfl
theorem pls_41 : pls Try.prog 41 = some [(0, 1), (1, 1), (2, 1), (3, 1)] := by kernel_rfl
theorem tk_42 : tk Try.prog 42 = some (true, 4) := by kernel_rfl
theorem eb_42 : eb Try.prog 42 = some 32 := by kernel_rfl
theorem zc_42 : zc Try.prog 42 = some [.int .i64 0, .int .i64 0, .int .i64 0, .int .i64 0] := by kernel_rfl
theorem zl_42 : zl Try.prog 42 = some 4 := by kernel_rfl
theorem fo_42_0 : fo Try.prog 42 0 = some (0, false, 1) := by kernel_rfl
theorem fo_42_1 : fo Try.prog 42 1 = some (1, false, 1) := by kernel_rfl
theorem fo_42_2 : fo Try.prog 42 2 = some (2, false, 1) := by kernel_rfl
theorem fo_42_3 : fo Try.prog 42 3 = some (3, false, 1) := by kernel_rfl
theorem sh_42 : Program.stoodInHeld Try.prog 42 = false := by kernel_rfl
theorem eg_42 : Program.eqGuardType Try.prog (Program.depth Try.prog) 42 = false := by kernel_rfl
theorem pls_42 : pls Try.prog 42 = some [(0, 1), (1, 1), (2, 1), (3, 1)] := by kernel_rfl
theorem tk_43 : tk Try.prog 43 = some (false, 1) := by kernel_rfl
theorem eb_43 : eb Try.prog 43 = some 8 := by kernel_rfl
theorem zc_43 : zc Try.prog 43 = some [.nilf] := by kernel_rfl
theorem zl_43 : zl Try.prog 43 = some 1 := by kernel_rfl
theorem tk_44 : tk Try.prog 44 = some (false, 1) := by kernel_rfl
theorem eb_44 : eb Try.prog 44 = some 8 := by kernel_rfl
theorem zc_44 : zc Try.prog 44 = some [.nilf] := by kernel_rfl
theorem zl_44 : zl Try.prog 44 = some 1 := by kernel_rfl
theorem tk_45 : tk Try.prog 45 = some (false, 1) := by kernel_rfl
theorem eb_45 : eb Try.prog 45 = some 2 := by kernel_rfl
theorem zc_45 : zc Try.prog 45 = some [.int .u16 0] := by kernel_rfl
theorem zl_45 : zl Try.prog 45 = some 1 := by kernel_rfl
theorem tk_46 : tk Try.prog 46 = some (false, 1) := by kernel_rfl
theorem eb_46 : eb Try.prog 46 = some 8 := by kernel_rfl
theorem zc_46 : zc Try.prog 46 = some [.nilf] := by kernel_rfl
theorem zl_46 : zl Try.prog 46 = some 1 := by kernel_rfl
theorem tk_47 : tk Try.prog 47 = some (false, 1) := by kernel_rfl
theorem eb_47 : eb Try.prog 47 = some 24 := by kernel_rfl
theorem zc_47 : zc Try.prog 47 = some [.nils] := by kernel_rfl
theorem zl_47 : zl Try.prog 47 = some 1 := by kernel_rfl
theorem tk_48 : tk Try.prog 48 = some (false, 1) := by kernel_rfl
theorem eb_48 : eb Try.prog 48 = some 8 := by kernel_rfl
theorem zc_48 : zc Try.prog 48 = some [.nilf] := by kernel_rfl
theorem zl_48 : zl Try.prog 48 = some 1 := by kernel_rfl
theorem tk_49 : tk Try.prog 49 = some (false, 1) := by kernel_rfl
theorem eb_49 : eb Try.prog 49 = some 24 := by kernel_rfl
theorem zc_49 : zc Try.prog 49 = some [.nils] := by kernel_rfl
theorem zl_49 : zl Try.prog 49 = some 1 := by kernel_rfl
theorem tk_50 : tk Try.prog 50 = some (false, 1) := by kernel_rfl
theorem eb_50 : eb Try.prog 50 = some 24 := by kernel_rfl
theorem zc_50 : zc Try.prog 50 = some [.nils] := by kernel_rfl
theorem zl_50 : zl Try.prog 50 = some 1 := by kernel_rfl
theorem tk_51 : tk Try.prog 51 = some (false, 1) := by kernel_rfl
theorem eb_51 : eb Try.prog 51 = some 8 := by kernel_rfl
theorem zc_51 : zc Try.prog 51 = some [.nilf] := by kernel_rfl
theorem zl_51 : zl Try.prog 51 = some 1 := by kernel_rfl
theorem tk_52 : tk Try.prog 52 = some (false, 1) := by kernel_rfl
theorem eb_52 : eb Try.prog 52 = some 8 := by kernel_rfl
theorem zc_52 : zc Try.prog 52 = some [.int .i64 0] := by kernel_rfl
theorem zl_52 : zl Try.prog 52 = some 1 := by kernel_rfl
theorem tk_53 : tk Try.prog 53 = some (true, 7) := by kernel_rfl
theorem eb_53 : eb Try.prog 53 = some 56 := by kernel_rfl
theorem zc_53 : zc Try.prog 53 = some [.int .i64 0, .int .i64 0, .int .i64 0, .int .i64 0, .int .i64 0, .int .i64 0, .int .i64 0] := by kernel_rfl
theorem zl_53 : zl Try.prog 53 = some 7 := by kernel_rfl
theorem fo_53_0 : fo Try.prog 53 0 = some (0, false, 1) := by kernel_rfl
theorem fo_53_1 : fo Try.prog 53 1 = some (1, false, 1) := by kernel_rfl
theorem fo_53_2 : fo Try.prog 53 2 = some (2, false, 1) := by kernel_rfl
theorem fo_53_3 : fo Try.prog 53 3 = some (3, false, 1) := by kernel_rfl
theorem fo_53_4 : fo Try.prog 53 4 = some (4, false, 1) := by kernel_rfl
theorem fo_53_5 : fo Try.prog 53 5 = some (5, false, 1) := by kernel_rfl
theorem fo_53_6 : fo Try.prog 53 6 = some (6, false, 1) := by kernel_rfl
theorem sh_53 : Program.stoodInHeld Try.prog 53 = false := by kernel_rfl
theorem eg_53 : Program.eqGuardType Try.prog (Program.depth Try.prog) 53 = false := by kernel_rfl
theorem pls_53 : pls Try.prog 53 = some [(0, 1), (1, 1), (2, 1), (3, 1), (4, 1), (5, 1), (6, 1)] := by kernel_rfl
theorem tk_54 : tk Try.prog 54 = some (true, 7) := by kernel_rfl
theorem eb_54 : eb Try.prog 54 = some 56 := by kernel_rfl
theorem zc_54 : zc Try.prog 54 = some [.int .i64 0, .int .i64 0, .int .i64 0, .int .i64 0, .int .i64 0, .int .i64 0, .int .i64 0] := by kernel_rfl
theorem zl_54 : zl Try.prog 54 = some 7 := by kernel_rfl
theorem fo_54_0 : fo Try.prog 54 0 = some (0, false, 1) := by kernel_rfl
theorem fo_54_1 : fo Try.prog 54 1 = some (1, false, 1) := by kernel_rfl
theorem fo_54_2 : fo Try.prog 54 2 = some (2, false, 1) := by kernel_rfl
theorem fo_54_3 : fo Try.prog 54 3 = some (3, false, 1) := by kernel_rfl
theorem fo_54_4 : fo Try.prog 54 4 = some (4, false, 1) := by kernel_rfl
theorem fo_54_5 : fo Try.prog 54 5 = some (5, false, 1) := by kernel_rfl
theorem fo_54_6 : fo Try.prog 54 6 = some (6, false, 1) := by kernel_rfl
theorem sh_54 : Program.stoodInHeld Try.prog 54 = false := by kernel_rfl
theorem eg_54 : Program.eqGuardType Try.prog (Program.depth Try.prog) 54 = false := by kernel_rfl
theorem pls_54 : pls Try.prog 54 = some [(0, 1), (1, 1), (2, 1), (3, 1), (4, 1), (5, 1), (6, 1)] := by kernel_rfl
theorem tk_55 : tk Try.prog 55 = some (false, 1) := by kernel_rfl
theorem eb_55 : eb Try.prog 55 = some 0 := by kernel_rfl
theorem tk_56 : tk Try.prog 56 = some (false, 1) := by kernel_rfl
theorem eb_56 : eb Try.prog 56 = some 8 := by kernel_rfl
theorem zc_56 : zc Try.prog 56 = some [.nilf] := by kernel_rfl
theorem zl_56 : zl Try.prog 56 = some 1 := by kernel_rfl
theorem tk_57 : tk Try.prog 57 = some (false, 1) := by kernel_rfl
theorem eb_57 : eb Try.prog 57 = some 8 := by kernel_rfl
theorem zc_57 : zc Try.prog 57 = some [.nilf] := by kernel_rfl
theorem zl_57 : zl Try.prog 57 = some 1 := by kernel_rfl
theorem tk_58 : tk Try.prog 58 = some (false, 1) := by kernel_rfl
theorem eb_58 : eb Try.prog 58 = some 8 := by kernel_rfl
theorem zc_58 : zc Try.prog 58 = some [.nilf] := by kernel_rfl
theorem zl_58 : zl Try.prog 58 = some 1 := by kernel_rfl
theorem tk_59 : tk Try.prog 59 = some (false, 1) := by kernel_rfl
theorem eb_59 : eb Try.prog 59 = some 8 := by kernel_rfl
theorem zc_59 : zc Try.prog 59 = some [.nilf] := by kernel_rfl
theorem zl_59 : zl Try.prog 59 = some 1 := by kernel_rfl
theorem tk_60 : tk Try.prog 60 = some (false, 1) := by kernel_rfl
theorem eb_60 : eb Try.prog 60 = some 24 := by kernel_rfl
theorem zc_60 : zc Try.prog 60 = some [.nils] := by kernel_rfl
theorem zl_60 : zl Try.prog 60 = some 1 := by kernel_rfl
theorem tk_61 : tk Try.prog 61 = some (false, 1) := by kernel_rfl
theorem eb_61 : eb Try.prog 61 = some 8 := by kernel_rfl
theorem zc_61 : zc Try.prog 61 = some [.nilf] := by kernel_rfl
theorem zl_61 : zl Try.prog 61 = some 1 := by kernel_rfl
theorem tk_62 : tk Try.prog 62 = some (false, 1) := by kernel_rfl
theorem eb_62 : eb Try.prog 62 = some 8 := by kernel_rfl
theorem zc_62 : zc Try.prog 62 = some [.nilp] := by kernel_rfl
theorem zl_62 : zl Try.prog 62 = some 1 := by kernel_rfl
theorem tk_63 : tk Try.prog 63 = some (true, 2) := by kernel_rfl
theorem eb_63 : eb Try.prog 63 = some 32 := by kernel_rfl
theorem zc_63 : zc Try.prog 63 = some [.int .i64 0, .nils] := by kernel_rfl
theorem zl_63 : zl Try.prog 63 = some 2 := by kernel_rfl
theorem fo_63_0 : fo Try.prog 63 0 = some (0, false, 1) := by kernel_rfl
theorem fo_63_1 : fo Try.prog 63 1 = some (1, false, 1) := by kernel_rfl
theorem sh_63 : Program.stoodInHeld Try.prog 63 = false := by kernel_rfl
theorem eg_63 : Program.eqGuardType Try.prog (Program.depth Try.prog) 63 = false := by kernel_rfl
theorem pls_63 : pls Try.prog 63 = some [(0, 1), (1, 1)] := by kernel_rfl
theorem tk_64 : tk Try.prog 64 = some (true, 2) := by kernel_rfl
theorem eb_64 : eb Try.prog 64 = some 32 := by kernel_rfl
theorem zc_64 : zc Try.prog 64 = some [.int .i64 0, .nils] := by kernel_rfl
theorem zl_64 : zl Try.prog 64 = some 2 := by kernel_rfl
theorem fo_64_0 : fo Try.prog 64 0 = some (0, false, 1) := by kernel_rfl
theorem fo_64_1 : fo Try.prog 64 1 = some (1, false, 1) := by kernel_rfl
theorem sh_64 : Program.stoodInHeld Try.prog 64 = false := by kernel_rfl
theorem eg_64 : Program.eqGuardType Try.prog (Program.depth Try.prog) 64 = false := by kernel_rfl
theorem pls_64 : pls Try.prog 64 = some [(0, 1), (1, 1)] := by kernel_rfl
theorem tk_65 : tk Try.prog 65 = some (false, 1) := by kernel_rfl
theorem eb_65 : eb Try.prog 65 = some 8 := by kernel_rfl
theorem zc_65 : zc Try.prog 65 = some [.nilf] := by kernel_rfl
theorem zl_65 : zl Try.prog 65 = some 1 := by kernel_rfl
theorem tk_66 : tk Try.prog 66 = some (true, 5) := by kernel_rfl
theorem eb_66 : eb Try.prog 66 = some 40 := by kernel_rfl
theorem zc_66 : zc Try.prog 66 = some [.int .i64 0, .int .i64 0, .int .i64 0, .int .i64 0, .int .i64 0] := by kernel_rfl
theorem zl_66 : zl Try.prog 66 = some 5 := by kernel_rfl
theorem fo_66_0 : fo Try.prog 66 0 = some (0, true, 4) := by kernel_rfl
theorem fo_66_1 : fo Try.prog 66 1 = some (4, false, 1) := by kernel_rfl
theorem sh_66 : Program.stoodInHeld Try.prog 66 = false := by kernel_rfl
theorem eg_66 : Program.eqGuardType Try.prog (Program.depth Try.prog) 66 = false := by kernel_rfl
theorem pls_66 : pls Try.prog 66 = some [(0, 4), (4, 1)] := by kernel_rfl
theorem tk_67 : tk Try.prog 67 = some (true, 5) := by kernel_rfl
theorem eb_67 : eb Try.prog 67 = some 40 := by kernel_rfl
theorem zc_67 : zc Try.prog 67 = some [.int .i64 0, .int .i64 0, .int .i64 0, .int .i64 0, .int .i64 0] := by kernel_rfl
theorem zl_67 : zl Try.prog 67 = some 5 := by kernel_rfl
theorem fo_67_0 : fo Try.prog 67 0 = some (0, true, 4) := by kernel_rfl
theorem fo_67_1 : fo Try.prog 67 1 = some (4, false, 1) := by kernel_rfl
theorem sh_67 : Program.stoodInHeld Try.prog 67 = false := by kernel_rfl
theorem eg_67 : Program.eqGuardType Try.prog (Program.depth Try.prog) 67 = false := by kernel_rfl
theorem pls_67 : pls Try.prog 67 = some [(0, 4), (4, 1)] := by kernel_rfl
theorem tk_68 : tk Try.prog 68 = some (false, 1) := by kernel_rfl
theorem eb_68 : eb Try.prog 68 = some 8 := by kernel_rfl
theorem zc_68 : zc Try.prog 68 = some [.nilf] := by kernel_rfl
theorem zl_68 : zl Try.prog 68 = some 1 := by kernel_rfl
theorem tk_69 : tk Try.prog 69 = some (false, 1) := by kernel_rfl
theorem eb_69 : eb Try.prog 69 = some 0 := by kernel_rfl
theorem tk_70 : tk Try.prog 70 = some (false, 1) := by kernel_rfl
theorem eb_70 : eb Try.prog 70 = some 8 := by kernel_rfl
theorem zc_70 : zc Try.prog 70 = some [.nilf] := by kernel_rfl
theorem zl_70 : zl Try.prog 70 = some 1 := by kernel_rfl
theorem tk_71 : tk Try.prog 71 = some (false, 1) := by kernel_rfl
theorem eb_71 : eb Try.prog 71 = some 8 := by kernel_rfl
theorem zc_71 : zc Try.prog 71 = some [.nilf] := by kernel_rfl
theorem zl_71 : zl Try.prog 71 = some 1 := by kernel_rfl
theorem tk_72 : tk Try.prog 72 = some (false, 1) := by kernel_rfl
theorem eb_72 : eb Try.prog 72 = some 8 := by kernel_rfl
theorem zc_72 : zc Try.prog 72 = some [.nilf] := by kernel_rfl
theorem zl_72 : zl Try.prog 72 = some 1 := by kernel_rfl
theorem tk_73 : tk Try.prog 73 = some (false, 1) := by kernel_rfl
theorem eb_73 : eb Try.prog 73 = some 8 := by kernel_rfl
theorem zc_73 : zc Try.prog 73 = some [.nilf] := by kernel_rfl
theorem zl_73 : zl Try.prog 73 = some 1 := by kernel_rfl
theorem tk_74 : tk Try.prog 74 = some (false, 1) := by kernel_rfl
theorem eb_74 : eb Try.prog 74 = some 8 := by kernel_rfl
theorem zc_74 : zc Try.prog 74 = some [.nilf] := by kernel_rfl
theorem zl_74 : zl Try.prog 74 = some 1 := by kernel_rfl
theorem tk_75 : tk Try.prog 75 = some (false, 1) := by kernel_rfl
theorem eb_75 : eb Try.prog 75 = some 8 := by kernel_rfl
theorem zc_75 : zc Try.prog 75 = some [.nilf] := by kernel_rfl
theorem zl_75 : zl Try.prog 75 = some 1 := by kernel_rfl
theorem tk_76 : tk Try.prog 76 = some (false, 1) := by kernel_rfl
theorem eb_76 : eb Try.prog 76 = some 8 := by kernel_rfl
theorem zc_76 : zc Try.prog 76 = some [.nilf] := by kernel_rfl
theorem zl_76 : zl Try.prog 76 = some 1 := by kernel_rfl
theorem tk_77 : tk Try.prog 77 = some (false, 1) := by kernel_rfl
theorem eb_77 : eb Try.prog 77 = some 8 := by kernel_rfl
theorem zc_77 : zc Try.prog 77 = some [.nilf] := by kernel_rfl
theorem zl_77 : zl Try.prog 77 = some 1 := by kernel_rfl
theorem tk_78 : tk Try.prog 78 = some (false, 1) := by kernel_rfl
theorem eb_78 : eb Try.prog 78 = some 8 := by kernel_rfl
theorem zc_78 : zc Try.prog 78 = some [.nilf] := by kernel_rfl
theorem zl_78 : zl Try.prog 78 = some 1 := by kernel_rfl
theorem tk_79 : tk Try.prog 79 = some (false, 1) := by kernel_rfl
theorem eb_79 : eb Try.prog 79 = some 8 := by kernel_rfl
theorem zc_79 : zc Try.prog 79 = some [.nilf] := by kernel_rfl
theorem zl_79 : zl Try.prog 79 = some 1 := by kernel_rfl
theorem tk_80 : tk Try.prog 80 = some (false, 1) := by kernel_rfl
theorem eb_80 : eb Try.prog 80 = some 24 := by kernel_rfl
theorem zc_80 : zc Try.prog 80 = some [.nils] := by kernel_rfl
theorem zl_80 : zl Try.prog 80 = some 1 := by kernel_rfl
theorem tk_81 : tk Try.prog 81 = some (true, 2) := by kernel_rfl
theorem eb_81 : eb Try.prog 81 = some 16 := by kernel_rfl
theorem zc_81 : zc Try.prog 81 = some [.int .i64 0, .int .u16 0] := by kernel_rfl
theorem zl_81 : zl Try.prog 81 = some 2 := by kernel_rfl
theorem fo_81_0 : fo Try.prog 81 0 = some (0, false, 1) := by kernel_rfl
theorem fo_81_1 : fo Try.prog 81 1 = some (1, false, 1) := by kernel_rfl
theorem sh_81 : Program.stoodInHeld Try.prog 81 = false := by kernel_rfl
theorem eg_81 : Program.eqGuardType Try.prog (Program.depth Try.prog) 81 = false := by kernel_rfl
theorem pls_81 : pls Try.prog 81 = some [(0, 1), (1, 1)] := by kernel_rfl
theorem tk_82 : tk Try.prog 82 = some (true, 2) := by kernel_rfl
theorem eb_82 : eb Try.prog 82 = some 16 := by kernel_rfl
theorem zc_82 : zc Try.prog 82 = some [.int .i64 0, .int .u16 0] := by kernel_rfl
theorem zl_82 : zl Try.prog 82 = some 2 := by kernel_rfl
theorem fo_82_0 : fo Try.prog 82 0 = some (0, false, 1) := by kernel_rfl
theorem fo_82_1 : fo Try.prog 82 1 = some (1, false, 1) := by kernel_rfl
theorem sh_82 : Program.stoodInHeld Try.prog 82 = false := by kernel_rfl
theorem eg_82 : Program.eqGuardType Try.prog (Program.depth Try.prog) 82 = false := by kernel_rfl
theorem pls_82 : pls Try.prog 82 = some [(0, 1), (1, 1)] := by kernel_rfl
theorem tk_83 : tk Try.prog 83 = some (false, 1) := by kernel_rfl
theorem eb_83 : eb Try.prog 83 = some 0 := by kernel_rfl
theorem tk_84 : tk Try.prog 84 = some (false, 1) := by kernel_rfl
theorem eb_84 : eb Try.prog 84 = some 8 := by kernel_rfl
theorem zc_84 : zc Try.prog 84 = some [.nilf] := by kernel_rfl
theorem zl_84 : zl Try.prog 84 = some 1 := by kernel_rfl
theorem tk_85 : tk Try.prog 85 = some (false, 1) := by kernel_rfl
theorem eb_85 : eb Try.prog 85 = some 8 := by kernel_rfl
theorem zc_85 : zc Try.prog 85 = some [.nilf] := by kernel_rfl
theorem zl_85 : zl Try.prog 85 = some 1 := by kernel_rfl
theorem tk_86 : tk Try.prog 86 = some (false, 1) := by kernel_rfl
theorem eb_86 : eb Try.prog 86 = some 8 := by kernel_rfl
theorem zc_86 : zc Try.prog 86 = some [.nilf] := by kernel_rfl
theorem zl_86 : zl Try.prog 86 = some 1 := by kernel_rfl
theorem tk_87 : tk Try.prog 87 = some (false, 1) := by kernel_rfl
theorem eb_87 : eb Try.prog 87 = some 8 := by kernel_rfl
theorem zc_87 : zc Try.prog 87 = some [.nilf] := by kernel_rfl
theorem zl_87 : zl Try.prog 87 = some 1 := by kernel_rfl
theorem tk_88 : tk Try.prog 88 = some (false, 1) := by kernel_rfl
theorem eb_88 : eb Try.prog 88 = some 8 := by kernel_rfl
theorem zc_88 : zc Try.prog 88 = some [.nilf] := by kernel_rfl
theorem zl_88 : zl Try.prog 88 = some 1 := by kernel_rfl
theorem tk_89 : tk Try.prog 89 = some (false, 1) := by kernel_rfl
theorem eb_89 : eb Try.prog 89 = some 16 := by kernel_rfl
theorem zc_89 : zc Try.prog 89 = some [.nili] := by kernel_rfl
theorem zl_89 : zl Try.prog 89 = some 1 := by kernel_rfl
theorem tk_90 : tk Try.prog 90 = some (false, 1) := by kernel_rfl
theorem eb_90 : eb Try.prog 90 = some 16 := by kernel_rfl
theorem zc_90 : zc Try.prog 90 = some [.nili] := by kernel_rfl
theorem zl_90 : zl Try.prog 90 = some 1 := by kernel_rfl
theorem tk_91 : tk Try.prog 91 = some (false, 1) := by kernel_rfl
theorem eb_91 : eb Try.prog 91 = some 8 := by kernel_rfl
theorem zc_91 : zc Try.prog 91 = some [.nilf] := by kernel_rfl
theorem zl_91 : zl Try.prog 91 = some 1 := by kernel_rfl
theorem tk_92 : tk Try.prog 92 = some (false, 1) := by kernel_rfl
theorem eb_92 : eb Try.prog 92 = some 8 := by kernel_rfl
theorem zc_92 : zc Try.prog 92 = some [.nilf] := by kernel_rfl
theorem zl_92 : zl Try.prog 92 = some 1 := by kernel_rfl
theorem tk_93 : tk Try.prog 93 = some (false, 1) := by kernel_rfl
theorem eb_93 : eb Try.prog 93 = some 8 := by kernel_rfl
theorem zc_93 : zc Try.prog 93 = some [.nilf] := by kernel_rfl
theorem zl_93 : zl Try.prog 93 = some 1 := by kernel_rfl
theorem tk_94 : tk Try.prog 94 = some (false, 1) := by kernel_rfl
theorem eb_94 : eb Try.prog 94 = some 8 := by kernel_rfl
theorem zc_94 : zc Try.prog 94 = some [.nilf] := by kernel_rfl
theorem zl_94 : zl Try.prog 94 = some 1 := by kernel_rfl
theorem tk_95 : tk Try.prog 95 = some (false, 1) := by kernel_rfl
theorem eb_95 : eb Try.prog 95 = some 8 := by kernel_rfl
theorem zc_95 : zc Try.prog 95 = some [.nilf] := by kernel_rfl
theorem zl_95 : zl Try.prog 95 = some 1 := by kernel_rfl
theorem tk_96 : tk Try.prog 96 = some (false, 1) := by kernel_rfl
theorem eb_96 : eb Try.prog 96 = some 8 := by kernel_rfl
theorem zc_96 : zc Try.prog 96 = some [.nilf] := by kernel_rfl
theorem zl_96 : zl Try.prog 96 = some 1 := by kernel_rfl
theorem tk_97 : tk Try.prog 97 = some (false, 1) := by kernel_rfl
theorem eb_97 : eb Try.prog 97 = some 8 := by kernel_rfl
theorem zc_97 : zc Try.prog 97 = some [.nilf] := by kernel_rfl
theorem zl_97 : zl Try.prog 97 = some 1 := by kernel_rfl
theorem tk_98 : tk Try.prog 98 = some (false, 1) := by kernel_rfl
theorem eb_98 : eb Try.prog 98 = some 8 := by kernel_rfl
theorem zc_98 : zc Try.prog 98 = some [.int .u64 0] := by kernel_rfl
theorem zl_98 : zl Try.prog 98 = some 1 := by kernel_rfl
theorem tk_99 : tk Try.prog 99 = some (false, 1) := by kernel_rfl
theorem eb_99 : eb Try.prog 99 = some 8 := by kernel_rfl
theorem zc_99 : zc Try.prog 99 = some [.nilf] := by kernel_rfl
theorem zl_99 : zl Try.prog 99 = some 1 := by kernel_rfl
theorem tk_100 : tk Try.prog 100 = some (false, 1) := by kernel_rfl
theorem eb_100 : eb Try.prog 100 = some 8 := by kernel_rfl
theorem zc_100 : zc Try.prog 100 = some [.nilf] := by kernel_rfl
theorem zl_100 : zl Try.prog 100 = some 1 := by kernel_rfl
theorem tk_101 : tk Try.prog 101 = some (false, 1) := by kernel_rfl
theorem eb_101 : eb Try.prog 101 = some 0 := by kernel_rfl
theorem tk_102 : tk Try.prog 102 = some (false, 1) := by kernel_rfl
theorem eb_102 : eb Try.prog 102 = some 8 := by kernel_rfl
theorem zc_102 : zc Try.prog 102 = some [.nilf] := by kernel_rfl
theorem zl_102 : zl Try.prog 102 = some 1 := by kernel_rfl
theorem tk_103 : tk Try.prog 103 = some (false, 1) := by kernel_rfl
theorem eb_103 : eb Try.prog 103 = some 8 := by kernel_rfl
theorem zc_103 : zc Try.prog 103 = some [.nilf] := by kernel_rfl
theorem zl_103 : zl Try.prog 103 = some 1 := by kernel_rfl
theorem tk_104 : tk Try.prog 104 = some (false, 1) := by kernel_rfl
theorem eb_104 : eb Try.prog 104 = some 8 := by kernel_rfl
theorem zc_104 : zc Try.prog 104 = some [.nilf] := by kernel_rfl
theorem zl_104 : zl Try.prog 104 = some 1 := by kernel_rfl
theorem tk_105 : tk Try.prog 105 = some (false, 1) := by kernel_rfl
theorem eb_105 : eb Try.prog 105 = some 8 := by kernel_rfl
theorem zc_105 : zc Try.prog 105 = some [.nilf] := by kernel_rfl
theorem zl_105 : zl Try.prog 105 = some 1 := by kernel_rfl
theorem tk_106 : tk Try.prog 106 = some (false, 1) := by kernel_rfl
theorem eb_106 : eb Try.prog 106 = some 8 := by kernel_rfl
theorem zc_106 : zc Try.prog 106 = some [.nilf] := by kernel_rfl
theorem zl_106 : zl Try.prog 106 = some 1 := by kernel_rfl
theorem tk_107 : tk Try.prog 107 = some (false, 1) := by kernel_rfl
theorem eb_107 : eb Try.prog 107 = some 8 := by kernel_rfl
theorem zc_107 : zc Try.prog 107 = some [.nilf] := by kernel_rfl
theorem zl_107 : zl Try.prog 107 = some 1 := by kernel_rfl
theorem tk_108 : tk Try.prog 108 = some (false, 1) := by kernel_rfl
theorem eb_108 : eb Try.prog 108 = some 8 := by kernel_rfl
theorem zc_108 : zc Try.prog 108 = some [.nilf] := by kernel_rfl
theorem zl_108 : zl Try.prog 108 = some 1 := by kernel_rfl
theorem tk_109 : tk Try.prog 109 = some (false, 1) := by kernel_rfl
theorem eb_109 : eb Try.prog 109 = some 8 := by kernel_rfl
theorem zc_109 : zc Try.prog 109 = some [.nilf] := by kernel_rfl
theorem zl_109 : zl Try.prog 109 = some 1 := by kernel_rfl
theorem tk_110 : tk Try.prog 110 = some (false, 1) := by kernel_rfl
theorem eb_110 : eb Try.prog 110 = some 8 := by kernel_rfl
theorem zc_110 : zc Try.prog 110 = some [.int .i64 0] := by kernel_rfl
theorem zl_110 : zl Try.prog 110 = some 1 := by kernel_rfl
theorem tk_111 : tk Try.prog 111 = some (false, 1) := by kernel_rfl
theorem eb_111 : eb Try.prog 111 = some 0 := by kernel_rfl
theorem tk_112 : tk Try.prog 112 = some (false, 1) := by kernel_rfl
theorem eb_112 : eb Try.prog 112 = some 8 := by kernel_rfl
theorem zc_112 : zc Try.prog 112 = some [.nilf] := by kernel_rfl
theorem zl_112 : zl Try.prog 112 = some 1 := by kernel_rfl
theorem tk_113 : tk Try.prog 113 = some (false, 1) := by kernel_rfl
theorem eb_113 : eb Try.prog 113 = some 8 := by kernel_rfl
theorem zc_113 : zc Try.prog 113 = some [.nilf] := by kernel_rfl
theorem zl_113 : zl Try.prog 113 = some 1 := by kernel_rfl
theorem tk_114 : tk Try.prog 114 = some (false, 1) := by kernel_rfl
theorem eb_114 : eb Try.prog 114 = some 8 := by kernel_rfl
theorem zc_114 : zc Try.prog 114 = some [.nilf] := by kernel_rfl
theorem zl_114 : zl Try.prog 114 = some 1 := by kernel_rfl
theorem tk_115 : tk Try.prog 115 = some (false, 1) := by kernel_rfl
theorem eb_115 : eb Try.prog 115 = some 0 := by kernel_rfl
theorem tk_116 : tk Try.prog 116 = some (false, 1) := by kernel_rfl
theorem eb_116 : eb Try.prog 116 = some 8 := by kernel_rfl
theorem zc_116 : zc Try.prog 116 = some [.nilf] := by kernel_rfl
theorem zl_116 : zl Try.prog 116 = some 1 := by kernel_rfl
theorem tk_117 : tk Try.prog 117 = some (false, 1) := by kernel_rfl
theorem eb_117 : eb Try.prog 117 = some 8 := by kernel_rfl
theorem zc_117 : zc Try.prog 117 = some [.nilf] := by kernel_rfl
theorem zl_117 : zl Try.prog 117 = some 1 := by kernel_rfl
theorem tk_118 : tk Try.prog 118 = some (false, 1) := by kernel_rfl
theorem eb_118 : eb Try.prog 118 = some 4 := by kernel_rfl
theorem zc_118 : zc Try.prog 118 = some [.int .u32 0] := by kernel_rfl
theorem zl_118 : zl Try.prog 118 = some 1 := by kernel_rfl
theorem tk_119 : tk Try.prog 119 = some (false, 1) := by kernel_rfl
theorem eb_119 : eb Try.prog 119 = some 8 := by kernel_rfl
theorem zc_119 : zc Try.prog 119 = some [.nilf] := by kernel_rfl
theorem zl_119 : zl Try.prog 119 = some 1 := by kernel_rfl
theorem tk_120 : tk Try.prog 120 = some (false, 1) := by kernel_rfl
theorem eb_120 : eb Try.prog 120 = some 8 := by kernel_rfl
theorem zc_120 : zc Try.prog 120 = some [.int .u64 0] := by kernel_rfl
theorem zl_120 : zl Try.prog 120 = some 1 := by kernel_rfl
theorem tk_121 : tk Try.prog 121 = some (false, 1) := by kernel_rfl
theorem eb_121 : eb Try.prog 121 = some 8 := by kernel_rfl
theorem zc_121 : zc Try.prog 121 = some [.nilf] := by kernel_rfl
theorem zl_121 : zl Try.prog 121 = some 1 := by kernel_rfl
theorem tk_122 : tk Try.prog 122 = some (false, 1) := by kernel_rfl
theorem eb_122 : eb Try.prog 122 = some 8 := by kernel_rfl
theorem zc_122 : zc Try.prog 122 = some [.nilf] := by kernel_rfl
theorem zl_122 : zl Try.prog 122 = some 1 := by kernel_rfl
theorem tk_123 : tk Try.prog 123 = some (false, 1) := by kernel_rfl
theorem eb_123 : eb Try.prog 123 = some 8 := by kernel_rfl
theorem zc_123 : zc Try.prog 123 = some [.nilf] := by kernel_rfl
theorem zl_123 : zl Try.prog 123 = some 1 := by kernel_rfl
theorem tk_124 : tk Try.prog 124 = some (false, 1) := by kernel_rfl
theorem eb_124 : eb Try.prog 124 = some 8 := by kernel_rfl
theorem zc_124 : zc Try.prog 124 = some [.nilf] := by kernel_rfl
theorem zl_124 : zl Try.prog 124 = some 1 := by kernel_rfl
theorem tk_125 : tk Try.prog 125 = some (true, 4) := by kernel_rfl
theorem eb_125 : eb Try.prog 125 = some 32 := by kernel_rfl
theorem zc_125 : zc Try.prog 125 = some [.int .i64 0, .int .i64 0, .int .i64 0, .int .i64 0] := by kernel_rfl
theorem zl_125 : zl Try.prog 125 = some 4 := by kernel_rfl
theorem fo_125_0 : fo Try.prog 125 0 = some (0, false, 1) := by kernel_rfl
theorem fo_125_1 : fo Try.prog 125 1 = some (1, false, 1) := by kernel_rfl
theorem fo_125_2 : fo Try.prog 125 2 = some (2, false, 1) := by kernel_rfl
theorem fo_125_3 : fo Try.prog 125 3 = some (3, false, 1) := by kernel_rfl
theorem sh_125 : Program.stoodInHeld Try.prog 125 = false := by kernel_rfl
theorem eg_125 : Program.eqGuardType Try.prog (Program.depth Try.prog) 125 = false := by kernel_rfl
theorem pls_125 : pls Try.prog 125 = some [(0, 1), (1, 1), (2, 1), (3, 1)] := by kernel_rfl
theorem tk_126 : tk Try.prog 126 = some (true, 4) := by kernel_rfl
theorem eb_126 : eb Try.prog 126 = some 32 := by kernel_rfl
theorem zc_126 : zc Try.prog 126 = some [.int .i64 0, .int .i64 0, .int .i64 0, .int .i64 0] := by kernel_rfl
theorem zl_126 : zl Try.prog 126 = some 4 := by kernel_rfl
theorem fo_126_0 : fo Try.prog 126 0 = some (0, false, 1) := by kernel_rfl
theorem fo_126_1 : fo Try.prog 126 1 = some (1, false, 1) := by kernel_rfl
theorem fo_126_2 : fo Try.prog 126 2 = some (2, false, 1) := by kernel_rfl
theorem fo_126_3 : fo Try.prog 126 3 = some (3, false, 1) := by kernel_rfl
theorem sh_126 : Program.stoodInHeld Try.prog 126 = false := by kernel_rfl
theorem eg_126 : Program.eqGuardType Try.prog (Program.depth Try.prog) 126 = false := by kernel_rfl
theorem pls_126 : pls Try.prog 126 = some [(0, 1), (1, 1), (2, 1), (3, 1)] := by kernel_rfl
theorem tk_127 : tk Try.prog 127 = some (false, 1) := by kernel_rfl
theorem eb_127 : eb Try.prog 127 = some 8 := by kernel_rfl
theorem zc_127 : zc Try.prog 127 = some [.nilf] := by kernel_rfl
theorem zl_127 : zl Try.prog 127 = some 1 := by kernel_rfl
theorem tk_128 : tk Try.prog 128 = some (false, 1) := by kernel_rfl
theorem eb_128 : eb Try.prog 128 = some 8 := by kernel_rfl
theorem zc_128 : zc Try.prog 128 = some [.nilf] := by kernel_rfl
theorem zl_128 : zl Try.prog 128 = some 1 := by kernel_rfl
theorem tk_129 : tk Try.prog 129 = some (false, 1) := by kernel_rfl
theorem eb_129 : eb Try.prog 129 = some 8 := by kernel_rfl
theorem zc_129 : zc Try.prog 129 = some [.nilf] := by kernel_rfl
theorem zl_129 : zl Try.prog 129 = some 1 := by kernel_rfl
theorem tk_130 : tk Try.prog 130 = some (false, 1) := by kernel_rfl
theorem eb_130 : eb Try.prog 130 = some 8 := by kernel_rfl
theorem zc_130 : zc Try.prog 130 = some [.int .u64 0] := by kernel_rfl
theorem zl_130 : zl Try.prog 130 = some 1 := by kernel_rfl
theorem tk_131 : tk Try.prog 131 = some (false, 1) := by kernel_rfl
theorem eb_131 : eb Try.prog 131 = some 8 := by kernel_rfl
theorem zc_131 : zc Try.prog 131 = some [.nilf] := by kernel_rfl
theorem zl_131 : zl Try.prog 131 = some 1 := by kernel_rfl
theorem tk_132 : tk Try.prog 132 = some (false, 1) := by kernel_rfl
theorem eb_132 : eb Try.prog 132 = some 8 := by kernel_rfl
theorem zc_132 : zc Try.prog 132 = some [.nilf] := by kernel_rfl
theorem zl_132 : zl Try.prog 132 = some 1 := by kernel_rfl
theorem tk_133 : tk Try.prog 133 = some (false, 1) := by kernel_rfl
theorem eb_133 : eb Try.prog 133 = some 8 := by kernel_rfl
theorem zc_133 : zc Try.prog 133 = some [.nilf] := by kernel_rfl
theorem zl_133 : zl Try.prog 133 = some 1 := by kernel_rfl
theorem tk_134 : tk Try.prog 134 = some (false, 1) := by kernel_rfl
theorem eb_134 : eb Try.prog 134 = some 8 := by kernel_rfl
theorem zc_134 : zc Try.prog 134 = some [.nilp] := by kernel_rfl
theorem zl_134 : zl Try.prog 134 = some 1 := by kernel_rfl
theorem tk_135 : tk Try.prog 135 = some (false, 1) := by kernel_rfl
theorem eb_135 : eb Try.prog 135 = some 8 := by kernel_rfl
theorem zc_135 : zc Try.prog 135 = some [.nilf] := by kernel_rfl
theorem zl_135 : zl Try.prog 135 = some 1 := by kernel_rfl
theorem tk_136 : tk Try.prog 136 = some (false, 1) := by kernel_rfl
theorem eb_136 : eb Try.prog 136 = some 8 := by kernel_rfl
theorem zc_136 : zc Try.prog 136 = some [.nilf] := by kernel_rfl
theorem zl_136 : zl Try.prog 136 = some 1 := by kernel_rfl
theorem tk_137 : tk Try.prog 137 = some (false, 1) := by kernel_rfl
theorem eb_137 : eb Try.prog 137 = some 8 := by kernel_rfl
theorem zc_137 : zc Try.prog 137 = some [.nilp] := by kernel_rfl
theorem zl_137 : zl Try.prog 137 = some 1 := by kernel_rfl
theorem tk_138 : tk Try.prog 138 = some (false, 1) := by kernel_rfl
theorem eb_138 : eb Try.prog 138 = some 0 := by kernel_rfl
theorem tk_139 : tk Try.prog 139 = some (false, 1) := by kernel_rfl
theorem eb_139 : eb Try.prog 139 = some 8 := by kernel_rfl
theorem zc_139 : zc Try.prog 139 = some [.nilf] := by kernel_rfl
theorem zl_139 : zl Try.prog 139 = some 1 := by kernel_rfl
theorem tk_140 : tk Try.prog 140 = some (false, 1) := by kernel_rfl
theorem eb_140 : eb Try.prog 140 = some 8 := by kernel_rfl
theorem zc_140 : zc Try.prog 140 = some [.nilf] := by kernel_rfl
theorem zl_140 : zl Try.prog 140 = some 1 := by kernel_rfl
theorem tk_141 : tk Try.prog 141 = some (true, 4) := by kernel_rfl
theorem eb_141 : eb Try.prog 141 = some 40 := by kernel_rfl
theorem zc_141 : zc Try.prog 141 = some [.nilp, .nilp, .nilp, .str ByteArray.empty] := by kernel_rfl
theorem zl_141 : zl Try.prog 141 = some 4 := by kernel_rfl
theorem fo_141_0 : fo Try.prog 141 0 = some (0, false, 1) := by kernel_rfl
theorem fo_141_1 : fo Try.prog 141 1 = some (1, false, 1) := by kernel_rfl
theorem fo_141_2 : fo Try.prog 141 2 = some (2, false, 1) := by kernel_rfl
theorem fo_141_3 : fo Try.prog 141 3 = some (3, false, 1) := by kernel_rfl
theorem sh_141 : Program.stoodInHeld Try.prog 141 = true := by kernel_rfl
theorem eg_141 : Program.eqGuardType Try.prog (Program.depth Try.prog) 141 = false := by kernel_rfl
theorem pls_141 : pls Try.prog 141 = some [(0, 1), (1, 1), (2, 1), (3, 1)] := by kernel_rfl
theorem tk_142 : tk Try.prog 142 = some (true, 4) := by kernel_rfl
theorem eb_142 : eb Try.prog 142 = some 40 := by kernel_rfl
theorem zc_142 : zc Try.prog 142 = some [.nilp, .nilp, .nilp, .str ByteArray.empty] := by kernel_rfl
theorem zl_142 : zl Try.prog 142 = some 4 := by kernel_rfl
theorem fo_142_0 : fo Try.prog 142 0 = some (0, false, 1) := by kernel_rfl
theorem fo_142_1 : fo Try.prog 142 1 = some (1, false, 1) := by kernel_rfl
theorem fo_142_2 : fo Try.prog 142 2 = some (2, false, 1) := by kernel_rfl
theorem fo_142_3 : fo Try.prog 142 3 = some (3, false, 1) := by kernel_rfl
theorem sh_142 : Program.stoodInHeld Try.prog 142 = true := by kernel_rfl
theorem eg_142 : Program.eqGuardType Try.prog (Program.depth Try.prog) 142 = false := by kernel_rfl
theorem pls_142 : pls Try.prog 142 = some [(0, 1), (1, 1), (2, 1), (3, 1)] := by kernel_rfl
theorem tk_143 : tk Try.prog 143 = some (true, 0) := by kernel_rfl
theorem eb_143 : eb Try.prog 143 = some 0 := by kernel_rfl
theorem zc_143 : zc Try.prog 143 = some [] := by kernel_rfl
theorem zl_143 : zl Try.prog 143 = some 0 := by kernel_rfl
theorem sh_143 : Program.stoodInHeld Try.prog 143 = false := by kernel_rfl
theorem eg_143 : Program.eqGuardType Try.prog (Program.depth Try.prog) 143 = false := by kernel_rfl
theorem pls_143 : pls Try.prog 143 = none := by kernel_rfl
theorem tk_144 : tk Try.prog 144 = some (true, 0) := by kernel_rfl
theorem eb_144 : eb Try.prog 144 = some 0 := by kernel_rfl
theorem zc_144 : zc Try.prog 144 = some [] := by kernel_rfl
theorem zl_144 : zl Try.prog 144 = some 0 := by kernel_rfl
theorem fo_144_0 : fo Try.prog 144 0 = some (0, true, 0) := by kernel_rfl
theorem sh_144 : Program.stoodInHeld Try.prog 144 = true := by kernel_rfl
theorem eg_144 : Program.eqGuardType Try.prog (Program.depth Try.prog) 144 = false := by kernel_rfl
theorem pls_144 : pls Try.prog 144 = some [(0, 0)] := by kernel_rfl
theorem tk_145 : tk Try.prog 145 = some (true, 0) := by kernel_rfl
theorem eb_145 : eb Try.prog 145 = some 0 := by kernel_rfl
theorem zc_145 : zc Try.prog 145 = some [] := by kernel_rfl
theorem zl_145 : zl Try.prog 145 = some 0 := by kernel_rfl
theorem fo_145_0 : fo Try.prog 145 0 = some (0, true, 0) := by kernel_rfl
theorem sh_145 : Program.stoodInHeld Try.prog 145 = true := by kernel_rfl
theorem eg_145 : Program.eqGuardType Try.prog (Program.depth Try.prog) 145 = false := by kernel_rfl
theorem pls_145 : pls Try.prog 145 = some [(0, 0)] := by kernel_rfl
theorem tk_146 : tk Try.prog 146 = some (false, 1) := by kernel_rfl
theorem eb_146 : eb Try.prog 146 = some 1 := by kernel_rfl
theorem zc_146 : zc Try.prog 146 = some [.int .u8 0] := by kernel_rfl
theorem zl_146 : zl Try.prog 146 = some 1 := by kernel_rfl
theorem tk_147 : tk Try.prog 147 = some (false, 1) := by kernel_rfl
theorem eb_147 : eb Try.prog 147 = some 1 := by kernel_rfl
theorem zc_147 : zc Try.prog 147 = some [.int .u8 0] := by kernel_rfl
theorem zl_147 : zl Try.prog 147 = some 1 := by kernel_rfl
theorem tk_148 : tk Try.prog 148 = some (false, 1) := by kernel_rfl
theorem eb_148 : eb Try.prog 148 = some 8 := by kernel_rfl
theorem zc_148 : zc Try.prog 148 = some [.nilf] := by kernel_rfl
theorem zl_148 : zl Try.prog 148 = some 1 := by kernel_rfl
theorem tk_149 : tk Try.prog 149 = some (false, 1) := by kernel_rfl
theorem eb_149 : eb Try.prog 149 = some 8 := by kernel_rfl
theorem zc_149 : zc Try.prog 149 = some [.nilp] := by kernel_rfl
theorem zl_149 : zl Try.prog 149 = some 1 := by kernel_rfl
theorem tk_150 : tk Try.prog 150 = some (false, 1) := by kernel_rfl
theorem eb_150 : eb Try.prog 150 = some 4 := by kernel_rfl
theorem zc_150 : zc Try.prog 150 = some [.int .i32 0] := by kernel_rfl
theorem zl_150 : zl Try.prog 150 = some 1 := by kernel_rfl
theorem tk_151 : tk Try.prog 151 = some (false, 1) := by kernel_rfl
theorem eb_151 : eb Try.prog 151 = some 4 := by kernel_rfl
theorem zc_151 : zc Try.prog 151 = some [.int .i32 0] := by kernel_rfl
theorem zl_151 : zl Try.prog 151 = some 1 := by kernel_rfl
theorem tk_152 : tk Try.prog 152 = some (true, 11) := by kernel_rfl
theorem eb_152 : eb Try.prog 152 = some 48 := by kernel_rfl
theorem zc_152 : zc Try.prog 152 = some [.int .u64 0, .int .u64 0, .int .u32 0, .int .u8 0, .int .u8 0, .int .u8 0, .int .u8 0, .nilf, .nilp, .int .i32 0, .int .i32 0] := by kernel_rfl
theorem zl_152 : zl Try.prog 152 = some 11 := by kernel_rfl
theorem fo_152_0 : fo Try.prog 152 0 = some (0, false, 1) := by kernel_rfl
theorem fo_152_1 : fo Try.prog 152 1 = some (1, false, 1) := by kernel_rfl
theorem fo_152_2 : fo Try.prog 152 2 = some (2, false, 1) := by kernel_rfl
theorem fo_152_3 : fo Try.prog 152 3 = some (3, false, 1) := by kernel_rfl
theorem fo_152_4 : fo Try.prog 152 4 = some (4, false, 1) := by kernel_rfl
theorem fo_152_5 : fo Try.prog 152 5 = some (5, false, 1) := by kernel_rfl
theorem fo_152_6 : fo Try.prog 152 6 = some (6, false, 1) := by kernel_rfl
theorem fo_152_7 : fo Try.prog 152 7 = some (7, false, 1) := by kernel_rfl
theorem fo_152_8 : fo Try.prog 152 8 = some (8, false, 1) := by kernel_rfl
theorem fo_152_9 : fo Try.prog 152 9 = some (9, false, 1) := by kernel_rfl
theorem fo_152_10 : fo Try.prog 152 10 = some (10, false, 1) := by kernel_rfl
theorem sh_152 : Program.stoodInHeld Try.prog 152 = true := by kernel_rfl
theorem eg_152 : Program.eqGuardType Try.prog (Program.depth Try.prog) 152 = false := by kernel_rfl
theorem pls_152 : pls Try.prog 152 = some [(0, 1), (1, 1), (2, 1), (3, 1), (4, 1), (5, 1), (6, 1), (7, 1), (8, 1), (9, 1), (10, 1)] := by kernel_rfl
theorem tk_153 : tk Try.prog 153 = some (true, 11) := by kernel_rfl
theorem eb_153 : eb Try.prog 153 = some 48 := by kernel_rfl
theorem zc_153 : zc Try.prog 153 = some [.int .u64 0, .int .u64 0, .int .u32 0, .int .u8 0, .int .u8 0, .int .u8 0, .int .u8 0, .nilf, .nilp, .int .i32 0, .int .i32 0] := by kernel_rfl
theorem zl_153 : zl Try.prog 153 = some 11 := by kernel_rfl
theorem fo_153_0 : fo Try.prog 153 0 = some (0, false, 1) := by kernel_rfl
theorem fo_153_1 : fo Try.prog 153 1 = some (1, false, 1) := by kernel_rfl
theorem fo_153_2 : fo Try.prog 153 2 = some (2, false, 1) := by kernel_rfl
theorem fo_153_3 : fo Try.prog 153 3 = some (3, false, 1) := by kernel_rfl
theorem fo_153_4 : fo Try.prog 153 4 = some (4, false, 1) := by kernel_rfl
theorem fo_153_5 : fo Try.prog 153 5 = some (5, false, 1) := by kernel_rfl
theorem fo_153_6 : fo Try.prog 153 6 = some (6, false, 1) := by kernel_rfl
theorem fo_153_7 : fo Try.prog 153 7 = some (7, false, 1) := by kernel_rfl
theorem fo_153_8 : fo Try.prog 153 8 = some (8, false, 1) := by kernel_rfl
theorem fo_153_9 : fo Try.prog 153 9 = some (9, false, 1) := by kernel_rfl
theorem fo_153_10 : fo Try.prog 153 10 = some (10, false, 1) := by kernel_rfl
theorem sh_153 : Program.stoodInHeld Try.prog 153 = true := by kernel_rfl
theorem eg_153 : Program.eqGuardType Try.prog (Program.depth Try.prog) 153 = false := by kernel_rfl
theorem pls_153 : pls Try.prog 153 = some [(0, 1), (1, 1), (2, 1), (3, 1), (4, 1), (5, 1), (6, 1), (7, 1), (8, 1), (9, 1), (10, 1)] := by kernel_rfl
theorem tk_154 : tk Try.prog 154 = some (false, 1) := by kernel_rfl
theorem eb_154 : eb Try.prog 154 = some 8 := by kernel_rfl
theorem zc_154 : zc Try.prog 154 = some [.nilp] := by kernel_rfl
theorem zl_154 : zl Try.prog 154 = some 1 := by kernel_rfl
theorem en_2 : enters Try.prog 2 = true := by kernel_rfl
theorem en_3 : enters Try.prog 3 = true := by kernel_rfl
theorem en_4 : enters Try.prog 4 = true := by kernel_rfl
theorem en_5 : enters Try.prog 5 = true := by kernel_rfl
theorem en_6 : enters Try.prog 6 = true := by kernel_rfl
theorem en_7 : enters Try.prog 7 = true := by kernel_rfl
theorem en_8 : enters Try.prog 8 = true := by kernel_rfl
theorem en_9 : enters Try.prog 9 = true := by kernel_rfl
theorem en_10 : enters Try.prog 10 = true := by kernel_rfl
theorem en_11 : enters Try.prog 11 = true := by kernel_rfl
theorem en_12 : enters Try.prog 12 = true := by kernel_rfl
theorem en_13 : enters Try.prog 13 = true := by kernel_rfl
theorem en_14 : enters Try.prog 14 = true := by kernel_rfl
theorem en_15 : enters Try.prog 15 = true := by kernel_rfl
theorem en_16 : enters Try.prog 16 = true := by kernel_rfl
theorem en_17 : enters Try.prog 17 = true := by kernel_rfl
theorem en_18 : enters Try.prog 18 = true := by kernel_rfl
theorem en_19 : enters Try.prog 19 = true := by kernel_rfl
theorem en_20 : enters Try.prog 20 = true := by kernel_rfl
theorem en_21 : enters Try.prog 21 = true := by kernel_rfl
theorem en_22 : enters Try.prog 22 = true := by kernel_rfl
theorem en_23 : enters Try.prog 23 = true := by kernel_rfl
theorem en_24 : enters Try.prog 24 = true := by kernel_rfl
theorem en_25 : enters Try.prog 25 = true := by kernel_rfl
theorem en_26 : enters Try.prog 26 = true := by kernel_rfl
theorem en_27 : enters Try.prog 27 = true := by kernel_rfl
theorem en_28 : enters Try.prog 28 = true := by kernel_rfl
theorem en_29 : enters Try.prog 29 = true := by kernel_rfl
theorem en_30 : enters Try.prog 30 = true := by kernel_rfl
theorem en_31 : enters Try.prog 31 = true := by kernel_rfl
theorem en_32 : enters Try.prog 32 = true := by kernel_rfl
theorem en_33 : enters Try.prog 33 = true := by kernel_rfl
theorem en_34 : enters Try.prog 34 = true := by kernel_rfl
theorem en_35 : enters Try.prog 35 = true := by kernel_rfl
theorem en_36 : enters Try.prog 36 = true := by kernel_rfl
theorem en_37 : enters Try.prog 37 = true := by kernel_rfl
theorem en_38 : enters Try.prog 38 = true := by kernel_rfl
theorem en_39 : enters Try.prog 39 = true := by kernel_rfl
theorem en_40 : enters Try.prog 40 = true := by kernel_rfl
theorem en_41 : enters Try.prog 41 = true := by kernel_rfl
theorem en_42 : enters Try.prog 42 = true := by kernel_rfl
theorem en_43 : enters Try.prog 43 = true := by kernel_rfl
theorem en_44 : enters Try.prog 44 = true := by kernel_rfl
theorem en_45 : enters Try.prog 45 = true := by kernel_rfl
theorem en_46 : enters Try.prog 46 = true := by kernel_rfl
theorem en_47 : enters Try.prog 47 = true := by kernel_rfl
theorem en_48 : enters Try.prog 48 = true := by kernel_rfl
theorem en_49 : enters Try.prog 49 = true := by kernel_rfl
theorem en_50 : enters Try.prog 50 = true := by kernel_rfl
theorem en_51 : enters Try.prog 51 = true := by kernel_rfl
theorem en_52 : enters Try.prog 52 = true := by kernel_rfl
theorem en_53 : enters Try.prog 53 = true := by kernel_rfl
theorem en_54 : enters Try.prog 54 = true := by kernel_rfl
theorem en_55 : enters Try.prog 55 = true := by kernel_rfl
theorem en_56 : enters Try.prog 56 = true := by kernel_rfl
theorem en_57 : enters Try.prog 57 = true := by kernel_rfl
theorem en_58 : enters Try.prog 58 = true := by kernel_rfl
theorem en_59 : enters Try.prog 59 = true := by kernel_rfl
theorem en_60 : enters Try.prog 60 = true := by kernel_rfl
theorem en_61 : enters Try.prog 61 = true := by kernel_rfl
theorem en_62 : enters Try.prog 62 = true := by kernel_rfl
theorem en_63 : enters Try.prog 63 = true := by kernel_rfl
theorem en_64 : enters Try.prog 64 = true := by kernel_rfl
theorem en_65 : enters Try.prog 65 = true := by kernel_rfl
theorem en_66 : enters Try.prog 66 = true := by kernel_rfl
theorem en_67 : enters Try.prog 67 = true := by kernel_rfl
theorem en_68 : enters Try.prog 68 = true := by kernel_rfl
theorem en_69 : enters Try.prog 69 = true := by kernel_rfl
theorem en_70 : enters Try.prog 70 = true := by kernel_rfl
theorem en_71 : enters Try.prog 71 = true := by kernel_rfl
theorem en_72 : enters Try.prog 72 = true := by kernel_rfl
theorem en_73 : enters Try.prog 73 = true := by kernel_rfl
theorem en_74 : enters Try.prog 74 = true := by kernel_rfl
theorem en_75 : enters Try.prog 75 = true := by kernel_rfl
theorem en_76 : enters Try.prog 76 = true := by kernel_rfl
theorem en_77 : enters Try.prog 77 = true := by kernel_rfl
theorem en_78 : enters Try.prog 78 = true := by kernel_rfl
theorem en_79 : enters Try.prog 79 = true := by kernel_rfl
theorem en_80 : enters Try.prog 80 = true := by kernel_rfl
theorem en_81 : enters Try.prog 81 = true := by kernel_rfl
theorem en_82 : enters Try.prog 82 = true := by kernel_rfl
theorem en_83 : enters Try.prog 83 = true := by kernel_rfl
theorem en_84 : enters Try.prog 84 = true := by kernel_rfl
theorem en_101 : enters Try.prog 101 = true := by kernel_rfl
theorem en_102 : enters Try.prog 102 = true := by kernel_rfl
theorem en_103 : enters Try.prog 103 = true := by kernel_rfl
theorem en_104 : enters Try.prog 104 = true := by kernel_rfl
theorem mixed : Try.prog.follows .mixedOrders = true := by kernel_rfl
attribute [go_sem] tk_0 tk_1 eb_1 zc_1 zl_1 tk_2 eb_2 zc_2 zl_2 tk_3 eb_3 zc_3 zl_3 tk_4 eb_4 zc_4 zl_4 tk_5 eb_5 zc_5 zl_5 tk_6 eb_6 zc_6 zl_6 tk_7 eb_7 zc_7 zl_7 fo_7_0 fo_7_1 fo_7_2 fo_7_3 sh_7 eg_7 pls_7 tk_8 eb_8 zc_8 zl_8
attribute [go_sem] fo_8_0 fo_8_1 fo_8_2 fo_8_3 sh_8 eg_8 pls_8 tk_9 eb_9 zc_9 zl_9 tk_10 eb_10 zc_10 zl_10 tk_11 eb_11 zc_11 zl_11 tk_12 eb_12 zc_12 zl_12 tk_13 eb_13 zc_13 zl_13 fo_13_0 fo_13_1 sh_13 eg_13 pls_13 tk_14 eb_14 zc_14 zl_14 fo_14_0 fo_14_1 sh_14 eg_14
attribute [go_sem] pls_14 tk_15 eb_15 zc_15 zl_15 tk_16 eb_16 zc_16 zl_16 tk_17 eb_17 zc_17 zl_17 tk_18 eb_18 zc_18 zl_18 fo_18_0 sh_18 eg_18 pls_18 tk_19 eb_19 zc_19 zl_19 fo_19_0 sh_19 eg_19 pls_19 tk_20 eb_20 zc_20 zl_20 tk_21 eb_21 zc_21 zl_21 tk_22 eb_22 zc_22
attribute [go_sem] zl_22 tk_23 eb_23 zc_23 zl_23 tk_24 eb_24 zc_24 zl_24 tk_25 eb_25 zc_25 zl_25 tk_26 eb_26 tk_27 eb_27 zc_27 zl_27 tk_28 eb_28 zc_28 zl_28 tk_29 eb_29 tk_30 eb_30 zc_30 zl_30 tk_31 eb_31 zc_31 zl_31 tk_32 eb_32 tk_33 eb_33 zc_33 zl_33 tk_34
attribute [go_sem] eb_34 tk_35 eb_35 zc_35 zl_35 tk_36 eb_36 zc_36 zl_36 tk_37 eb_37 zc_37 zl_37 fo_37_0 fo_37_1 fo_37_2 sh_37 eg_37 pls_37 tk_38 eb_38 zc_38 zl_38 fo_38_0 fo_38_1 fo_38_2 sh_38 eg_38 pls_38 tk_39 eb_39 zc_39 zl_39 fo_39_0 fo_39_1 fo_39_2 sh_39 eg_39 pls_39 tk_40
attribute [go_sem] eb_40 zc_40 zl_40 tk_41 eb_41 zc_41 zl_41 fo_41_0 fo_41_1 fo_41_2 fo_41_3 sh_41 eg_41 pls_41 tk_42 eb_42 zc_42 zl_42 fo_42_0 fo_42_1 fo_42_2 fo_42_3 sh_42 eg_42 pls_42 tk_43 eb_43 zc_43 zl_43 tk_44 eb_44 zc_44 zl_44 tk_45 eb_45 zc_45 zl_45 tk_46 eb_46 zc_46
attribute [go_sem] zl_46 tk_47 eb_47 zc_47 zl_47 tk_48 eb_48 zc_48 zl_48 tk_49 eb_49 zc_49 zl_49 tk_50 eb_50 zc_50 zl_50 tk_51 eb_51 zc_51 zl_51 tk_52 eb_52 zc_52 zl_52 tk_53 eb_53 zc_53 zl_53 fo_53_0 fo_53_1 fo_53_2 fo_53_3 fo_53_4 fo_53_5 fo_53_6 sh_53 eg_53 pls_53 tk_54
attribute [go_sem] eb_54 zc_54 zl_54 fo_54_0 fo_54_1 fo_54_2 fo_54_3 fo_54_4 fo_54_5 fo_54_6 sh_54 eg_54 pls_54 tk_55 eb_55 tk_56 eb_56 zc_56 zl_56 tk_57 eb_57 zc_57 zl_57 tk_58 eb_58 zc_58 zl_58 tk_59 eb_59 zc_59 zl_59 tk_60 eb_60 zc_60 zl_60 tk_61 eb_61 zc_61 zl_61 tk_62
attribute [go_sem] eb_62 zc_62 zl_62 tk_63 eb_63 zc_63 zl_63 fo_63_0 fo_63_1 sh_63 eg_63 pls_63 tk_64 eb_64 zc_64 zl_64 fo_64_0 fo_64_1 sh_64 eg_64 pls_64 tk_65 eb_65 zc_65 zl_65 tk_66 eb_66 zc_66 zl_66 fo_66_0 fo_66_1 sh_66 eg_66 pls_66 tk_67 eb_67 zc_67 zl_67 fo_67_0 fo_67_1
attribute [go_sem] sh_67 eg_67 pls_67 tk_68 eb_68 zc_68 zl_68 tk_69 eb_69 tk_70 eb_70 zc_70 zl_70 tk_71 eb_71 zc_71 zl_71 tk_72 eb_72 zc_72 zl_72 tk_73 eb_73 zc_73 zl_73 tk_74 eb_74 zc_74 zl_74 tk_75 eb_75 zc_75 zl_75 tk_76 eb_76 zc_76 zl_76 tk_77 eb_77 zc_77
attribute [go_sem] zl_77 tk_78 eb_78 zc_78 zl_78 tk_79 eb_79 zc_79 zl_79 tk_80 eb_80 zc_80 zl_80 tk_81 eb_81 zc_81 zl_81 fo_81_0 fo_81_1 sh_81 eg_81 pls_81 tk_82 eb_82 zc_82 zl_82 fo_82_0 fo_82_1 sh_82 eg_82 pls_82 tk_83 eb_83 tk_84 eb_84 zc_84 zl_84 tk_85 eb_85 zc_85
attribute [go_sem] zl_85 tk_86 eb_86 zc_86 zl_86 tk_87 eb_87 zc_87 zl_87 tk_88 eb_88 zc_88 zl_88 tk_89 eb_89 zc_89 zl_89 tk_90 eb_90 zc_90 zl_90 tk_91 eb_91 zc_91 zl_91 tk_92 eb_92 zc_92 zl_92 tk_93 eb_93 zc_93 zl_93 tk_94 eb_94 zc_94 zl_94 tk_95 eb_95 zc_95
attribute [go_sem] zl_95 tk_96 eb_96 zc_96 zl_96 tk_97 eb_97 zc_97 zl_97 tk_98 eb_98 zc_98 zl_98 tk_99 eb_99 zc_99 zl_99 tk_100 eb_100 zc_100 zl_100 tk_101 eb_101 tk_102 eb_102 zc_102 zl_102 tk_103 eb_103 zc_103 zl_103 tk_104 eb_104 zc_104 zl_104 tk_105 eb_105 zc_105 zl_105 tk_106
attribute [go_sem] eb_106 zc_106 zl_106 tk_107 eb_107 zc_107 zl_107 tk_108 eb_108 zc_108 zl_108 tk_109 eb_109 zc_109 zl_109 tk_110 eb_110 zc_110 zl_110 tk_111 eb_111 tk_112 eb_112 zc_112 zl_112 tk_113 eb_113 zc_113 zl_113 tk_114 eb_114 zc_114 zl_114 tk_115 eb_115 tk_116 eb_116 zc_116 zl_116 tk_117
attribute [go_sem] eb_117 zc_117 zl_117 tk_118 eb_118 zc_118 zl_118 tk_119 eb_119 zc_119 zl_119 tk_120 eb_120 zc_120 zl_120 tk_121 eb_121 zc_121 zl_121 tk_122 eb_122 zc_122 zl_122 tk_123 eb_123 zc_123 zl_123 tk_124 eb_124 zc_124 zl_124 tk_125 eb_125 zc_125 zl_125 fo_125_0 fo_125_1 fo_125_2 fo_125_3 sh_125
attribute [go_sem] eg_125 pls_125 tk_126 eb_126 zc_126 zl_126 fo_126_0 fo_126_1 fo_126_2 fo_126_3 sh_126 eg_126 pls_126 tk_127 eb_127 zc_127 zl_127 tk_128 eb_128 zc_128 zl_128 tk_129 eb_129 zc_129 zl_129 tk_130 eb_130 zc_130 zl_130 tk_131 eb_131 zc_131 zl_131 tk_132 eb_132 zc_132 zl_132 tk_133 eb_133 zc_133
attribute [go_sem] zl_133 tk_134 eb_134 zc_134 zl_134 tk_135 eb_135 zc_135 zl_135 tk_136 eb_136 zc_136 zl_136 tk_137 eb_137 zc_137 zl_137 tk_138 eb_138 tk_139 eb_139 zc_139 zl_139 tk_140 eb_140 zc_140 zl_140 tk_141 eb_141 zc_141 zl_141 fo_141_0 fo_141_1 fo_141_2 fo_141_3 sh_141 eg_141 pls_141 tk_142 eb_142
attribute [go_sem] zc_142 zl_142 fo_142_0 fo_142_1 fo_142_2 fo_142_3 sh_142 eg_142 pls_142 tk_143 eb_143 zc_143 zl_143 sh_143 eg_143 pls_143 tk_144 eb_144 zc_144 zl_144 fo_144_0 sh_144 eg_144 pls_144 tk_145 eb_145 zc_145 zl_145 fo_145_0 sh_145 eg_145 pls_145 tk_146 eb_146 zc_146 zl_146 tk_147 eb_147 zc_147 zl_147
attribute [go_sem] tk_148 eb_148 zc_148 zl_148 tk_149 eb_149 zc_149 zl_149 tk_150 eb_150 zc_150 zl_150 tk_151 eb_151 zc_151 zl_151 tk_152 eb_152 zc_152 zl_152 fo_152_0 fo_152_1 fo_152_2 fo_152_3 fo_152_4 fo_152_5 fo_152_6 fo_152_7 fo_152_8 fo_152_9 fo_152_10 sh_152 eg_152 pls_152 tk_153 eb_153 zc_153 zl_153 fo_153_0 fo_153_1
attribute [go_sem] fo_153_2 fo_153_3 fo_153_4 fo_153_5 fo_153_6 fo_153_7 fo_153_8 fo_153_9 fo_153_10 sh_153 eg_153 pls_153 tk_154 eb_154 zc_154 zl_154
attribute [go_sem] Try.underlying0 Try.underlying1 Try.underlying2 Try.underlying3 Try.underlying4 Try.underlying5 Try.underlying6 Try.underlying7 Try.underlying8 Try.underlying9 Try.underlying10 Try.underlying11 Try.underlying12 Try.underlying13 Try.underlying14 Try.underlying15 Try.underlying16 Try.underlying17 Try.underlying18 Try.underlying19 Try.underlying20 Try.underlying21 Try.underlying22 Try.underlying23 Try.underlying24 Try.underlying25 Try.underlying26 Try.underlying27 Try.underlying28 Try.underlying29 Try.underlying30 Try.underlying31 Try.underlying32 Try.underlying33 Try.underlying34 Try.underlying35 Try.underlying36 Try.underlying37 Try.underlying38 Try.underlying39
attribute [go_sem] Try.underlying40 Try.underlying41 Try.underlying42 Try.underlying43 Try.underlying44 Try.underlying45 Try.underlying46 Try.underlying47 Try.underlying48 Try.underlying49 Try.underlying50 Try.underlying51 Try.underlying52 Try.underlying53 Try.underlying54 Try.underlying55 Try.underlying56 Try.underlying57 Try.underlying58 Try.underlying59 Try.underlying60 Try.underlying61 Try.underlying62 Try.underlying63 Try.underlying64 Try.underlying65 Try.underlying66 Try.underlying67 Try.underlying68 Try.underlying69 Try.underlying70 Try.underlying71 Try.underlying72 Try.underlying73 Try.underlying74 Try.underlying75 Try.underlying76 Try.underlying77 Try.underlying78 Try.underlying79
attribute [go_sem] Try.underlying80 Try.underlying81 Try.underlying82 Try.underlying83 Try.underlying84 Try.underlying85 Try.underlying86 Try.underlying87 Try.underlying88 Try.underlying89 Try.underlying90 Try.underlying91 Try.underlying92 Try.underlying93 Try.underlying94 Try.underlying95 Try.underlying96 Try.underlying97 Try.underlying98 Try.underlying99 Try.underlying100 Try.underlying101 Try.underlying102 Try.underlying103 Try.underlying104 Try.underlying105 Try.underlying106 Try.underlying107 Try.underlying108 Try.underlying109 Try.underlying110 Try.underlying111 Try.underlying112 Try.underlying113 Try.underlying114 Try.underlying115 Try.underlying116 Try.underlying117 Try.underlying118 Try.underlying119
attribute [go_sem] Try.underlying120 Try.underlying121 Try.underlying122 Try.underlying123 Try.underlying124 Try.underlying125 Try.underlying126 Try.underlying127 Try.underlying128 Try.underlying129 Try.underlying130 Try.underlying131 Try.underlying132 Try.underlying133 Try.underlying134 Try.underlying135 Try.underlying136 Try.underlying137 Try.underlying138 Try.underlying139 Try.underlying140 Try.underlying141 Try.underlying142 Try.underlying143 Try.underlying144 Try.underlying145 Try.underlying146 Try.underlying147 Try.underlying148 Try.underlying149 Try.underlying150 Try.underlying151 Try.underlying152 Try.underlying153 Try.underlying154
end Go.Proofs.Ytmifapnmlhchlaa
