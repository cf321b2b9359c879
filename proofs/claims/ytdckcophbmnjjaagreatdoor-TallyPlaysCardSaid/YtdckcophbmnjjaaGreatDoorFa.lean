/- Closed facts about the program's types and functions. -/
import Derived.Test.YtdckcophbmnjjaaGreatDoorLg5
import Derived.Test.YtdckcophbmnjjaaGreatDoorProg
set_option linter.all false
namespace Go.Proofs.YtdckcophbmnjjaaGreatDoor
open Go Go.Proofs.YtdckcophbmnjjaaGreatDoor.Ab
open Go.Proofs (Tryz.prog)
theorem tk_2 : tk Tryz.prog 2 = some (false, 1) := by kernel_rfl
theorem tk_3 : tk Tryz.prog 3 = some (false, 1) := by kernel_rfl
theorem eb_3 : eb Tryz.prog 3 = some 8 := by kernel_rfl
theorem zc_3 : zc Tryz.prog 3 = some [.int .i64 0] := by kernel_rfl
theorem zl_3 : zl Tryz.prog 3 = some 1 := by kernel_rfl
theorem tk_4 : tk Tryz.prog 4 = some (false, 1) := by kernel_rfl
theorem tk_5 : tk Tryz.prog 5 = some (false, 1) := by kernel_rfl
theorem eb_5 : eb Tryz.prog 5 = some 1 := by kernel_rfl
theorem zc_5 : zc Tryz.prog 5 = some [.int .u8 0] := by kernel_rfl
theorem zl_5 : zl Tryz.prog 5 = some 1 := by kernel_rfl
theorem tk_22 : tk Tryz.prog 22 = some (false, 1) := by kernel_rfl
theorem tk_25 : tk Tryz.prog 25 = some (false, 1) := by kernel_rfl
theorem tk_26 : tk Tryz.prog 26 = some (false, 1) := by kernel_rfl
theorem zc_26 : zc Tryz.prog 26 = some [.int .i64 0] := by kernel_rfl
theorem tk_34 : tk Tryz.prog 34 = some (true, 4) := by kernel_rfl
theorem zc_34 : zc Tryz.prog 34 = some [.int .i64 0, .int .i64 0, .int .i64 0, .int .i64 0] := by kernel_rfl
theorem fo_34_0 : fo Tryz.prog 34 0 = some (0, false, 1) := by kernel_rfl
theorem fo_34_1 : fo Tryz.prog 34 1 = some (1, false, 1) := by kernel_rfl
theorem fo_34_2 : fo Tryz.prog 34 2 = some (2, false, 1) := by kernel_rfl
theorem sh_34 : Program.stoodInHeld Tryz.prog 34 = false := by kernel_rfl
theorem eg_34 : Program.eqGuardType Tryz.prog (Program.depth Tryz.prog) 34 = false := by kernel_rfl
theorem pls_34 : pls Tryz.prog 34 = some [(0, 1), (1, 1), (2, 1), (3, 1)] := by kernel_rfl
theorem tk_35 : tk Tryz.prog 35 = some (false, 1) := by kernel_rfl
theorem tk_37 : tk Tryz.prog 37 = some (true, 3) := by kernel_rfl
theorem zc_37 : zc Tryz.prog 37 = some [.int .i64 0, .int .i64 0, .int .i64 0] := by kernel_rfl
theorem fo_37_0 : fo Tryz.prog 37 0 = some (0, false, 1) := by kernel_rfl
theorem fo_37_1 : fo Tryz.prog 37 1 = some (1, false, 1) := by kernel_rfl
theorem fo_37_2 : fo Tryz.prog 37 2 = some (2, false, 1) := by kernel_rfl
theorem pls_37 : pls Tryz.prog 37 = some [(0, 1), (1, 1), (2, 1)] := by kernel_rfl
theorem tk_39 : tk Tryz.prog 39 = some (true, 10) := by kernel_rfl
theorem zc_39 : zc Tryz.prog 39 = some [.int .i64 0, .int .i64 0, .bool false, .int .i64 0, .int .i64 0, .int .i64 0, .int .i64 0, .int .i64 0, .int .i64 0, .int .i64 0] := by kernel_rfl
theorem fo_39_0 : fo Tryz.prog 39 0 = some (0, false, 1) := by kernel_rfl
theorem fo_39_1 : fo Tryz.prog 39 1 = some (1, false, 1) := by kernel_rfl
theorem fo_39_2 : fo Tryz.prog 39 2 = some (2, false, 1) := by kernel_rfl
theorem fo_39_3 : fo Tryz.prog 39 3 = some (3, true, 4) := by kernel_rfl
theorem fo_39_4 : fo Tryz.prog 39 4 = some (7, true, 3) := by kernel_rfl
theorem tk_46 : tk Tryz.prog 46 = some (false, 1) := by kernel_rfl
theorem tk_48 : tk Tryz.prog 48 = some (true, 7) := by kernel_rfl
theorem eb_48 : eb Tryz.prog 48 = some 56 := by kernel_rfl
theorem zc_48 : zc Tryz.prog 48 = some [.int .i64 0, .int .i64 0, .int .i64 0, .int .i64 0, .int .i64 0, .int .i64 0, .int .i64 0] := by kernel_rfl
theorem zl_48 : zl Tryz.prog 48 = some 7 := by kernel_rfl
theorem fo_48_0 : fo Tryz.prog 48 0 = some (0, false, 1) := by kernel_rfl
theorem fo_48_1 : fo Tryz.prog 48 1 = some (1, false, 1) := by kernel_rfl
theorem fo_48_2 : fo Tryz.prog 48 2 = some (2, false, 1) := by kernel_rfl
theorem fo_48_3 : fo Tryz.prog 48 3 = some (3, false, 1) := by kernel_rfl
theorem fo_48_4 : fo Tryz.prog 48 4 = some (4, false, 1) := by kernel_rfl
theorem fo_48_5 : fo Tryz.prog 48 5 = some (5, false, 1) := by kernel_rfl
theorem fo_48_6 : fo Tryz.prog 48 6 = some (6, false, 1) := by kernel_rfl
theorem pls_48 : pls Tryz.prog 48 = some [(0, 1), (1, 1), (2, 1), (3, 1), (4, 1), (5, 1), (6, 1)] := by kernel_rfl
theorem tk_52 : tk Tryz.prog 52 = some (false, 1) := by kernel_rfl
theorem tk_53 : tk Tryz.prog 53 = some (false, 1) := by kernel_rfl
theorem tk_54 : tk Tryz.prog 54 = some (true, 6) := by kernel_rfl
theorem tk_56 : tk Tryz.prog 56 = some (true, 10) := by kernel_rfl
theorem zc_56 : zc Tryz.prog 56 = some [.int .i64 0, .int .i64 0, .int .i64 0, .int .i64 0, .int .i64 0, .int .i64 0, .int .i64 0, .int .i64 0, .int .i64 0, .int .i64 0] := by kernel_rfl
theorem fo_56_0 : fo Tryz.prog 56 0 = some (0, false, 1) := by kernel_rfl
theorem fo_56_1 : fo Tryz.prog 56 1 = some (1, false, 1) := by kernel_rfl
theorem fo_56_2 : fo Tryz.prog 56 2 = some (2, true, 6) := by kernel_rfl
theorem fo_56_3 : fo Tryz.prog 56 3 = some (8, false, 1) := by kernel_rfl
theorem fo_56_4 : fo Tryz.prog 56 4 = some (9, false, 1) := by kernel_rfl
theorem sh_56 : Program.stoodInHeld Tryz.prog 56 = false := by kernel_rfl
theorem eg_56 : Program.eqGuardType Tryz.prog (Program.depth Tryz.prog) 56 = false := by kernel_rfl
theorem pls_56 : pls Tryz.prog 56 = some [(0, 1), (1, 1), (2, 6), (8, 1), (9, 1)] := by kernel_rfl
theorem zc_58 : zc Tryz.prog 58 = some [.int .i64 0, .int .i64 0, .int .i64 0, .int .i64 0, .int .i64 0, .int .i64 0, .int .i64 0, .int .i64 0, .int .i64 0, .int .i64 0, .bool false] := by kernel_rfl
theorem fo_58_0 : fo Tryz.prog 58 0 = some (0, true, 10) := by kernel_rfl
theorem fo_58_1 : fo Tryz.prog 58 1 = some (10, false, 1) := by kernel_rfl
theorem pls_58 : pls Tryz.prog 58 = some [(0, 10), (10, 1)] := by kernel_rfl
theorem zc_60 : zc Tryz.prog 60 = some [.nils, .nilmap, .int .i64 0, .int .i64 0, .int .i64 0, .int .i64 0, .int .i64 0, .int .i64 0, .int .i64 0, .int .i64 0, .int .i64 0, .int .i64 0, .bool false, .nilmap] := by kernel_rfl
theorem fo_60_0 : fo Tryz.prog 60 0 = some (0, false, 1) := by kernel_rfl
theorem fo_60_1 : fo Tryz.prog 60 1 = some (1, false, 1) := by kernel_rfl
theorem fo_60_2 : fo Tryz.prog 60 2 = some (2, true, 11) := by kernel_rfl
theorem fo_60_3 : fo Tryz.prog 60 3 = some (13, false, 1) := by kernel_rfl
theorem pls_60 : pls Tryz.prog 60 = some [(0, 1), (1, 1), (2, 11), (13, 1)] := by kernel_rfl
theorem tk_61 : tk Tryz.prog 61 = some (false, 1) := by kernel_rfl
theorem tk_62 : tk Tryz.prog 62 = some (false, 1) := by kernel_rfl
theorem zc_64 : zc Tryz.prog 64 = some [.nils, .nils] := by kernel_rfl
theorem fo_64_0 : fo Tryz.prog 64 0 = some (0, false, 1) := by kernel_rfl
theorem fo_64_1 : fo Tryz.prog 64 1 = some (1, false, 1) := by kernel_rfl
theorem pls_64 : pls Tryz.prog 64 = some [(0, 1), (1, 1)] := by kernel_rfl
theorem tk_76 : tk Tryz.prog 76 = some (true, 5) := by kernel_rfl
theorem zc_76 : zc Tryz.prog 76 = some [.int .i64 0, .int .i64 0, .int .i64 0, .int .i64 0, .int .i64 0] := by kernel_rfl
theorem fo_76_0 : fo Tryz.prog 76 0 = some (0, true, 4) := by kernel_rfl
theorem fo_76_1 : fo Tryz.prog 76 1 = some (4, false, 1) := by kernel_rfl
theorem pls_76 : pls Tryz.prog 76 = some [(0, 4), (4, 1)] := by kernel_rfl
theorem tk_79 : tk Tryz.prog 79 = some (true, 2) := by kernel_rfl
theorem zc_79 : zc Tryz.prog 79 = some [.nilp, .nilp] := by kernel_rfl
theorem pls_79 : pls Tryz.prog 79 = none := by kernel_rfl
theorem tk_83 : tk Tryz.prog 83 = some (true, 7) := by kernel_rfl
theorem eb_83 : eb Tryz.prog 83 = some 56 := by kernel_rfl
theorem zc_83 : zc Tryz.prog 83 = some [.int .i64 0, .int .i64 0, .int .i64 0, .int .i64 0, .int .i64 0, .int .i64 0, .int .i64 0] := by kernel_rfl
theorem zl_83 : zl Tryz.prog 83 = some 7 := by kernel_rfl
theorem fo_83_0 : fo Tryz.prog 83 0 = some (0, false, 1) := by kernel_rfl
theorem fo_83_1 : fo Tryz.prog 83 1 = some (1, true, 4) := by kernel_rfl
theorem fo_83_2 : fo Tryz.prog 83 2 = some (5, false, 1) := by kernel_rfl
theorem fo_83_3 : fo Tryz.prog 83 3 = some (6, false, 1) := by kernel_rfl
theorem pls_83 : pls Tryz.prog 83 = some [(0, 1), (1, 4), (5, 1), (6, 1)] := by kernel_rfl
theorem tk_90 : tk Tryz.prog 90 = some (false, 1) := by kernel_rfl
theorem tk_98 : tk Tryz.prog 98 = some (false, 1) := by kernel_rfl
theorem zc_98 : zc Tryz.prog 98 = some [.nilf] := by kernel_rfl
theorem tk_107 : tk Tryz.prog 107 = some (true, 4) := by kernel_rfl
theorem zc_107 : zc Tryz.prog 107 = some [.int .i64 0, .int .i64 0, .int .i64 0, .int .i64 0] := by kernel_rfl
theorem fo_107_0 : fo Tryz.prog 107 0 = some (0, false, 1) := by kernel_rfl
theorem fo_107_1 : fo Tryz.prog 107 1 = some (1, false, 1) := by kernel_rfl
theorem fo_107_2 : fo Tryz.prog 107 2 = some (2, false, 1) := by kernel_rfl
theorem fo_107_3 : fo Tryz.prog 107 3 = some (3, false, 1) := by kernel_rfl
theorem pls_107 : pls Tryz.prog 107 = some [(0, 1), (1, 1), (2, 1), (3, 1)] := by kernel_rfl
theorem tk_124 : tk Tryz.prog 124 = some (false, 1) := by kernel_rfl
theorem tk_126 : tk Tryz.prog 126 = some (false, 1) := by kernel_rfl
theorem zc_126 : zc Tryz.prog 126 = some [.int .u64 0] := by kernel_rfl
theorem tk_128 : tk Tryz.prog 128 = some (true, 2) := by kernel_rfl
theorem zc_128 : zc Tryz.prog 128 = some [.bool false, .int .u32 0] := by kernel_rfl
theorem fo_128_0 : fo Tryz.prog 128 0 = some (0, false, 1) := by kernel_rfl
theorem fo_128_1 : fo Tryz.prog 128 1 = some (1, false, 1) := by kernel_rfl
theorem pls_128 : pls Tryz.prog 128 = some [(0, 1), (1, 1)] := by kernel_rfl
theorem tk_131 : tk Tryz.prog 131 = some (true, 12) := by kernel_rfl
theorem zc_131 : zc Tryz.prog 131 = some [.bool false, .int .u32 0, .bool false, .int .i64 0, .int .u8 0, .int .u8 0, .int .u8 0, .int .u8 0, .int .u8 0, .int .u8 0, .int .u8 0, .int .u8 0] := by kernel_rfl
theorem fo_131_0 : fo Tryz.prog 131 0 = some (0, true, 2) := by kernel_rfl
theorem fo_131_1 : fo Tryz.prog 131 1 = some (2, false, 1) := by kernel_rfl
theorem fo_131_2 : fo Tryz.prog 131 2 = some (3, false, 1) := by kernel_rfl
theorem fo_131_3 : fo Tryz.prog 131 3 = some (4, true, 8) := by kernel_rfl
theorem pls_131 : pls Tryz.prog 131 = some [(0, 2), (2, 1), (3, 1), (4, 8)] := by kernel_rfl
theorem tk_132 : tk Tryz.prog 132 = some (false, 1) := by kernel_rfl
theorem zc_132 : zc Tryz.prog 132 = some [.nils] := by kernel_rfl
theorem tk_162 : tk Tryz.prog 162 = some (true, 16) := by kernel_rfl
theorem en_3 : enters Tryz.prog 3 = true := by kernel_rfl
theorem en_4 : enters Tryz.prog 4 = true := by kernel_rfl
theorem en_5 : enters Tryz.prog 5 = true := by kernel_rfl
theorem en_6 : enters Tryz.prog 6 = true := by kernel_rfl
theorem en_7 : enters Tryz.prog 7 = true := by kernel_rfl
theorem en_8 : enters Tryz.prog 8 = true := by kernel_rfl
theorem en_9 : enters Tryz.prog 9 = true := by kernel_rfl
theorem en_10 : enters Tryz.prog 10 = true := by kernel_rfl
theorem en_11 : enters Tryz.prog 11 = true := by kernel_rfl
theorem en_12 : enters Tryz.prog 12 = true := by kernel_rfl
theorem en_13 : enters Tryz.prog 13 = true := by kernel_rfl
theorem en_14 : enters Tryz.prog 14 = true := by kernel_rfl
theorem en_15 : enters Tryz.prog 15 = true := by kernel_rfl
theorem en_16 : enters Tryz.prog 16 = true := by kernel_rfl
theorem en_17 : enters Tryz.prog 17 = true := by kernel_rfl
theorem en_18 : enters Tryz.prog 18 = true := by kernel_rfl
theorem en_19 : enters Tryz.prog 19 = true := by kernel_rfl
theorem en_20 : enters Tryz.prog 20 = true := by kernel_rfl
theorem en_21 : enters Tryz.prog 21 = true := by kernel_rfl
theorem en_22 : enters Tryz.prog 22 = true := by kernel_rfl
theorem en_23 : enters Tryz.prog 23 = true := by kernel_rfl
theorem en_24 : enters Tryz.prog 24 = true := by kernel_rfl
theorem en_25 : enters Tryz.prog 25 = true := by kernel_rfl
theorem en_26 : enters Tryz.prog 26 = true := by kernel_rfl
theorem en_27 : enters Tryz.prog 27 = true := by kernel_rfl
theorem en_28 : enters Tryz.prog 28 = true := by kernel_rfl
theorem en_29 : enters Tryz.prog 29 = true := by kernel_rfl
theorem en_30 : enters Tryz.prog 30 = true := by kernel_rfl
theorem en_31 : enters Tryz.prog 31 = true := by kernel_rfl
theorem en_32 : enters Tryz.prog 32 = true := by kernel_rfl
theorem en_33 : enters Tryz.prog 33 = true := by kernel_rfl
theorem en_34 : enters Tryz.prog 34 = true := by kernel_rfl
theorem en_35 : enters Tryz.prog 35 = true := by kernel_rfl
theorem en_36 : enters Tryz.prog 36 = true := by kernel_rfl
theorem en_37 : enters Tryz.prog 37 = true := by kernel_rfl
theorem en_38 : enters Tryz.prog 38 = true := by kernel_rfl
theorem en_39 : enters Tryz.prog 39 = true := by kernel_rfl
theorem en_40 : enters Tryz.prog 40 = true := by kernel_rfl
theorem en_41 : enters Tryz.prog 41 = true := by kernel_rfl
theorem en_42 : enters Tryz.prog 42 = true := by kernel_rfl
theorem en_43 : enters Tryz.prog 43 = true := by kernel_rfl
theorem en_44 : enters Tryz.prog 44 = true := by kernel_rfl
theorem en_45 : enters Tryz.prog 45 = true := by kernel_rfl
theorem en_46 : enters Tryz.prog 46 = true := by kernel_rfl
theorem en_47 : enters Tryz.prog 47 = true := by kernel_rfl
theorem en_48 : enters Tryz.prog 48 = true := by kernel_rfl
theorem en_49 : enters Tryz.prog 49 = true := by kernel_rfl
theorem en_50 : enters Tryz.prog 50 = true := by kernel_rfl
theorem en_51 : enters Tryz.prog 51 = true := by kernel_rfl
theorem en_52 : enters Tryz.prog 52 = true := by kernel_rfl
theorem en_53 : enters Tryz.prog 53 = true := by kernel_rfl
theorem en_54 : enters Tryz.prog 54 = true := by kernel_rfl
theorem en_55 : enters Tryz.prog 55 = true := by kernel_rfl
theorem en_56 : enters Tryz.prog 56 = true := by kernel_rfl
theorem en_57 : enters Tryz.prog 57 = true := by kernel_rfl
theorem en_58 : enters Tryz.prog 58 = true := by kernel_rfl
theorem en_59 : enters Tryz.prog 59 = true := by kernel_rfl
theorem en_60 : enters Tryz.prog 60 = true := by kernel_rfl
theorem en_61 : enters Tryz.prog 61 = true := by kernel_rfl
theorem en_62 : enters Tryz.prog 62 = true := by kernel_rfl
theorem en_63 : enters Tryz.prog 63 = true := by kernel_rfl
theorem en_64 : enters Tryz.prog 64 = true := by kernel_rfl
theorem en_65 : enters Tryz.prog 65 = true := by kernel_rfl
theorem en_68 : enters Tryz.prog 68 = true := by kernel_rfl
theorem en_69 : enters Tryz.prog 69 = true := by kernel_rfl
theorem en_70 : enters Tryz.prog 70 = true := by kernel_rfl
theorem en_82 : enters Tryz.prog 82 = true := by kernel_rfl
theorem en_83 : enters Tryz.prog 83 = true := by kernel_rfl
theorem en_89 : enters Tryz.prog 89 = true := by kernel_rfl
theorem en_90 : enters Tryz.prog 90 = true := by kernel_rfl
theorem en_91 : enters Tryz.prog 91 = true := by kernel_rfl
theorem en_92 : enters Tryz.prog 92 = true := by kernel_rfl
theorem en_93 : enters Tryz.prog 93 = true := by kernel_rfl
theorem en_94 : enters Tryz.prog 94 = true := by kernel_rfl
theorem en_96 : enters Tryz.prog 96 = true := by kernel_rfl
theorem en_97 : enters Tryz.prog 97 = true := by kernel_rfl
theorem en_98 : enters Tryz.prog 98 = true := by kernel_rfl
theorem en_99 : enters Tryz.prog 99 = true := by kernel_rfl
theorem en_100 : enters Tryz.prog 100 = true := by kernel_rfl
theorem en_101 : enters Tryz.prog 101 = true := by kernel_rfl
theorem en_102 : enters Tryz.prog 102 = true := by kernel_rfl
theorem en_103 : enters Tryz.prog 103 = true := by kernel_rfl
theorem en_104 : enters Tryz.prog 104 = true := by kernel_rfl
theorem en_105 : enters Tryz.prog 105 = true := by kernel_rfl
theorem en_106 : enters Tryz.prog 106 = true := by kernel_rfl
theorem en_107 : enters Tryz.prog 107 = true := by kernel_rfl
theorem en_108 : enters Tryz.prog 108 = true := by kernel_rfl
theorem en_109 : enters Tryz.prog 109 = true := by kernel_rfl
theorem mixed : Tryz.prog.follows .mixedOrders = true := by kernel_rfl
attribute [go_sem] tk_2 tk_3 eb_3 zc_3 zl_3 tk_4 tk_5 eb_5 zc_5 zl_5

attribute [go_sem] tk_22
attribute [go_sem] tk_25 tk_26 zc_26
attribute [go_sem] tk_34 zc_34 fo_34_0 fo_34_1 fo_34_2 sh_34 eg_34 pls_34 tk_35 tk_37 zc_37 fo_37_0 fo_37_1 fo_37_2
attribute [go_sem] pls_37 tk_39 zc_39 fo_39_0 fo_39_1 fo_39_2 fo_39_3 fo_39_4
attribute [go_sem] tk_46 tk_48 eb_48 zc_48 zl_48 fo_48_0 fo_48_1 fo_48_2 fo_48_3 fo_48_4 fo_48_5 fo_48_6
attribute [go_sem] pls_48 tk_52 tk_53 tk_54
attribute [go_sem] tk_56 zc_56 fo_56_0 fo_56_1 fo_56_2 fo_56_3 fo_56_4 sh_56 eg_56 pls_56 zc_58 fo_58_0 fo_58_1 pls_58
attribute [go_sem] zc_60 fo_60_0 fo_60_1 fo_60_2 fo_60_3 pls_60 tk_61 tk_62 zc_64 fo_64_0 fo_64_1 pls_64

attribute [go_sem] tk_76 zc_76 fo_76_0 fo_76_1 pls_76 tk_79 zc_79 pls_79
attribute [go_sem] tk_83 eb_83 zc_83 zl_83 fo_83_0 fo_83_1 fo_83_2 fo_83_3 pls_83 tk_90
attribute [go_sem] tk_98 zc_98
attribute [go_sem] tk_107 zc_107 fo_107_0 fo_107_1 fo_107_2 fo_107_3
attribute [go_sem] pls_107
attribute [go_sem] tk_124 tk_126 zc_126
attribute [go_sem] tk_128 zc_128 fo_128_0 fo_128_1 pls_128 tk_131 zc_131 fo_131_0 fo_131_1 fo_131_2
attribute [go_sem] fo_131_3 pls_131 tk_132 zc_132


attribute [go_sem] tk_162



attribute [go_sem] Tryz.underlying0 Tryz.underlying1 Tryz.underlying2 Tryz.underlying3 Tryz.underlying4 Tryz.underlying5 Tryz.underlying6 Tryz.underlying7 Tryz.underlying8 Tryz.underlying9 Tryz.underlying10 Tryz.underlying11 Tryz.underlying12 Tryz.underlying13 Tryz.underlying14 Tryz.underlying15 Tryz.underlying16 Tryz.underlying17 Tryz.underlying18 Tryz.underlying19 Tryz.underlying20 Tryz.underlying21 Tryz.underlying22 Tryz.underlying23 Tryz.underlying24 Tryz.underlying25 Tryz.underlying26 Tryz.underlying27 Tryz.underlying28 Tryz.underlying29 Tryz.underlying30 Tryz.underlying31 Tryz.underlying32 Tryz.underlying33 Tryz.underlying34 Tryz.underlying35 Tryz.underlying36 Tryz.underlying37 Tryz.underlying38 Tryz.underlying39
attribute [go_sem] Tryz.underlying40 Tryz.underlying41 Tryz.underlying42 Tryz.underlying43 Tryz.underlying44 Tryz.underlying45 Tryz.underlying46 Tryz.underlying47 Tryz.underlying48 Tryz.underlying49 Tryz.underlying50 Tryz.underlying51 Tryz.underlying52 Tryz.underlying53 Tryz.underlying54 Tryz.underlying55 Tryz.underlying56 Tryz.underlying57 Tryz.underlying58 Tryz.underlying59 Tryz.underlying60 Tryz.underlying61 Tryz.underlying62 Tryz.underlying63 Tryz.underlying64 Tryz.underlying65 Tryz.underlying66 Tryz.underlying67 Tryz.underlying68 Tryz.underlying69 Tryz.underlying70 Tryz.underlying71 Tryz.underlying72 Tryz.underlying73 Tryz.underlying74 Tryz.underlying75 Tryz.underlying76 Tryz.underlying77 Tryz.underlying78 Tryz.underlying79
attribute [go_sem] Tryz.underlying80 Tryz.underlying81 Tryz.underlying82 Tryz.underlying83 Tryz.underlying84 Tryz.underlying85 Tryz.underlying86 Tryz.underlying87 Tryz.underlying88 Tryz.underlying89 Tryz.underlying90 Tryz.underlying91 Tryz.underlying92 Tryz.underlying93 Tryz.underlying94 Tryz.underlying95 Tryz.underlying96 Tryz.underlying97 Tryz.underlying98 Tryz.underlying99 Tryz.underlying100 Tryz.underlying101 Tryz.underlying102 Tryz.underlying103 Tryz.underlying104 Tryz.underlying105 Tryz.underlying106 Tryz.underlying107 Tryz.underlying108 Tryz.underlying109 Tryz.underlying110 Tryz.underlying111 Tryz.underlying112 Tryz.underlying113 Tryz.underlying114 Tryz.underlying115 Tryz.underlying116 Tryz.underlying117 Tryz.underlying118 Tryz.underlying119
attribute [go_sem] Tryz.underlying120 Tryz.underlying121 Tryz.underlying122 Tryz.underlying123 Tryz.underlying124 Tryz.underlying125 Tryz.underlying126 Tryz.underlying127 Tryz.underlying128 Tryz.underlying129 Tryz.underlying130 Tryz.underlying131 Tryz.underlying132 Tryz.underlying133 Tryz.underlying134 Tryz.underlying135 Tryz.underlying136 Tryz.underlying137 Tryz.underlying138 Tryz.underlying139 Tryz.underlying140 Tryz.underlying141 Tryz.underlying142 Tryz.underlying143 Tryz.underlying144 Tryz.underlying145 Tryz.underlying146 Tryz.underlying147 Tryz.underlying148 Tryz.underlying149 Tryz.underlying150 Tryz.underlying151 Tryz.underlying152 Tryz.underlying153 Tryz.underlying154 Tryz.underlying155 Tryz.underlying156 Tryz.underlying157 Tryz.underlying158 Tryz.underlying159
attribute [go_sem] Tryz.underlying160 Tryz.underlying161 Tryz.underlying162 Tryz.underlying163 Tryz.underlying164 Tryz.underlying165 Tryz.underlying166 Tryz.underlying167 Tryz.underlying168 Tryz.underlying169 Tryz.underlying170 Tryz.underlying171 Tryz.underlying172 Tryz.underlying173 Tryz.underlying174 Tryz.underlying175 Tryz.underlying176 Tryz.underlying177 Tryz.underlying178 Tryz.underlying179 Tryz.underlying180 Tryz.underlying181
theorem zv_61 : zv Tryz.prog 61 = some ((.nilp)) := by kernel_rfl
theorem zv_76 : zv Tryz.prog 76 = some (.agg [.int .i64 0, .int .i64 0, .int .i64 0, .int .i64 0, .int .i64 0]) := by kernel_rfl
attribute [go_sem] zv_61 zv_76
end Go.Proofs.YtdckcophbmnjjaaGreatDoor
