/- Facts of the types and functions of this translation. No conditions. -/
import Derived.Test.YtbgfiflnfndckaaDoorProg
import Derived.Test.YtbgfiflnfndckaaDoorLgb
namespace Go.Proofs.YtbgfiflnfndckaaDoor.Lift
open Go
@[go_sem] theorem ty2_0 : szT Tryd.prog 2 = some 1 := by kernel_rfl
@[go_sem] theorem ty2_1 : btT Tryd.prog 2 = some 8 := by kernel_rfl
@[go_sem] theorem ty2_2 : aggT Tryd.prog 2 = some false := by kernel_rfl
@[go_sem] theorem ty2_3 : elT Tryd.prog 2 = none := by kernel_rfl
@[go_sem] theorem ty2_4 : isStr Tryd.prog 2 = false := by kernel_rfl
@[go_sem] theorem ty2_5 : isSl Tryd.prog 2 = false := by kernel_rfl
@[go_sem] theorem ty2_6 : isBl Tryd.prog 2 = false := by kernel_rfl
@[go_sem] theorem ty2_7 : ikT Tryd.prog 2 = some .i64 := by kernel_rfl
@[go_sem] theorem ty2_8 : isTy Tryd.prog 2 = true := by kernel_rfl
@[go_sem] theorem ty2_9 : Tryd.prog.concrete 2 = true := by kernel_rfl
@[go_sem] theorem ty2_10 : zrT Tryd.prog 2 = some [(.int .i64 0)] := by kernel_rfl
@[go_sem] theorem ty3_0 : szT Tryd.prog 3 = some 1 := by kernel_rfl
@[go_sem] theorem ty3_1 : btT Tryd.prog 3 = some 8 := by kernel_rfl
@[go_sem] theorem ty3_2 : aggT Tryd.prog 3 = some false := by kernel_rfl
@[go_sem] theorem ty3_3 : elT Tryd.prog 3 = none := by kernel_rfl
@[go_sem] theorem ty3_4 : isStr Tryd.prog 3 = false := by kernel_rfl
@[go_sem] theorem ty3_5 : isSl Tryd.prog 3 = false := by kernel_rfl
@[go_sem] theorem ty3_6 : isBl Tryd.prog 3 = false := by kernel_rfl
@[go_sem] theorem ty3_7 : ikT Tryd.prog 3 = some .i64 := by kernel_rfl
@[go_sem] theorem ty3_8 : isTy Tryd.prog 3 = true := by kernel_rfl
@[go_sem] theorem ty3_9 : Tryd.prog.concrete 3 = true := by kernel_rfl
@[go_sem] theorem ty3_10 : zrT Tryd.prog 3 = some [(.int .i64 0)] := by kernel_rfl
@[go_sem] theorem ty4_0 : szT Tryd.prog 4 = some 1 := by kernel_rfl
@[go_sem] theorem ty4_1 : btT Tryd.prog 4 = some 1 := by kernel_rfl
@[go_sem] theorem ty4_2 : aggT Tryd.prog 4 = some false := by kernel_rfl
@[go_sem] theorem ty4_3 : elT Tryd.prog 4 = none := by kernel_rfl
@[go_sem] theorem ty4_4 : isStr Tryd.prog 4 = false := by kernel_rfl
@[go_sem] theorem ty4_5 : isSl Tryd.prog 4 = false := by kernel_rfl
@[go_sem] theorem ty4_6 : isBl Tryd.prog 4 = true := by kernel_rfl
@[go_sem] theorem ty4_7 : ikT Tryd.prog 4 = none := by kernel_rfl
@[go_sem] theorem ty4_8 : isTy Tryd.prog 4 = true := by kernel_rfl
@[go_sem] theorem ty4_9 : Tryd.prog.concrete 4 = true := by kernel_rfl
@[go_sem] theorem ty4_10 : zrT Tryd.prog 4 = some [(.bool false)] := by kernel_rfl
@[go_sem] theorem ty5_0 : szT Tryd.prog 5 = some 1 := by kernel_rfl
@[go_sem] theorem ty5_1 : btT Tryd.prog 5 = some 1 := by kernel_rfl
@[go_sem] theorem ty5_2 : aggT Tryd.prog 5 = some false := by kernel_rfl
@[go_sem] theorem ty5_3 : elT Tryd.prog 5 = none := by kernel_rfl
@[go_sem] theorem ty5_4 : isStr Tryd.prog 5 = false := by kernel_rfl
@[go_sem] theorem ty5_5 : isSl Tryd.prog 5 = false := by kernel_rfl
@[go_sem] theorem ty5_6 : isBl Tryd.prog 5 = false := by kernel_rfl
@[go_sem] theorem ty5_7 : ikT Tryd.prog 5 = some .u8 := by kernel_rfl
@[go_sem] theorem ty5_8 : isTy Tryd.prog 5 = true := by kernel_rfl
@[go_sem] theorem ty5_9 : Tryd.prog.concrete 5 = true := by kernel_rfl
@[go_sem] theorem ty5_10 : zrT Tryd.prog 5 = some [(.int .u8 0)] := by kernel_rfl
@[go_sem] theorem ty6_0 : szT Tryd.prog 6 = some 1 := by kernel_rfl
@[go_sem] theorem ty6_1 : btT Tryd.prog 6 = some 1 := by kernel_rfl
@[go_sem] theorem ty6_2 : aggT Tryd.prog 6 = some false := by kernel_rfl
@[go_sem] theorem ty6_3 : elT Tryd.prog 6 = none := by kernel_rfl
@[go_sem] theorem ty6_4 : isStr Tryd.prog 6 = false := by kernel_rfl
@[go_sem] theorem ty6_5 : isSl Tryd.prog 6 = false := by kernel_rfl
@[go_sem] theorem ty6_6 : isBl Tryd.prog 6 = false := by kernel_rfl
@[go_sem] theorem ty6_7 : ikT Tryd.prog 6 = some .u8 := by kernel_rfl
@[go_sem] theorem ty6_8 : isTy Tryd.prog 6 = true := by kernel_rfl
@[go_sem] theorem ty6_9 : Tryd.prog.concrete 6 = true := by kernel_rfl
@[go_sem] theorem ty6_10 : zrT Tryd.prog 6 = some [(.int .u8 0)] := by kernel_rfl
@[go_sem] theorem ty7_0 : szT Tryd.prog 7 = some 4 := by kernel_rfl
@[go_sem] theorem ty7_1 : btT Tryd.prog 7 = some 24 := by kernel_rfl
@[go_sem] theorem ty7_2 : aggT Tryd.prog 7 = some true := by kernel_rfl
@[go_sem] theorem ty7_3 : elT Tryd.prog 7 = none := by kernel_rfl
@[go_sem] theorem ty7_4 : isStr Tryd.prog 7 = false := by kernel_rfl
@[go_sem] theorem ty7_5 : isSl Tryd.prog 7 = false := by kernel_rfl
@[go_sem] theorem ty7_6 : isBl Tryd.prog 7 = false := by kernel_rfl
@[go_sem] theorem ty7_7 : ikT Tryd.prog 7 = none := by kernel_rfl
@[go_sem] theorem ty7_8 : isTy Tryd.prog 7 = true := by kernel_rfl
@[go_sem] theorem ty7_9 : Tryd.prog.concrete 7 = true := by kernel_rfl
@[go_sem] theorem ty7_10 : zrT Tryd.prog 7 = some [(.int .i64 0), (.int .i64 0), (.bool false), (.int .u8 0)] := by kernel_rfl
@[go_sem] theorem ty7_11 : plT Tryd.prog 7 = some [(0, 1), (1, 1), (2, 1), (3, 1)] := by kernel_rfl
@[go_sem] theorem ty7_12 : fdT Tryd.prog 7 0 = some (0, 2) := by kernel_rfl
@[go_sem] theorem ty7_13 : fdT Tryd.prog 7 1 = some (1, 3) := by kernel_rfl
@[go_sem] theorem ty7_14 : fdT Tryd.prog 7 2 = some (2, 4) := by kernel_rfl
@[go_sem] theorem ty7_15 : fdT Tryd.prog 7 3 = some (3, 6) := by kernel_rfl
@[go_sem] theorem ty8_0 : szT Tryd.prog 8 = some 4 := by kernel_rfl
@[go_sem] theorem ty8_1 : btT Tryd.prog 8 = some 24 := by kernel_rfl
@[go_sem] theorem ty8_2 : aggT Tryd.prog 8 = some true := by kernel_rfl
@[go_sem] theorem ty8_3 : elT Tryd.prog 8 = none := by kernel_rfl
@[go_sem] theorem ty8_4 : isStr Tryd.prog 8 = false := by kernel_rfl
@[go_sem] theorem ty8_5 : isSl Tryd.prog 8 = false := by kernel_rfl
@[go_sem] theorem ty8_6 : isBl Tryd.prog 8 = false := by kernel_rfl
@[go_sem] theorem ty8_7 : ikT Tryd.prog 8 = none := by kernel_rfl
@[go_sem] theorem ty8_8 : isTy Tryd.prog 8 = true := by kernel_rfl
@[go_sem] theorem ty8_9 : Tryd.prog.concrete 8 = true := by kernel_rfl
@[go_sem] theorem ty8_10 : zrT Tryd.prog 8 = some [(.int .i64 0), (.int .i64 0), (.bool false), (.int .u8 0)] := by kernel_rfl
@[go_sem] theorem ty8_11 : plT Tryd.prog 8 = some [(0, 1), (1, 1), (2, 1), (3, 1)] := by kernel_rfl
@[go_sem] theorem ty8_12 : fdT Tryd.prog 8 0 = some (0, 2) := by kernel_rfl
@[go_sem] theorem ty8_13 : fdT Tryd.prog 8 1 = some (1, 3) := by kernel_rfl
@[go_sem] theorem ty8_14 : fdT Tryd.prog 8 2 = some (2, 4) := by kernel_rfl
@[go_sem] theorem ty8_15 : fdT Tryd.prog 8 3 = some (3, 6) := by kernel_rfl
@[go_sem] theorem ty9_0 : szT Tryd.prog 9 = some 1 := by kernel_rfl
@[go_sem] theorem ty9_1 : btT Tryd.prog 9 = some 16 := by kernel_rfl
@[go_sem] theorem ty9_2 : aggT Tryd.prog 9 = some false := by kernel_rfl
@[go_sem] theorem ty9_3 : elT Tryd.prog 9 = none := by kernel_rfl
@[go_sem] theorem ty9_4 : isStr Tryd.prog 9 = true := by kernel_rfl
@[go_sem] theorem ty9_5 : isSl Tryd.prog 9 = false := by kernel_rfl
@[go_sem] theorem ty9_6 : isBl Tryd.prog 9 = false := by kernel_rfl
@[go_sem] theorem ty9_7 : ikT Tryd.prog 9 = none := by kernel_rfl
@[go_sem] theorem ty9_8 : isTy Tryd.prog 9 = true := by kernel_rfl
@[go_sem] theorem ty9_9 : Tryd.prog.concrete 9 = true := by kernel_rfl
@[go_sem] theorem ty9_10 : zrT Tryd.prog 9 = some [(.string ByteArray.empty)] := by kernel_rfl
@[go_sem] theorem ty10_0 : szT Tryd.prog 10 = some 1 := by kernel_rfl
@[go_sem] theorem ty10_1 : btT Tryd.prog 10 = some 16 := by kernel_rfl
@[go_sem] theorem ty10_2 : aggT Tryd.prog 10 = some false := by kernel_rfl
@[go_sem] theorem ty10_3 : elT Tryd.prog 10 = none := by kernel_rfl
@[go_sem] theorem ty10_4 : isStr Tryd.prog 10 = true := by kernel_rfl
@[go_sem] theorem ty10_5 : isSl Tryd.prog 10 = false := by kernel_rfl
@[go_sem] theorem ty10_6 : isBl Tryd.prog 10 = false := by kernel_rfl
@[go_sem] theorem ty10_7 : ikT Tryd.prog 10 = none := by kernel_rfl
@[go_sem] theorem ty10_8 : isTy Tryd.prog 10 = true := by kernel_rfl
@[go_sem] theorem ty10_9 : Tryd.prog.concrete 10 = true := by kernel_rfl
@[go_sem] theorem ty10_10 : zrT Tryd.prog 10 = some [(.string ByteArray.empty)] := by kernel_rfl
@[go_sem] theorem ty11_0 : szT Tryd.prog 11 = some 1 := by kernel_rfl
@[go_sem] theorem ty11_1 : btT Tryd.prog 11 = some 16 := by kernel_rfl
@[go_sem] theorem ty11_2 : aggT Tryd.prog 11 = some false := by kernel_rfl
@[go_sem] theorem ty11_3 : elT Tryd.prog 11 = none := by kernel_rfl
@[go_sem] theorem ty11_4 : isStr Tryd.prog 11 = true := by kernel_rfl
@[go_sem] theorem ty11_5 : isSl Tryd.prog 11 = false := by kernel_rfl
@[go_sem] theorem ty11_6 : isBl Tryd.prog 11 = false := by kernel_rfl
@[go_sem] theorem ty11_7 : ikT Tryd.prog 11 = none := by kernel_rfl
@[go_sem] theorem ty11_8 : isTy Tryd.prog 11 = true := by kernel_rfl
@[go_sem] theorem ty11_9 : Tryd.prog.concrete 11 = true := by kernel_rfl
@[go_sem] theorem ty11_10 : zrT Tryd.prog 11 = some [(.string ByteArray.empty)] := by kernel_rfl
@[go_sem] theorem ty12_0 : szT Tryd.prog 12 = some 1 := by kernel_rfl
@[go_sem] theorem ty12_1 : btT Tryd.prog 12 = some 8 := by kernel_rfl
@[go_sem] theorem ty12_2 : aggT Tryd.prog 12 = some false := by kernel_rfl
@[go_sem] theorem ty12_3 : elT Tryd.prog 12 = none := by kernel_rfl
@[go_sem] theorem ty12_4 : isStr Tryd.prog 12 = false := by kernel_rfl
@[go_sem] theorem ty12_5 : isSl Tryd.prog 12 = false := by kernel_rfl
@[go_sem] theorem ty12_6 : isBl Tryd.prog 12 = false := by kernel_rfl
@[go_sem] theorem ty12_7 : ikT Tryd.prog 12 = some .u64 := by kernel_rfl
@[go_sem] theorem ty12_8 : isTy Tryd.prog 12 = true := by kernel_rfl
@[go_sem] theorem ty12_9 : Tryd.prog.concrete 12 = true := by kernel_rfl
@[go_sem] theorem ty12_10 : zrT Tryd.prog 12 = some [(.int .u64 0)] := by kernel_rfl
@[go_sem] theorem ty13_0 : szT Tryd.prog 13 = some 2 := by kernel_rfl
@[go_sem] theorem ty13_1 : btT Tryd.prog 13 = some 24 := by kernel_rfl
@[go_sem] theorem ty13_2 : aggT Tryd.prog 13 = some true := by kernel_rfl
@[go_sem] theorem ty13_3 : elT Tryd.prog 13 = none := by kernel_rfl
@[go_sem] theorem ty13_4 : isStr Tryd.prog 13 = false := by kernel_rfl
@[go_sem] theorem ty13_5 : isSl Tryd.prog 13 = false := by kernel_rfl
@[go_sem] theorem ty13_6 : isBl Tryd.prog 13 = false := by kernel_rfl
@[go_sem] theorem ty13_7 : ikT Tryd.prog 13 = none := by kernel_rfl
@[go_sem] theorem ty13_8 : isTy Tryd.prog 13 = true := by kernel_rfl
@[go_sem] theorem ty13_9 : Tryd.prog.concrete 13 = true := by kernel_rfl
@[go_sem] theorem ty13_10 : zrT Tryd.prog 13 = some [(.string ByteArray.empty), (.int .u64 0)] := by kernel_rfl
@[go_sem] theorem ty13_11 : plT Tryd.prog 13 = some [(0, 1), (1, 1)] := by kernel_rfl
@[go_sem] theorem ty13_12 : fdT Tryd.prog 13 0 = some (0, 9) := by kernel_rfl
@[go_sem] theorem ty13_13 : fdT Tryd.prog 13 1 = some (1, 12) := by kernel_rfl
@[go_sem] theorem ty14_0 : szT Tryd.prog 14 = some 2 := by kernel_rfl
@[go_sem] theorem ty14_1 : btT Tryd.prog 14 = some 24 := by kernel_rfl
@[go_sem] theorem ty14_2 : aggT Tryd.prog 14 = some true := by kernel_rfl
@[go_sem] theorem ty14_3 : elT Tryd.prog 14 = none := by kernel_rfl
@[go_sem] theorem ty14_4 : isStr Tryd.prog 14 = false := by kernel_rfl
@[go_sem] theorem ty14_5 : isSl Tryd.prog 14 = false := by kernel_rfl
@[go_sem] theorem ty14_6 : isBl Tryd.prog 14 = false := by kernel_rfl
@[go_sem] theorem ty14_7 : ikT Tryd.prog 14 = none := by kernel_rfl
@[go_sem] theorem ty14_8 : isTy Tryd.prog 14 = true := by kernel_rfl
@[go_sem] theorem ty14_9 : Tryd.prog.concrete 14 = true := by kernel_rfl
@[go_sem] theorem ty14_10 : zrT Tryd.prog 14 = some [(.string ByteArray.empty), (.int .u64 0)] := by kernel_rfl
@[go_sem] theorem ty14_11 : plT Tryd.prog 14 = some [(0, 1), (1, 1)] := by kernel_rfl
@[go_sem] theorem ty14_12 : fdT Tryd.prog 14 0 = some (0, 9) := by kernel_rfl
@[go_sem] theorem ty14_13 : fdT Tryd.prog 14 1 = some (1, 12) := by kernel_rfl
@[go_sem] theorem ty15_0 : szT Tryd.prog 15 = some 1 := by kernel_rfl
@[go_sem] theorem ty15_1 : btT Tryd.prog 15 = some 8 := by kernel_rfl
@[go_sem] theorem ty15_2 : aggT Tryd.prog 15 = some false := by kernel_rfl
@[go_sem] theorem ty15_3 : elT Tryd.prog 15 = none := by kernel_rfl
@[go_sem] theorem ty15_4 : isStr Tryd.prog 15 = false := by kernel_rfl
@[go_sem] theorem ty15_5 : isSl Tryd.prog 15 = false := by kernel_rfl
@[go_sem] theorem ty15_6 : isBl Tryd.prog 15 = false := by kernel_rfl
@[go_sem] theorem ty15_7 : ikT Tryd.prog 15 = none := by kernel_rfl
@[go_sem] theorem ty15_8 : isTy Tryd.prog 15 = true := by kernel_rfl
@[go_sem] theorem ty15_9 : Tryd.prog.concrete 15 = true := by kernel_rfl
@[go_sem] theorem ty15_10 : zrT Tryd.prog 15 = some [(.pointer none)] := by kernel_rfl
@[go_sem] theorem ty16_0 : szT Tryd.prog 16 = some 1 := by kernel_rfl
@[go_sem] theorem ty16_1 : btT Tryd.prog 16 = some 8 := by kernel_rfl
@[go_sem] theorem ty16_2 : aggT Tryd.prog 16 = some false := by kernel_rfl
@[go_sem] theorem ty16_3 : elT Tryd.prog 16 = none := by kernel_rfl
@[go_sem] theorem ty16_4 : isStr Tryd.prog 16 = false := by kernel_rfl
@[go_sem] theorem ty16_5 : isSl Tryd.prog 16 = false := by kernel_rfl
@[go_sem] theorem ty16_6 : isBl Tryd.prog 16 = false := by kernel_rfl
@[go_sem] theorem ty16_7 : ikT Tryd.prog 16 = none := by kernel_rfl
@[go_sem] theorem ty16_8 : isTy Tryd.prog 16 = true := by kernel_rfl
@[go_sem] theorem ty16_9 : Tryd.prog.concrete 16 = true := by kernel_rfl
@[go_sem] theorem ty16_10 : zrT Tryd.prog 16 = some [(.pointer none)] := by kernel_rfl
@[go_sem] theorem ty17_0 : szT Tryd.prog 17 = some 1 := by kernel_rfl
@[go_sem] theorem ty17_1 : btT Tryd.prog 17 = some 8 := by kernel_rfl
@[go_sem] theorem ty17_2 : aggT Tryd.prog 17 = some false := by kernel_rfl
@[go_sem] theorem ty17_3 : elT Tryd.prog 17 = none := by kernel_rfl
@[go_sem] theorem ty17_4 : isStr Tryd.prog 17 = false := by kernel_rfl
@[go_sem] theorem ty17_5 : isSl Tryd.prog 17 = false := by kernel_rfl
@[go_sem] theorem ty17_6 : isBl Tryd.prog 17 = false := by kernel_rfl
@[go_sem] theorem ty17_7 : ikT Tryd.prog 17 = none := by kernel_rfl
@[go_sem] theorem ty17_8 : isTy Tryd.prog 17 = true := by kernel_rfl
@[go_sem] theorem ty17_9 : Tryd.prog.concrete 17 = true := by kernel_rfl
@[go_sem] theorem ty17_10 : zrT Tryd.prog 17 = some [(.pointer none)] := by kernel_rfl
@[go_sem] theorem ty18_0 : szT Tryd.prog 18 = some 1 := by kernel_rfl
@[go_sem] theorem ty18_1 : btT Tryd.prog 18 = some 8 := by kernel_rfl
@[go_sem] theorem ty18_2 : aggT Tryd.prog 18 = some true := by kernel_rfl
@[go_sem] theorem ty18_3 : elT Tryd.prog 18 = none := by kernel_rfl
@[go_sem] theorem ty18_4 : isStr Tryd.prog 18 = false := by kernel_rfl
@[go_sem] theorem ty18_5 : isSl Tryd.prog 18 = false := by kernel_rfl
@[go_sem] theorem ty18_6 : isBl Tryd.prog 18 = false := by kernel_rfl
@[go_sem] theorem ty18_7 : ikT Tryd.prog 18 = none := by kernel_rfl
@[go_sem] theorem ty18_8 : isTy Tryd.prog 18 = true := by kernel_rfl
@[go_sem] theorem ty18_9 : Tryd.prog.concrete 18 = true := by kernel_rfl
@[go_sem] theorem ty18_10 : zrT Tryd.prog 18 = some [(.pointer none)] := by kernel_rfl
@[go_sem] theorem ty18_11 : plT Tryd.prog 18 = some [(0, 1)] := by kernel_rfl
@[go_sem] theorem ty18_12 : fdT Tryd.prog 18 0 = some (0, 17) := by kernel_rfl
@[go_sem] theorem ty19_0 : szT Tryd.prog 19 = some 1 := by kernel_rfl
@[go_sem] theorem ty19_1 : btT Tryd.prog 19 = some 8 := by kernel_rfl
@[go_sem] theorem ty19_2 : aggT Tryd.prog 19 = some true := by kernel_rfl
@[go_sem] theorem ty19_3 : elT Tryd.prog 19 = none := by kernel_rfl
@[go_sem] theorem ty19_4 : isStr Tryd.prog 19 = false := by kernel_rfl
@[go_sem] theorem ty19_5 : isSl Tryd.prog 19 = false := by kernel_rfl
@[go_sem] theorem ty19_6 : isBl Tryd.prog 19 = false := by kernel_rfl
@[go_sem] theorem ty19_7 : ikT Tryd.prog 19 = none := by kernel_rfl
@[go_sem] theorem ty19_8 : isTy Tryd.prog 19 = true := by kernel_rfl
@[go_sem] theorem ty19_9 : Tryd.prog.concrete 19 = true := by kernel_rfl
@[go_sem] theorem ty19_10 : zrT Tryd.prog 19 = some [(.pointer none)] := by kernel_rfl
@[go_sem] theorem ty19_11 : plT Tryd.prog 19 = some [(0, 1)] := by kernel_rfl
@[go_sem] theorem ty19_12 : fdT Tryd.prog 19 0 = some (0, 17) := by kernel_rfl
@[go_sem] theorem ty20_0 : szT Tryd.prog 20 = some 1 := by kernel_rfl
@[go_sem] theorem ty20_1 : btT Tryd.prog 20 = some 16 := by kernel_rfl
@[go_sem] theorem ty20_2 : aggT Tryd.prog 20 = some false := by kernel_rfl
@[go_sem] theorem ty20_3 : elT Tryd.prog 20 = none := by kernel_rfl
@[go_sem] theorem ty20_4 : isStr Tryd.prog 20 = false := by kernel_rfl
@[go_sem] theorem ty20_5 : isSl Tryd.prog 20 = false := by kernel_rfl
@[go_sem] theorem ty20_6 : isBl Tryd.prog 20 = false := by kernel_rfl
@[go_sem] theorem ty20_7 : ikT Tryd.prog 20 = none := by kernel_rfl
@[go_sem] theorem ty20_8 : isTy Tryd.prog 20 = true := by kernel_rfl
@[go_sem] theorem ty20_9 : Tryd.prog.concrete 20 = false := by kernel_rfl
@[go_sem] theorem ty20_10 : zrT Tryd.prog 20 = some [.nilIface] := by kernel_rfl
@[go_sem] theorem ty21_0 : szT Tryd.prog 21 = some 1 := by kernel_rfl
@[go_sem] theorem ty21_1 : btT Tryd.prog 21 = some 4 := by kernel_rfl
@[go_sem] theorem ty21_2 : aggT Tryd.prog 21 = some false := by kernel_rfl
@[go_sem] theorem ty21_3 : elT Tryd.prog 21 = none := by kernel_rfl
@[go_sem] theorem ty21_4 : isStr Tryd.prog 21 = false := by kernel_rfl
@[go_sem] theorem ty21_5 : isSl Tryd.prog 21 = false := by kernel_rfl
@[go_sem] theorem ty21_6 : isBl Tryd.prog 21 = false := by kernel_rfl
@[go_sem] theorem ty21_7 : ikT Tryd.prog 21 = some .i32 := by kernel_rfl
@[go_sem] theorem ty21_8 : isTy Tryd.prog 21 = true := by kernel_rfl
@[go_sem] theorem ty21_9 : Tryd.prog.concrete 21 = true := by kernel_rfl
@[go_sem] theorem ty21_10 : zrT Tryd.prog 21 = some [(.int .i32 0)] := by kernel_rfl
@[go_sem] theorem ty22_0 : szT Tryd.prog 22 = some 1 := by kernel_rfl
@[go_sem] theorem ty22_1 : btT Tryd.prog 22 = some 1 := by kernel_rfl
@[go_sem] theorem ty22_2 : aggT Tryd.prog 22 = some false := by kernel_rfl
@[go_sem] theorem ty22_3 : elT Tryd.prog 22 = none := by kernel_rfl
@[go_sem] theorem ty22_4 : isStr Tryd.prog 22 = false := by kernel_rfl
@[go_sem] theorem ty22_5 : isSl Tryd.prog 22 = false := by kernel_rfl
@[go_sem] theorem ty22_6 : isBl Tryd.prog 22 = false := by kernel_rfl
@[go_sem] theorem ty22_7 : ikT Tryd.prog 22 = some .u8 := by kernel_rfl
@[go_sem] theorem ty22_8 : isTy Tryd.prog 22 = true := by kernel_rfl
@[go_sem] theorem ty22_9 : Tryd.prog.concrete 22 = true := by kernel_rfl
@[go_sem] theorem ty22_10 : zrT Tryd.prog 22 = some [(.int .u8 0)] := by kernel_rfl
@[go_sem] theorem ty23_0 : szT Tryd.prog 23 = some 1 := by kernel_rfl
@[go_sem] theorem ty23_1 : btT Tryd.prog 23 = some 8 := by kernel_rfl
@[go_sem] theorem ty23_2 : aggT Tryd.prog 23 = some false := by kernel_rfl
@[go_sem] theorem ty23_3 : elT Tryd.prog 23 = none := by kernel_rfl
@[go_sem] theorem ty23_4 : isStr Tryd.prog 23 = false := by kernel_rfl
@[go_sem] theorem ty23_5 : isSl Tryd.prog 23 = false := by kernel_rfl
@[go_sem] theorem ty23_6 : isBl Tryd.prog 23 = false := by kernel_rfl
@[go_sem] theorem ty23_7 : ikT Tryd.prog 23 = none := by kernel_rfl
@[go_sem] theorem ty23_8 : isTy Tryd.prog 23 = true := by kernel_rfl
@[go_sem] theorem ty23_9 : Tryd.prog.concrete 23 = true := by kernel_rfl
@[go_sem] theorem ty23_10 : zrT Tryd.prog 23 = some [(.float .f64 0)] := by kernel_rfl
@[go_sem] theorem ty24_0 : szT Tryd.prog 24 = some 1 := by kernel_rfl
@[go_sem] theorem ty24_1 : btT Tryd.prog 24 = some 24 := by kernel_rfl
@[go_sem] theorem ty24_2 : aggT Tryd.prog 24 = some false := by kernel_rfl
@[go_sem] theorem ty24_3 : elT Tryd.prog 24 = some 27 := by kernel_rfl
@[go_sem] theorem ty24_4 : isStr Tryd.prog 24 = false := by kernel_rfl
@[go_sem] theorem ty24_5 : isSl Tryd.prog 24 = true := by kernel_rfl
@[go_sem] theorem ty24_6 : isBl Tryd.prog 24 = false := by kernel_rfl
@[go_sem] theorem ty24_7 : ikT Tryd.prog 24 = none := by kernel_rfl
@[go_sem] theorem ty24_8 : isTy Tryd.prog 24 = true := by kernel_rfl
@[go_sem] theorem ty24_9 : Tryd.prog.concrete 24 = true := by kernel_rfl
@[go_sem] theorem ty24_10 : zrT Tryd.prog 24 = some [(.slice none 0 0)] := by kernel_rfl
@[go_sem] theorem ty25_0 : szT Tryd.prog 25 = some 1 := by kernel_rfl
@[go_sem] theorem ty25_1 : btT Tryd.prog 25 = some 24 := by kernel_rfl
@[go_sem] theorem ty25_2 : aggT Tryd.prog 25 = some false := by kernel_rfl
@[go_sem] theorem ty25_3 : elT Tryd.prog 25 = some 50 := by kernel_rfl
@[go_sem] theorem ty25_4 : isStr Tryd.prog 25 = false := by kernel_rfl
@[go_sem] theorem ty25_5 : isSl Tryd.prog 25 = true := by kernel_rfl
@[go_sem] theorem ty25_6 : isBl Tryd.prog 25 = false := by kernel_rfl
@[go_sem] theorem ty25_7 : ikT Tryd.prog 25 = none := by kernel_rfl
@[go_sem] theorem ty25_8 : isTy Tryd.prog 25 = true := by kernel_rfl
@[go_sem] theorem ty25_9 : Tryd.prog.concrete 25 = true := by kernel_rfl
@[go_sem] theorem ty25_10 : zrT Tryd.prog 25 = some [(.slice none 0 0)] := by kernel_rfl
@[go_sem] theorem ty26_0 : szT Tryd.prog 26 = some 7 := by kernel_rfl
@[go_sem] theorem ty26_1 : btT Tryd.prog 26 = some 96 := by kernel_rfl
@[go_sem] theorem ty26_2 : aggT Tryd.prog 26 = some true := by kernel_rfl
@[go_sem] theorem ty26_3 : elT Tryd.prog 26 = none := by kernel_rfl
@[go_sem] theorem ty26_4 : isStr Tryd.prog 26 = false := by kernel_rfl
@[go_sem] theorem ty26_5 : isSl Tryd.prog 26 = false := by kernel_rfl
@[go_sem] theorem ty26_6 : isBl Tryd.prog 26 = false := by kernel_rfl
@[go_sem] theorem ty26_7 : ikT Tryd.prog 26 = none := by kernel_rfl
@[go_sem] theorem ty26_8 : isTy Tryd.prog 26 = true := by kernel_rfl
@[go_sem] theorem ty26_9 : Tryd.prog.concrete 26 = true := by kernel_rfl
@[go_sem] theorem ty26_10 : zrT Tryd.prog 26 = some [(.int .u8 0), (.string ByteArray.empty), (.bool false), (.int .i64 0), (.float .f64 0), (.slice none 0 0), (.slice none 0 0)] := by kernel_rfl
@[go_sem] theorem ty26_11 : plT Tryd.prog 26 = some [(0, 1), (1, 1), (2, 1), (3, 1), (4, 1), (5, 1), (6, 1)] := by kernel_rfl
@[go_sem] theorem ty26_12 : fdT Tryd.prog 26 0 = some (0, 22) := by kernel_rfl
@[go_sem] theorem ty26_13 : fdT Tryd.prog 26 1 = some (1, 9) := by kernel_rfl
@[go_sem] theorem ty26_14 : fdT Tryd.prog 26 2 = some (2, 4) := by kernel_rfl
@[go_sem] theorem ty26_15 : fdT Tryd.prog 26 3 = some (3, 2) := by kernel_rfl
@[go_sem] theorem ty26_16 : fdT Tryd.prog 26 4 = some (4, 23) := by kernel_rfl
@[go_sem] theorem ty26_17 : fdT Tryd.prog 26 5 = some (5, 24) := by kernel_rfl
@[go_sem] theorem ty26_18 : fdT Tryd.prog 26 6 = some (6, 25) := by kernel_rfl
@[go_sem] theorem ty27_0 : szT Tryd.prog 27 = some 7 := by kernel_rfl
@[go_sem] theorem ty27_1 : btT Tryd.prog 27 = some 96 := by kernel_rfl
@[go_sem] theorem ty27_2 : aggT Tryd.prog 27 = some true := by kernel_rfl
@[go_sem] theorem ty27_3 : elT Tryd.prog 27 = none := by kernel_rfl
@[go_sem] theorem ty27_4 : isStr Tryd.prog 27 = false := by kernel_rfl
@[go_sem] theorem ty27_5 : isSl Tryd.prog 27 = false := by kernel_rfl
@[go_sem] theorem ty27_6 : isBl Tryd.prog 27 = false := by kernel_rfl
@[go_sem] theorem ty27_7 : ikT Tryd.prog 27 = none := by kernel_rfl
@[go_sem] theorem ty27_8 : isTy Tryd.prog 27 = true := by kernel_rfl
@[go_sem] theorem ty27_9 : Tryd.prog.concrete 27 = true := by kernel_rfl
@[go_sem] theorem ty27_10 : zrT Tryd.prog 27 = some [(.int .u8 0), (.string ByteArray.empty), (.bool false), (.int .i64 0), (.float .f64 0), (.slice none 0 0), (.slice none 0 0)] := by kernel_rfl
@[go_sem] theorem ty27_11 : plT Tryd.prog 27 = some [(0, 1), (1, 1), (2, 1), (3, 1), (4, 1), (5, 1), (6, 1)] := by kernel_rfl
@[go_sem] theorem ty27_12 : fdT Tryd.prog 27 0 = some (0, 22) := by kernel_rfl
@[go_sem] theorem ty27_13 : fdT Tryd.prog 27 1 = some (1, 9) := by kernel_rfl
@[go_sem] theorem ty27_14 : fdT Tryd.prog 27 2 = some (2, 4) := by kernel_rfl
@[go_sem] theorem ty27_15 : fdT Tryd.prog 27 3 = some (3, 2) := by kernel_rfl
@[go_sem] theorem ty27_16 : fdT Tryd.prog 27 4 = some (4, 23) := by kernel_rfl
@[go_sem] theorem ty27_17 : fdT Tryd.prog 27 5 = some (5, 24) := by kernel_rfl
@[go_sem] theorem ty27_18 : fdT Tryd.prog 27 6 = some (6, 25) := by kernel_rfl
@[go_sem] theorem ty32_0 : szT Tryd.prog 32 = some 1 := by kernel_rfl
@[go_sem] theorem ty32_1 : btT Tryd.prog 32 = some 8 := by kernel_rfl
@[go_sem] theorem ty32_2 : aggT Tryd.prog 32 = some false := by kernel_rfl
@[go_sem] theorem ty32_3 : elT Tryd.prog 32 = none := by kernel_rfl
@[go_sem] theorem ty32_4 : isStr Tryd.prog 32 = false := by kernel_rfl
@[go_sem] theorem ty32_5 : isSl Tryd.prog 32 = false := by kernel_rfl
@[go_sem] theorem ty32_6 : isBl Tryd.prog 32 = false := by kernel_rfl
@[go_sem] theorem ty32_7 : ikT Tryd.prog 32 = some .u64 := by kernel_rfl
@[go_sem] theorem ty32_8 : isTy Tryd.prog 32 = true := by kernel_rfl
@[go_sem] theorem ty32_9 : Tryd.prog.concrete 32 = true := by kernel_rfl
@[go_sem] theorem ty32_10 : zrT Tryd.prog 32 = some [(.int .u64 0)] := by kernel_rfl
@[go_sem] theorem ty34_0 : szT Tryd.prog 34 = some 1 := by kernel_rfl
@[go_sem] theorem ty34_1 : btT Tryd.prog 34 = some 24 := by kernel_rfl
@[go_sem] theorem ty34_2 : aggT Tryd.prog 34 = some false := by kernel_rfl
@[go_sem] theorem ty34_3 : elT Tryd.prog 34 = some 5 := by kernel_rfl
@[go_sem] theorem ty34_4 : isStr Tryd.prog 34 = false := by kernel_rfl
@[go_sem] theorem ty34_5 : isSl Tryd.prog 34 = true := by kernel_rfl
@[go_sem] theorem ty34_6 : isBl Tryd.prog 34 = false := by kernel_rfl
@[go_sem] theorem ty34_7 : ikT Tryd.prog 34 = none := by kernel_rfl
@[go_sem] theorem ty34_8 : isTy Tryd.prog 34 = true := by kernel_rfl
@[go_sem] theorem ty34_9 : Tryd.prog.concrete 34 = true := by kernel_rfl
@[go_sem] theorem ty34_10 : zrT Tryd.prog 34 = some [(.slice none 0 0)] := by kernel_rfl
@[go_sem] theorem ty38_0 : szT Tryd.prog 38 = some 1 := by kernel_rfl
@[go_sem] theorem ty38_1 : btT Tryd.prog 38 = some 8 := by kernel_rfl
@[go_sem] theorem ty38_2 : aggT Tryd.prog 38 = some false := by kernel_rfl
@[go_sem] theorem ty38_3 : elT Tryd.prog 38 = none := by kernel_rfl
@[go_sem] theorem ty38_4 : isStr Tryd.prog 38 = false := by kernel_rfl
@[go_sem] theorem ty38_5 : isSl Tryd.prog 38 = false := by kernel_rfl
@[go_sem] theorem ty38_6 : isBl Tryd.prog 38 = false := by kernel_rfl
@[go_sem] theorem ty38_7 : ikT Tryd.prog 38 = some .i64 := by kernel_rfl
@[go_sem] theorem ty38_8 : isTy Tryd.prog 38 = true := by kernel_rfl
@[go_sem] theorem ty38_9 : Tryd.prog.concrete 38 = true := by kernel_rfl
@[go_sem] theorem ty38_10 : zrT Tryd.prog 38 = some [(.int .i64 0)] := by kernel_rfl
@[go_sem] theorem ty49_0 : szT Tryd.prog 49 = some 8 := by kernel_rfl
@[go_sem] theorem ty49_1 : btT Tryd.prog 49 = some 112 := by kernel_rfl
@[go_sem] theorem ty49_2 : aggT Tryd.prog 49 = some true := by kernel_rfl
@[go_sem] theorem ty49_3 : elT Tryd.prog 49 = none := by kernel_rfl
@[go_sem] theorem ty49_4 : isStr Tryd.prog 49 = false := by kernel_rfl
@[go_sem] theorem ty49_5 : isSl Tryd.prog 49 = false := by kernel_rfl
@[go_sem] theorem ty49_6 : isBl Tryd.prog 49 = false := by kernel_rfl
@[go_sem] theorem ty49_7 : ikT Tryd.prog 49 = none := by kernel_rfl
@[go_sem] theorem ty49_8 : isTy Tryd.prog 49 = true := by kernel_rfl
@[go_sem] theorem ty49_9 : Tryd.prog.concrete 49 = true := by kernel_rfl
@[go_sem] theorem ty49_10 : zrT Tryd.prog 49 = some [(.string ByteArray.empty), (.int .u8 0), (.string ByteArray.empty), (.bool false), (.int .i64 0), (.float .f64 0), (.slice none 0 0), (.slice none 0 0)] := by kernel_rfl
@[go_sem] theorem ty49_11 : plT Tryd.prog 49 = some [(0, 1), (1, 7)] := by kernel_rfl
@[go_sem] theorem ty49_12 : fdT Tryd.prog 49 0 = some (0, 9) := by kernel_rfl
@[go_sem] theorem ty49_13 : fdT Tryd.prog 49 1 = some (1, 27) := by kernel_rfl
@[go_sem] theorem ty50_0 : szT Tryd.prog 50 = some 8 := by kernel_rfl
@[go_sem] theorem ty50_1 : btT Tryd.prog 50 = some 112 := by kernel_rfl
@[go_sem] theorem ty50_2 : aggT Tryd.prog 50 = some true := by kernel_rfl
@[go_sem] theorem ty50_3 : elT Tryd.prog 50 = none := by kernel_rfl
@[go_sem] theorem ty50_4 : isStr Tryd.prog 50 = false := by kernel_rfl
@[go_sem] theorem ty50_5 : isSl Tryd.prog 50 = false := by kernel_rfl
@[go_sem] theorem ty50_6 : isBl Tryd.prog 50 = false := by kernel_rfl
@[go_sem] theorem ty50_7 : ikT Tryd.prog 50 = none := by kernel_rfl
@[go_sem] theorem ty50_8 : isTy Tryd.prog 50 = true := by kernel_rfl
@[go_sem] theorem ty50_9 : Tryd.prog.concrete 50 = true := by kernel_rfl
@[go_sem] theorem ty50_10 : zrT Tryd.prog 50 = some [(.string ByteArray.empty), (.int .u8 0), (.string ByteArray.empty), (.bool false), (.int .i64 0), (.float .f64 0), (.slice none 0 0), (.slice none 0 0)] := by kernel_rfl
@[go_sem] theorem ty50_11 : plT Tryd.prog 50 = some [(0, 1), (1, 7)] := by kernel_rfl
@[go_sem] theorem ty50_12 : fdT Tryd.prog 50 0 = some (0, 9) := by kernel_rfl
@[go_sem] theorem ty50_13 : fdT Tryd.prog 50 1 = some (1, 27) := by kernel_rfl
@[go_sem] theorem ty67_0 : szT Tryd.prog 67 = some 2 := by kernel_rfl
@[go_sem] theorem ty67_1 : btT Tryd.prog 67 = some 2 := by kernel_rfl
@[go_sem] theorem ty67_2 : aggT Tryd.prog 67 = some true := by kernel_rfl
@[go_sem] theorem ty67_3 : elT Tryd.prog 67 = none := by kernel_rfl
@[go_sem] theorem ty67_4 : isStr Tryd.prog 67 = false := by kernel_rfl
@[go_sem] theorem ty67_5 : isSl Tryd.prog 67 = false := by kernel_rfl
@[go_sem] theorem ty67_6 : isBl Tryd.prog 67 = false := by kernel_rfl
@[go_sem] theorem ty67_7 : ikT Tryd.prog 67 = none := by kernel_rfl
@[go_sem] theorem ty67_8 : isTy Tryd.prog 67 = true := by kernel_rfl
@[go_sem] theorem ty67_9 : Tryd.prog.concrete 67 = true := by kernel_rfl
@[go_sem] theorem ty67_10 : zrT Tryd.prog 67 = some [(.int .u8 0), (.int .u8 0)] := by kernel_rfl
@[go_sem] theorem ty67_11 : plT Tryd.prog 67 = some [(0, 1), (1, 1)] := by kernel_rfl
@[go_sem] theorem ty67_12 : fdT Tryd.prog 67 0 = some (0, 22) := by kernel_rfl
@[go_sem] theorem ty67_13 : fdT Tryd.prog 67 1 = some (1, 22) := by kernel_rfl
@[go_sem] theorem ty68_0 : szT Tryd.prog 68 = some 2 := by kernel_rfl
@[go_sem] theorem ty68_1 : btT Tryd.prog 68 = some 2 := by kernel_rfl
@[go_sem] theorem ty68_2 : aggT Tryd.prog 68 = some true := by kernel_rfl
@[go_sem] theorem ty68_3 : elT Tryd.prog 68 = none := by kernel_rfl
@[go_sem] theorem ty68_4 : isStr Tryd.prog 68 = false := by kernel_rfl
@[go_sem] theorem ty68_5 : isSl Tryd.prog 68 = false := by kernel_rfl
@[go_sem] theorem ty68_6 : isBl Tryd.prog 68 = false := by kernel_rfl
@[go_sem] theorem ty68_7 : ikT Tryd.prog 68 = none := by kernel_rfl
@[go_sem] theorem ty68_8 : isTy Tryd.prog 68 = true := by kernel_rfl
@[go_sem] theorem ty68_9 : Tryd.prog.concrete 68 = true := by kernel_rfl
@[go_sem] theorem ty68_10 : zrT Tryd.prog 68 = some [(.int .u8 0), (.int .u8 0)] := by kernel_rfl
@[go_sem] theorem ty68_11 : plT Tryd.prog 68 = some [(0, 1), (1, 1)] := by kernel_rfl
@[go_sem] theorem ty68_12 : fdT Tryd.prog 68 0 = some (0, 22) := by kernel_rfl
@[go_sem] theorem ty68_13 : fdT Tryd.prog 68 1 = some (1, 22) := by kernel_rfl
@[go_sem] theorem ty95_0 : szT Tryd.prog 95 = some 1 := by kernel_rfl
@[go_sem] theorem ty95_1 : btT Tryd.prog 95 = some 24 := by kernel_rfl
@[go_sem] theorem ty95_2 : aggT Tryd.prog 95 = some false := by kernel_rfl
@[go_sem] theorem ty95_3 : elT Tryd.prog 95 = some 99 := by kernel_rfl
@[go_sem] theorem ty95_4 : isStr Tryd.prog 95 = false := by kernel_rfl
@[go_sem] theorem ty95_5 : isSl Tryd.prog 95 = true := by kernel_rfl
@[go_sem] theorem ty95_6 : isBl Tryd.prog 95 = false := by kernel_rfl
@[go_sem] theorem ty95_7 : ikT Tryd.prog 95 = none := by kernel_rfl
@[go_sem] theorem ty95_8 : isTy Tryd.prog 95 = true := by kernel_rfl
@[go_sem] theorem ty95_9 : Tryd.prog.concrete 95 = true := by kernel_rfl
@[go_sem] theorem ty95_10 : zrT Tryd.prog 95 = some [(.slice none 0 0)] := by kernel_rfl
@[go_sem] theorem ty97_0 : szT Tryd.prog 97 = some 1 := by kernel_rfl
@[go_sem] theorem ty97_1 : btT Tryd.prog 97 = some 1 := by kernel_rfl
@[go_sem] theorem ty97_2 : aggT Tryd.prog 97 = some false := by kernel_rfl
@[go_sem] theorem ty97_3 : elT Tryd.prog 97 = none := by kernel_rfl
@[go_sem] theorem ty97_4 : isStr Tryd.prog 97 = false := by kernel_rfl
@[go_sem] theorem ty97_5 : isSl Tryd.prog 97 = false := by kernel_rfl
@[go_sem] theorem ty97_6 : isBl Tryd.prog 97 = false := by kernel_rfl
@[go_sem] theorem ty97_7 : ikT Tryd.prog 97 = some .u8 := by kernel_rfl
@[go_sem] theorem ty97_8 : isTy Tryd.prog 97 = true := by kernel_rfl
@[go_sem] theorem ty97_9 : Tryd.prog.concrete 97 = true := by kernel_rfl
@[go_sem] theorem ty97_10 : zrT Tryd.prog 97 = some [(.int .u8 0)] := by kernel_rfl
@[go_sem] theorem ty98_0 : szT Tryd.prog 98 = some 4 := by kernel_rfl
@[go_sem] theorem ty98_1 : btT Tryd.prog 98 = some 40 := by kernel_rfl
@[go_sem] theorem ty98_2 : aggT Tryd.prog 98 = some true := by kernel_rfl
@[go_sem] theorem ty98_3 : elT Tryd.prog 98 = none := by kernel_rfl
@[go_sem] theorem ty98_4 : isStr Tryd.prog 98 = false := by kernel_rfl
@[go_sem] theorem ty98_5 : isSl Tryd.prog 98 = false := by kernel_rfl
@[go_sem] theorem ty98_6 : isBl Tryd.prog 98 = false := by kernel_rfl
@[go_sem] theorem ty98_7 : ikT Tryd.prog 98 = none := by kernel_rfl
@[go_sem] theorem ty98_8 : isTy Tryd.prog 98 = true := by kernel_rfl
@[go_sem] theorem ty98_9 : Tryd.prog.concrete 98 = true := by kernel_rfl
@[go_sem] theorem ty98_10 : zrT Tryd.prog 98 = some [(.int .i64 0), (.int .u8 0), (.int .u64 0), (.string ByteArray.empty)] := by kernel_rfl
@[go_sem] theorem ty98_11 : plT Tryd.prog 98 = some [(0, 1), (1, 1), (2, 1), (3, 1)] := by kernel_rfl
@[go_sem] theorem ty98_12 : fdT Tryd.prog 98 0 = some (0, 3) := by kernel_rfl
@[go_sem] theorem ty98_13 : fdT Tryd.prog 98 1 = some (1, 97) := by kernel_rfl
@[go_sem] theorem ty98_14 : fdT Tryd.prog 98 2 = some (2, 32) := by kernel_rfl
@[go_sem] theorem ty98_15 : fdT Tryd.prog 98 3 = some (3, 9) := by kernel_rfl
@[go_sem] theorem ty99_0 : szT Tryd.prog 99 = some 4 := by kernel_rfl
@[go_sem] theorem ty99_1 : btT Tryd.prog 99 = some 40 := by kernel_rfl
@[go_sem] theorem ty99_2 : aggT Tryd.prog 99 = some true := by kernel_rfl
@[go_sem] theorem ty99_3 : elT Tryd.prog 99 = none := by kernel_rfl
@[go_sem] theorem ty99_4 : isStr Tryd.prog 99 = false := by kernel_rfl
@[go_sem] theorem ty99_5 : isSl Tryd.prog 99 = false := by kernel_rfl
@[go_sem] theorem ty99_6 : isBl Tryd.prog 99 = false := by kernel_rfl
@[go_sem] theorem ty99_7 : ikT Tryd.prog 99 = none := by kernel_rfl
@[go_sem] theorem ty99_8 : isTy Tryd.prog 99 = true := by kernel_rfl
@[go_sem] theorem ty99_9 : Tryd.prog.concrete 99 = true := by kernel_rfl
@[go_sem] theorem ty99_10 : zrT Tryd.prog 99 = some [(.int .i64 0), (.int .u8 0), (.int .u64 0), (.string ByteArray.empty)] := by kernel_rfl
@[go_sem] theorem ty99_11 : plT Tryd.prog 99 = some [(0, 1), (1, 1), (2, 1), (3, 1)] := by kernel_rfl
@[go_sem] theorem ty99_12 : fdT Tryd.prog 99 0 = some (0, 3) := by kernel_rfl
@[go_sem] theorem ty99_13 : fdT Tryd.prog 99 1 = some (1, 97) := by kernel_rfl
@[go_sem] theorem ty99_14 : fdT Tryd.prog 99 2 = some (2, 32) := by kernel_rfl
@[go_sem] theorem ty99_15 : fdT Tryd.prog 99 3 = some (3, 9) := by kernel_rfl
@[go_sem] theorem ty101_0 : szT Tryd.prog 101 = some 1 := by kernel_rfl
@[go_sem] theorem ty101_1 : btT Tryd.prog 101 = some 8 := by kernel_rfl
@[go_sem] theorem ty101_2 : aggT Tryd.prog 101 = some false := by kernel_rfl
@[go_sem] theorem ty101_3 : elT Tryd.prog 101 = none := by kernel_rfl
@[go_sem] theorem ty101_4 : isStr Tryd.prog 101 = false := by kernel_rfl
@[go_sem] theorem ty101_5 : isSl Tryd.prog 101 = false := by kernel_rfl
@[go_sem] theorem ty101_6 : isBl Tryd.prog 101 = false := by kernel_rfl
@[go_sem] theorem ty101_7 : ikT Tryd.prog 101 = none := by kernel_rfl
@[go_sem] theorem ty101_8 : isTy Tryd.prog 101 = true := by kernel_rfl
@[go_sem] theorem ty101_9 : Tryd.prog.concrete 101 = true := by kernel_rfl
@[go_sem] theorem ty101_10 : zrT Tryd.prog 101 = some [(.map none)] := by kernel_rfl
@[go_sem] theorem ty112_0 : szT Tryd.prog 112 = some 256 := by kernel_rfl
@[go_sem] theorem ty112_1 : btT Tryd.prog 112 = some 256 := by kernel_rfl
@[go_sem] theorem ty112_2 : aggT Tryd.prog 112 = some true := by kernel_rfl
@[go_sem] theorem ty112_3 : elT Tryd.prog 112 = none := by kernel_rfl
@[go_sem] theorem ty112_4 : isStr Tryd.prog 112 = false := by kernel_rfl
@[go_sem] theorem ty112_5 : isSl Tryd.prog 112 = false := by kernel_rfl
@[go_sem] theorem ty112_6 : isBl Tryd.prog 112 = false := by kernel_rfl
@[go_sem] theorem ty112_7 : ikT Tryd.prog 112 = none := by kernel_rfl
@[go_sem] theorem ty112_8 : isTy Tryd.prog 112 = true := by kernel_rfl
@[go_sem] theorem ty112_9 : Tryd.prog.concrete 112 = true := by kernel_rfl
@[go_sem] theorem ty113_0 : szT Tryd.prog 113 = some 2 := by kernel_rfl
@[go_sem] theorem ty113_1 : btT Tryd.prog 113 = some 2 := by kernel_rfl
@[go_sem] theorem ty113_2 : aggT Tryd.prog 113 = some true := by kernel_rfl
@[go_sem] theorem ty113_3 : elT Tryd.prog 113 = none := by kernel_rfl
@[go_sem] theorem ty113_4 : isStr Tryd.prog 113 = false := by kernel_rfl
@[go_sem] theorem ty113_5 : isSl Tryd.prog 113 = false := by kernel_rfl
@[go_sem] theorem ty113_6 : isBl Tryd.prog 113 = false := by kernel_rfl
@[go_sem] theorem ty113_7 : ikT Tryd.prog 113 = none := by kernel_rfl
@[go_sem] theorem ty113_8 : isTy Tryd.prog 113 = true := by kernel_rfl
@[go_sem] theorem ty113_9 : Tryd.prog.concrete 113 = true := by kernel_rfl
@[go_sem] theorem ty113_10 : zrT Tryd.prog 113 = some [(.int .u8 0), (.int .u8 0)] := by kernel_rfl
@[go_sem] theorem ty113_11 : plT Tryd.prog 113 = some [(0, 1), (1, 1)] := by kernel_rfl
@[go_sem] theorem ty113_12 : fdT Tryd.prog 113 0 = some (0, 5) := by kernel_rfl
@[go_sem] theorem ty113_13 : fdT Tryd.prog 113 1 = some (1, 5) := by kernel_rfl
@[go_sem] theorem ty114_0 : szT Tryd.prog 114 = some 2 := by kernel_rfl
@[go_sem] theorem ty114_1 : btT Tryd.prog 114 = some 2 := by kernel_rfl
@[go_sem] theorem ty114_2 : aggT Tryd.prog 114 = some true := by kernel_rfl
@[go_sem] theorem ty114_3 : elT Tryd.prog 114 = none := by kernel_rfl
@[go_sem] theorem ty114_4 : isStr Tryd.prog 114 = false := by kernel_rfl
@[go_sem] theorem ty114_5 : isSl Tryd.prog 114 = false := by kernel_rfl
@[go_sem] theorem ty114_6 : isBl Tryd.prog 114 = false := by kernel_rfl
@[go_sem] theorem ty114_7 : ikT Tryd.prog 114 = none := by kernel_rfl
@[go_sem] theorem ty114_8 : isTy Tryd.prog 114 = true := by kernel_rfl
@[go_sem] theorem ty114_9 : Tryd.prog.concrete 114 = true := by kernel_rfl
@[go_sem] theorem ty114_10 : zrT Tryd.prog 114 = some [(.int .u8 0), (.int .u8 0)] := by kernel_rfl
@[go_sem] theorem ty114_11 : plT Tryd.prog 114 = some [(0, 1), (1, 1)] := by kernel_rfl
@[go_sem] theorem ty114_12 : fdT Tryd.prog 114 0 = some (0, 5) := by kernel_rfl
@[go_sem] theorem ty114_13 : fdT Tryd.prog 114 1 = some (1, 5) := by kernel_rfl
@[go_sem] theorem ty115_0 : szT Tryd.prog 115 = some 32 := by kernel_rfl
@[go_sem] theorem ty115_1 : btT Tryd.prog 115 = some 32 := by kernel_rfl
@[go_sem] theorem ty115_2 : aggT Tryd.prog 115 = some true := by kernel_rfl
@[go_sem] theorem ty115_3 : elT Tryd.prog 115 = none := by kernel_rfl
@[go_sem] theorem ty115_4 : isStr Tryd.prog 115 = false := by kernel_rfl
@[go_sem] theorem ty115_5 : isSl Tryd.prog 115 = false := by kernel_rfl
@[go_sem] theorem ty115_6 : isBl Tryd.prog 115 = false := by kernel_rfl
@[go_sem] theorem ty115_7 : ikT Tryd.prog 115 = none := by kernel_rfl
@[go_sem] theorem ty115_8 : isTy Tryd.prog 115 = true := by kernel_rfl
@[go_sem] theorem ty115_9 : Tryd.prog.concrete 115 = true := by kernel_rfl
@[go_sem] theorem ty115_10 : zrT Tryd.prog 115 = some [(.int .u8 0), (.int .u8 0), (.int .u8 0), (.int .u8 0), (.int .u8 0), (.int .u8 0), (.int .u8 0), (.int .u8 0), (.int .u8 0), (.int .u8 0), (.int .u8 0), (.int .u8 0), (.int .u8 0), (.int .u8 0), (.int .u8 0), (.int .u8 0), (.int .u8 0), (.int .u8 0), (.int .u8 0), (.int .u8 0), (.int .u8 0), (.int .u8 0), (.int .u8 0), (.int .u8 0), (.int .u8 0), (.int .u8 0), (.int .u8 0), (.int .u8 0), (.int .u8 0), (.int .u8 0), (.int .u8 0), (.int .u8 0)] := by kernel_rfl
@[go_sem] theorem ty116_0 : szT Tryd.prog 116 = some 1 := by kernel_rfl
@[go_sem] theorem ty116_1 : btT Tryd.prog 116 = some 8 := by kernel_rfl
@[go_sem] theorem ty116_2 : aggT Tryd.prog 116 = some false := by kernel_rfl
@[go_sem] theorem ty116_3 : elT Tryd.prog 116 = none := by kernel_rfl
@[go_sem] theorem ty116_4 : isStr Tryd.prog 116 = false := by kernel_rfl
@[go_sem] theorem ty116_5 : isSl Tryd.prog 116 = false := by kernel_rfl
@[go_sem] theorem ty116_6 : isBl Tryd.prog 116 = false := by kernel_rfl
@[go_sem] theorem ty116_7 : ikT Tryd.prog 116 = some .u64 := by kernel_rfl
@[go_sem] theorem ty116_8 : isTy Tryd.prog 116 = true := by kernel_rfl
@[go_sem] theorem ty116_9 : Tryd.prog.concrete 116 = true := by kernel_rfl
@[go_sem] theorem ty116_10 : zrT Tryd.prog 116 = some [(.int .u64 0)] := by kernel_rfl
@[go_sem] theorem ty119_0 : szT Tryd.prog 119 = some 2 := by kernel_rfl
@[go_sem] theorem ty119_1 : btT Tryd.prog 119 = some 16 := by kernel_rfl
@[go_sem] theorem ty119_2 : aggT Tryd.prog 119 = some true := by kernel_rfl
@[go_sem] theorem ty119_3 : elT Tryd.prog 119 = none := by kernel_rfl
@[go_sem] theorem ty119_4 : isStr Tryd.prog 119 = false := by kernel_rfl
@[go_sem] theorem ty119_5 : isSl Tryd.prog 119 = false := by kernel_rfl
@[go_sem] theorem ty119_6 : isBl Tryd.prog 119 = false := by kernel_rfl
@[go_sem] theorem ty119_7 : ikT Tryd.prog 119 = none := by kernel_rfl
@[go_sem] theorem ty119_8 : isTy Tryd.prog 119 = true := by kernel_rfl
@[go_sem] theorem ty119_9 : Tryd.prog.concrete 119 = true := by kernel_rfl
@[go_sem] theorem ty119_10 : zrT Tryd.prog 119 = some [(.int .i64 0), (.int .u8 0)] := by kernel_rfl
@[go_sem] theorem ty119_11 : plT Tryd.prog 119 = some [(0, 1), (1, 1)] := by kernel_rfl
@[go_sem] theorem ty119_12 : fdT Tryd.prog 119 0 = some (0, 3) := by kernel_rfl
@[go_sem] theorem ty119_13 : fdT Tryd.prog 119 1 = some (1, 97) := by kernel_rfl
@[go_sem] theorem ty120_0 : szT Tryd.prog 120 = some 2 := by kernel_rfl
@[go_sem] theorem ty120_1 : btT Tryd.prog 120 = some 16 := by kernel_rfl
@[go_sem] theorem ty120_2 : aggT Tryd.prog 120 = some true := by kernel_rfl
@[go_sem] theorem ty120_3 : elT Tryd.prog 120 = none := by kernel_rfl
@[go_sem] theorem ty120_4 : isStr Tryd.prog 120 = false := by kernel_rfl
@[go_sem] theorem ty120_5 : isSl Tryd.prog 120 = false := by kernel_rfl
@[go_sem] theorem ty120_6 : isBl Tryd.prog 120 = false := by kernel_rfl
@[go_sem] theorem ty120_7 : ikT Tryd.prog 120 = none := by kernel_rfl
@[go_sem] theorem ty120_8 : isTy Tryd.prog 120 = true := by kernel_rfl
@[go_sem] theorem ty120_9 : Tryd.prog.concrete 120 = true := by kernel_rfl
@[go_sem] theorem ty120_10 : zrT Tryd.prog 120 = some [(.int .i64 0), (.int .u8 0)] := by kernel_rfl
@[go_sem] theorem ty120_11 : plT Tryd.prog 120 = some [(0, 1), (1, 1)] := by kernel_rfl
@[go_sem] theorem ty120_12 : fdT Tryd.prog 120 0 = some (0, 3) := by kernel_rfl
@[go_sem] theorem ty120_13 : fdT Tryd.prog 120 1 = some (1, 97) := by kernel_rfl
@[go_sem] theorem ty121_0 : szT Tryd.prog 121 = some 1 := by kernel_rfl
@[go_sem] theorem ty121_1 : btT Tryd.prog 121 = some 8 := by kernel_rfl
@[go_sem] theorem ty121_2 : aggT Tryd.prog 121 = some false := by kernel_rfl
@[go_sem] theorem ty121_3 : elT Tryd.prog 121 = none := by kernel_rfl
@[go_sem] theorem ty121_4 : isStr Tryd.prog 121 = false := by kernel_rfl
@[go_sem] theorem ty121_5 : isSl Tryd.prog 121 = false := by kernel_rfl
@[go_sem] theorem ty121_6 : isBl Tryd.prog 121 = false := by kernel_rfl
@[go_sem] theorem ty121_7 : ikT Tryd.prog 121 = none := by kernel_rfl
@[go_sem] theorem ty121_8 : isTy Tryd.prog 121 = true := by kernel_rfl
@[go_sem] theorem ty121_9 : Tryd.prog.concrete 121 = true := by kernel_rfl
@[go_sem] theorem ty121_10 : zrT Tryd.prog 121 = some [(.map none)] := by kernel_rfl
@[go_sem] theorem ty130_0 : szT Tryd.prog 130 = some 1 := by kernel_rfl
@[go_sem] theorem ty130_1 : btT Tryd.prog 130 = some 8 := by kernel_rfl
@[go_sem] theorem ty130_2 : aggT Tryd.prog 130 = some false := by kernel_rfl
@[go_sem] theorem ty130_3 : elT Tryd.prog 130 = none := by kernel_rfl
@[go_sem] theorem ty130_4 : isStr Tryd.prog 130 = false := by kernel_rfl
@[go_sem] theorem ty130_5 : isSl Tryd.prog 130 = false := by kernel_rfl
@[go_sem] theorem ty130_6 : isBl Tryd.prog 130 = false := by kernel_rfl
@[go_sem] theorem ty130_7 : ikT Tryd.prog 130 = none := by kernel_rfl
@[go_sem] theorem ty130_8 : isTy Tryd.prog 130 = true := by kernel_rfl
@[go_sem] theorem ty130_9 : Tryd.prog.concrete 130 = true := by kernel_rfl
@[go_sem] theorem ty130_10 : zrT Tryd.prog 130 = some [(.pointer none)] := by kernel_rfl
@[go_sem] theorem ty131_0 : szT Tryd.prog 131 = some 1 := by kernel_rfl
@[go_sem] theorem ty131_1 : btT Tryd.prog 131 = some 16 := by kernel_rfl
@[go_sem] theorem ty131_2 : aggT Tryd.prog 131 = some true := by kernel_rfl
@[go_sem] theorem ty131_3 : elT Tryd.prog 131 = none := by kernel_rfl
@[go_sem] theorem ty131_4 : isStr Tryd.prog 131 = false := by kernel_rfl
@[go_sem] theorem ty131_5 : isSl Tryd.prog 131 = false := by kernel_rfl
@[go_sem] theorem ty131_6 : isBl Tryd.prog 131 = false := by kernel_rfl
@[go_sem] theorem ty131_7 : ikT Tryd.prog 131 = none := by kernel_rfl
@[go_sem] theorem ty131_8 : isTy Tryd.prog 131 = true := by kernel_rfl
@[go_sem] theorem ty131_9 : Tryd.prog.concrete 131 = true := by kernel_rfl
@[go_sem] theorem ty131_10 : zrT Tryd.prog 131 = some [(.string ByteArray.empty)] := by kernel_rfl
@[go_sem] theorem ty131_11 : plT Tryd.prog 131 = some [(0, 1)] := by kernel_rfl
@[go_sem] theorem ty131_12 : fdT Tryd.prog 131 0 = some (0, 9) := by kernel_rfl
@[go_sem] theorem ty132_0 : szT Tryd.prog 132 = some 1 := by kernel_rfl
@[go_sem] theorem ty132_1 : btT Tryd.prog 132 = some 16 := by kernel_rfl
@[go_sem] theorem ty132_2 : aggT Tryd.prog 132 = some true := by kernel_rfl
@[go_sem] theorem ty132_3 : elT Tryd.prog 132 = none := by kernel_rfl
@[go_sem] theorem ty132_4 : isStr Tryd.prog 132 = false := by kernel_rfl
@[go_sem] theorem ty132_5 : isSl Tryd.prog 132 = false := by kernel_rfl
@[go_sem] theorem ty132_6 : isBl Tryd.prog 132 = false := by kernel_rfl
@[go_sem] theorem ty132_7 : ikT Tryd.prog 132 = none := by kernel_rfl
@[go_sem] theorem ty132_8 : isTy Tryd.prog 132 = true := by kernel_rfl
@[go_sem] theorem ty132_9 : Tryd.prog.concrete 132 = true := by kernel_rfl
@[go_sem] theorem ty132_10 : zrT Tryd.prog 132 = some [(.string ByteArray.empty)] := by kernel_rfl
@[go_sem] theorem ty132_11 : plT Tryd.prog 132 = some [(0, 1)] := by kernel_rfl
@[go_sem] theorem ty132_12 : fdT Tryd.prog 132 0 = some (0, 9) := by kernel_rfl
@[go_sem] theorem ty139_0 : szT Tryd.prog 139 = some 4 := by kernel_rfl
@[go_sem] theorem ty139_1 : btT Tryd.prog 139 = some 40 := by kernel_rfl
@[go_sem] theorem ty139_2 : aggT Tryd.prog 139 = some true := by kernel_rfl
@[go_sem] theorem ty139_3 : elT Tryd.prog 139 = none := by kernel_rfl
@[go_sem] theorem ty139_4 : isStr Tryd.prog 139 = false := by kernel_rfl
@[go_sem] theorem ty139_5 : isSl Tryd.prog 139 = false := by kernel_rfl
@[go_sem] theorem ty139_6 : isBl Tryd.prog 139 = false := by kernel_rfl
@[go_sem] theorem ty139_7 : ikT Tryd.prog 139 = none := by kernel_rfl
@[go_sem] theorem ty139_8 : isTy Tryd.prog 139 = true := by kernel_rfl
@[go_sem] theorem ty139_9 : Tryd.prog.concrete 139 = true := by kernel_rfl
@[go_sem] theorem ty139_10 : zrT Tryd.prog 139 = some [(.pointer none), (.pointer none), (.pointer none), (.string ByteArray.empty)] := by kernel_rfl
@[go_sem] theorem ty139_11 : plT Tryd.prog 139 = some [(0, 1), (1, 1), (2, 1), (3, 1)] := by kernel_rfl
@[go_sem] theorem ty139_12 : fdT Tryd.prog 139 0 = some (0, 17) := by kernel_rfl
@[go_sem] theorem ty139_13 : fdT Tryd.prog 139 1 = some (1, 17) := by kernel_rfl
@[go_sem] theorem ty139_14 : fdT Tryd.prog 139 2 = some (2, 17) := by kernel_rfl
@[go_sem] theorem ty139_15 : fdT Tryd.prog 139 3 = some (3, 9) := by kernel_rfl
@[go_sem] theorem ty140_0 : szT Tryd.prog 140 = some 4 := by kernel_rfl
@[go_sem] theorem ty140_1 : btT Tryd.prog 140 = some 40 := by kernel_rfl
@[go_sem] theorem ty140_2 : aggT Tryd.prog 140 = some true := by kernel_rfl
@[go_sem] theorem ty140_3 : elT Tryd.prog 140 = none := by kernel_rfl
@[go_sem] theorem ty140_4 : isStr Tryd.prog 140 = false := by kernel_rfl
@[go_sem] theorem ty140_5 : isSl Tryd.prog 140 = false := by kernel_rfl
@[go_sem] theorem ty140_6 : isBl Tryd.prog 140 = false := by kernel_rfl
@[go_sem] theorem ty140_7 : ikT Tryd.prog 140 = none := by kernel_rfl
@[go_sem] theorem ty140_8 : isTy Tryd.prog 140 = true := by kernel_rfl
@[go_sem] theorem ty140_9 : Tryd.prog.concrete 140 = true := by kernel_rfl
@[go_sem] theorem ty140_10 : zrT Tryd.prog 140 = some [(.pointer none), (.pointer none), (.pointer none), (.string ByteArray.empty)] := by kernel_rfl
@[go_sem] theorem ty140_11 : plT Tryd.prog 140 = some [(0, 1), (1, 1), (2, 1), (3, 1)] := by kernel_rfl
@[go_sem] theorem ty140_12 : fdT Tryd.prog 140 0 = some (0, 17) := by kernel_rfl
@[go_sem] theorem ty140_13 : fdT Tryd.prog 140 1 = some (1, 17) := by kernel_rfl
@[go_sem] theorem ty140_14 : fdT Tryd.prog 140 2 = some (2, 17) := by kernel_rfl
@[go_sem] theorem ty140_15 : fdT Tryd.prog 140 3 = some (3, 9) := by kernel_rfl
@[go_sem] theorem ty141_0 : szT Tryd.prog 141 = some 0 := by kernel_rfl
@[go_sem] theorem ty141_1 : btT Tryd.prog 141 = some 0 := by kernel_rfl
@[go_sem] theorem ty141_2 : aggT Tryd.prog 141 = some true := by kernel_rfl
@[go_sem] theorem ty141_3 : elT Tryd.prog 141 = none := by kernel_rfl
@[go_sem] theorem ty141_4 : isStr Tryd.prog 141 = false := by kernel_rfl
@[go_sem] theorem ty141_5 : isSl Tryd.prog 141 = false := by kernel_rfl
@[go_sem] theorem ty141_6 : isBl Tryd.prog 141 = false := by kernel_rfl
@[go_sem] theorem ty141_7 : ikT Tryd.prog 141 = none := by kernel_rfl
@[go_sem] theorem ty141_8 : isTy Tryd.prog 141 = true := by kernel_rfl
@[go_sem] theorem ty141_9 : Tryd.prog.concrete 141 = true := by kernel_rfl
@[go_sem] theorem ty141_10 : zrT Tryd.prog 141 = some [] := by kernel_rfl
@[go_sem] theorem ty142_0 : szT Tryd.prog 142 = some 0 := by kernel_rfl
@[go_sem] theorem ty142_1 : btT Tryd.prog 142 = some 0 := by kernel_rfl
@[go_sem] theorem ty142_2 : aggT Tryd.prog 142 = some true := by kernel_rfl
@[go_sem] theorem ty142_3 : elT Tryd.prog 142 = none := by kernel_rfl
@[go_sem] theorem ty142_4 : isStr Tryd.prog 142 = false := by kernel_rfl
@[go_sem] theorem ty142_5 : isSl Tryd.prog 142 = false := by kernel_rfl
@[go_sem] theorem ty142_6 : isBl Tryd.prog 142 = false := by kernel_rfl
@[go_sem] theorem ty142_7 : ikT Tryd.prog 142 = none := by kernel_rfl
@[go_sem] theorem ty142_8 : isTy Tryd.prog 142 = true := by kernel_rfl
@[go_sem] theorem ty142_9 : Tryd.prog.concrete 142 = true := by kernel_rfl
@[go_sem] theorem ty142_10 : zrT Tryd.prog 142 = some [] := by kernel_rfl
@[go_sem] theorem ty142_11 : plT Tryd.prog 142 = some [(0, 0)] := by kernel_rfl
@[go_sem] theorem ty142_12 : fdT Tryd.prog 142 0 = some (0, 141) := by kernel_rfl
@[go_sem] theorem ty143_0 : szT Tryd.prog 143 = some 0 := by kernel_rfl
@[go_sem] theorem ty143_1 : btT Tryd.prog 143 = some 0 := by kernel_rfl
@[go_sem] theorem ty143_2 : aggT Tryd.prog 143 = some true := by kernel_rfl
@[go_sem] theorem ty143_3 : elT Tryd.prog 143 = none := by kernel_rfl
@[go_sem] theorem ty143_4 : isStr Tryd.prog 143 = false := by kernel_rfl
@[go_sem] theorem ty143_5 : isSl Tryd.prog 143 = false := by kernel_rfl
@[go_sem] theorem ty143_6 : isBl Tryd.prog 143 = false := by kernel_rfl
@[go_sem] theorem ty143_7 : ikT Tryd.prog 143 = none := by kernel_rfl
@[go_sem] theorem ty143_8 : isTy Tryd.prog 143 = true := by kernel_rfl
@[go_sem] theorem ty143_9 : Tryd.prog.concrete 143 = true := by kernel_rfl
@[go_sem] theorem ty143_10 : zrT Tryd.prog 143 = some [] := by kernel_rfl
@[go_sem] theorem ty143_11 : plT Tryd.prog 143 = some [(0, 0)] := by kernel_rfl
@[go_sem] theorem ty143_12 : fdT Tryd.prog 143 0 = some (0, 141) := by kernel_rfl
@[go_sem] theorem ty145_0 : szT Tryd.prog 145 = some 1 := by kernel_rfl
@[go_sem] theorem ty145_1 : btT Tryd.prog 145 = some 4 := by kernel_rfl
@[go_sem] theorem ty145_2 : aggT Tryd.prog 145 = some false := by kernel_rfl
@[go_sem] theorem ty145_3 : elT Tryd.prog 145 = none := by kernel_rfl
@[go_sem] theorem ty145_4 : isStr Tryd.prog 145 = false := by kernel_rfl
@[go_sem] theorem ty145_5 : isSl Tryd.prog 145 = false := by kernel_rfl
@[go_sem] theorem ty145_6 : isBl Tryd.prog 145 = false := by kernel_rfl
@[go_sem] theorem ty145_7 : ikT Tryd.prog 145 = some .u32 := by kernel_rfl
@[go_sem] theorem ty145_8 : isTy Tryd.prog 145 = true := by kernel_rfl
@[go_sem] theorem ty145_9 : Tryd.prog.concrete 145 = true := by kernel_rfl
@[go_sem] theorem ty145_10 : zrT Tryd.prog 145 = some [(.int .u32 0)] := by kernel_rfl
@[go_sem] theorem ty146_0 : szT Tryd.prog 146 = some 1 := by kernel_rfl
@[go_sem] theorem ty146_1 : btT Tryd.prog 146 = some 1 := by kernel_rfl
@[go_sem] theorem ty146_2 : aggT Tryd.prog 146 = some false := by kernel_rfl
@[go_sem] theorem ty146_3 : elT Tryd.prog 146 = none := by kernel_rfl
@[go_sem] theorem ty146_4 : isStr Tryd.prog 146 = false := by kernel_rfl
@[go_sem] theorem ty146_5 : isSl Tryd.prog 146 = false := by kernel_rfl
@[go_sem] theorem ty146_6 : isBl Tryd.prog 146 = false := by kernel_rfl
@[go_sem] theorem ty146_7 : ikT Tryd.prog 146 = some .u8 := by kernel_rfl
@[go_sem] theorem ty146_8 : isTy Tryd.prog 146 = true := by kernel_rfl
@[go_sem] theorem ty146_9 : Tryd.prog.concrete 146 = true := by kernel_rfl
@[go_sem] theorem ty146_10 : zrT Tryd.prog 146 = some [(.int .u8 0)] := by kernel_rfl
@[go_sem] theorem ty147_0 : szT Tryd.prog 147 = some 1 := by kernel_rfl
@[go_sem] theorem ty147_1 : btT Tryd.prog 147 = some 1 := by kernel_rfl
@[go_sem] theorem ty147_2 : aggT Tryd.prog 147 = some false := by kernel_rfl
@[go_sem] theorem ty147_3 : elT Tryd.prog 147 = none := by kernel_rfl
@[go_sem] theorem ty147_4 : isStr Tryd.prog 147 = false := by kernel_rfl
@[go_sem] theorem ty147_5 : isSl Tryd.prog 147 = false := by kernel_rfl
@[go_sem] theorem ty147_6 : isBl Tryd.prog 147 = false := by kernel_rfl
@[go_sem] theorem ty147_7 : ikT Tryd.prog 147 = some .u8 := by kernel_rfl
@[go_sem] theorem ty147_8 : isTy Tryd.prog 147 = true := by kernel_rfl
@[go_sem] theorem ty147_9 : Tryd.prog.concrete 147 = true := by kernel_rfl
@[go_sem] theorem ty147_10 : zrT Tryd.prog 147 = some [(.int .u8 0)] := by kernel_rfl
@[go_sem] theorem ty149_0 : szT Tryd.prog 149 = some 1 := by kernel_rfl
@[go_sem] theorem ty149_1 : btT Tryd.prog 149 = some 8 := by kernel_rfl
@[go_sem] theorem ty149_2 : aggT Tryd.prog 149 = some false := by kernel_rfl
@[go_sem] theorem ty149_3 : elT Tryd.prog 149 = none := by kernel_rfl
@[go_sem] theorem ty149_4 : isStr Tryd.prog 149 = false := by kernel_rfl
@[go_sem] theorem ty149_5 : isSl Tryd.prog 149 = false := by kernel_rfl
@[go_sem] theorem ty149_6 : isBl Tryd.prog 149 = false := by kernel_rfl
@[go_sem] theorem ty149_7 : ikT Tryd.prog 149 = none := by kernel_rfl
@[go_sem] theorem ty149_8 : isTy Tryd.prog 149 = true := by kernel_rfl
@[go_sem] theorem ty149_9 : Tryd.prog.concrete 149 = true := by kernel_rfl
@[go_sem] theorem ty149_10 : zrT Tryd.prog 149 = some [(.pointer none)] := by kernel_rfl
@[go_sem] theorem ty150_0 : szT Tryd.prog 150 = some 1 := by kernel_rfl
@[go_sem] theorem ty150_1 : btT Tryd.prog 150 = some 4 := by kernel_rfl
@[go_sem] theorem ty150_2 : aggT Tryd.prog 150 = some false := by kernel_rfl
@[go_sem] theorem ty150_3 : elT Tryd.prog 150 = none := by kernel_rfl
@[go_sem] theorem ty150_4 : isStr Tryd.prog 150 = false := by kernel_rfl
@[go_sem] theorem ty150_5 : isSl Tryd.prog 150 = false := by kernel_rfl
@[go_sem] theorem ty150_6 : isBl Tryd.prog 150 = false := by kernel_rfl
@[go_sem] theorem ty150_7 : ikT Tryd.prog 150 = some .i32 := by kernel_rfl
@[go_sem] theorem ty150_8 : isTy Tryd.prog 150 = true := by kernel_rfl
@[go_sem] theorem ty150_9 : Tryd.prog.concrete 150 = true := by kernel_rfl
@[go_sem] theorem ty150_10 : zrT Tryd.prog 150 = some [(.int .i32 0)] := by kernel_rfl
@[go_sem] theorem ty151_0 : szT Tryd.prog 151 = some 1 := by kernel_rfl
@[go_sem] theorem ty151_1 : btT Tryd.prog 151 = some 4 := by kernel_rfl
@[go_sem] theorem ty151_2 : aggT Tryd.prog 151 = some false := by kernel_rfl
@[go_sem] theorem ty151_3 : elT Tryd.prog 151 = none := by kernel_rfl
@[go_sem] theorem ty151_4 : isStr Tryd.prog 151 = false := by kernel_rfl
@[go_sem] theorem ty151_5 : isSl Tryd.prog 151 = false := by kernel_rfl
@[go_sem] theorem ty151_6 : isBl Tryd.prog 151 = false := by kernel_rfl
@[go_sem] theorem ty151_7 : ikT Tryd.prog 151 = some .i32 := by kernel_rfl
@[go_sem] theorem ty151_8 : isTy Tryd.prog 151 = true := by kernel_rfl
@[go_sem] theorem ty151_9 : Tryd.prog.concrete 151 = true := by kernel_rfl
@[go_sem] theorem ty151_10 : zrT Tryd.prog 151 = some [(.int .i32 0)] := by kernel_rfl
@[go_sem] theorem ty152_0 : szT Tryd.prog 152 = some 11 := by kernel_rfl
@[go_sem] theorem ty152_1 : btT Tryd.prog 152 = some 48 := by kernel_rfl
@[go_sem] theorem ty152_2 : aggT Tryd.prog 152 = some true := by kernel_rfl
@[go_sem] theorem ty152_3 : elT Tryd.prog 152 = none := by kernel_rfl
@[go_sem] theorem ty152_4 : isStr Tryd.prog 152 = false := by kernel_rfl
@[go_sem] theorem ty152_5 : isSl Tryd.prog 152 = false := by kernel_rfl
@[go_sem] theorem ty152_6 : isBl Tryd.prog 152 = false := by kernel_rfl
@[go_sem] theorem ty152_7 : ikT Tryd.prog 152 = none := by kernel_rfl
@[go_sem] theorem ty152_8 : isTy Tryd.prog 152 = true := by kernel_rfl
@[go_sem] theorem ty152_9 : Tryd.prog.concrete 152 = true := by kernel_rfl
@[go_sem] theorem ty152_10 : zrT Tryd.prog 152 = some [(.int .u64 0), (.int .u64 0), (.int .u32 0), (.int .u8 0), (.int .u8 0), (.int .u8 0), (.int .u8 0), .nilFunc, (.pointer none), (.int .i32 0), (.int .i32 0)] := by kernel_rfl
@[go_sem] theorem ty152_11 : plT Tryd.prog 152 = some [(0, 1), (1, 1), (2, 1), (3, 1), (4, 1), (5, 1), (6, 1), (7, 1), (8, 1), (9, 1), (10, 1)] := by kernel_rfl
@[go_sem] theorem ty152_12 : fdT Tryd.prog 152 0 = some (0, 12) := by kernel_rfl
@[go_sem] theorem ty152_13 : fdT Tryd.prog 152 1 = some (1, 12) := by kernel_rfl
@[go_sem] theorem ty152_14 : fdT Tryd.prog 152 2 = some (2, 145) := by kernel_rfl
@[go_sem] theorem ty152_15 : fdT Tryd.prog 152 3 = some (3, 146) := by kernel_rfl
@[go_sem] theorem ty152_16 : fdT Tryd.prog 152 4 = some (4, 5) := by kernel_rfl
@[go_sem] theorem ty152_17 : fdT Tryd.prog 152 5 = some (5, 5) := by kernel_rfl
@[go_sem] theorem ty152_18 : fdT Tryd.prog 152 6 = some (6, 147) := by kernel_rfl
@[go_sem] theorem ty152_19 : fdT Tryd.prog 152 7 = some (7, 148) := by kernel_rfl
@[go_sem] theorem ty152_20 : fdT Tryd.prog 152 8 = some (8, 149) := by kernel_rfl
@[go_sem] theorem ty152_21 : fdT Tryd.prog 152 9 = some (9, 150) := by kernel_rfl
@[go_sem] theorem ty152_22 : fdT Tryd.prog 152 10 = some (10, 151) := by kernel_rfl
@[go_sem] theorem ty153_0 : szT Tryd.prog 153 = some 11 := by kernel_rfl
@[go_sem] theorem ty153_1 : btT Tryd.prog 153 = some 48 := by kernel_rfl
@[go_sem] theorem ty153_2 : aggT Tryd.prog 153 = some true := by kernel_rfl
@[go_sem] theorem ty153_3 : elT Tryd.prog 153 = none := by kernel_rfl
@[go_sem] theorem ty153_4 : isStr Tryd.prog 153 = false := by kernel_rfl
@[go_sem] theorem ty153_5 : isSl Tryd.prog 153 = false := by kernel_rfl
@[go_sem] theorem ty153_6 : isBl Tryd.prog 153 = false := by kernel_rfl
@[go_sem] theorem ty153_7 : ikT Tryd.prog 153 = none := by kernel_rfl
@[go_sem] theorem ty153_8 : isTy Tryd.prog 153 = true := by kernel_rfl
@[go_sem] theorem ty153_9 : Tryd.prog.concrete 153 = true := by kernel_rfl
@[go_sem] theorem ty153_10 : zrT Tryd.prog 153 = some [(.int .u64 0), (.int .u64 0), (.int .u32 0), (.int .u8 0), (.int .u8 0), (.int .u8 0), (.int .u8 0), .nilFunc, (.pointer none), (.int .i32 0), (.int .i32 0)] := by kernel_rfl
@[go_sem] theorem ty153_11 : plT Tryd.prog 153 = some [(0, 1), (1, 1), (2, 1), (3, 1), (4, 1), (5, 1), (6, 1), (7, 1), (8, 1), (9, 1), (10, 1)] := by kernel_rfl
@[go_sem] theorem ty153_12 : fdT Tryd.prog 153 0 = some (0, 12) := by kernel_rfl
@[go_sem] theorem ty153_13 : fdT Tryd.prog 153 1 = some (1, 12) := by kernel_rfl
@[go_sem] theorem ty153_14 : fdT Tryd.prog 153 2 = some (2, 145) := by kernel_rfl
@[go_sem] theorem ty153_15 : fdT Tryd.prog 153 3 = some (3, 146) := by kernel_rfl
@[go_sem] theorem ty153_16 : fdT Tryd.prog 153 4 = some (4, 5) := by kernel_rfl
@[go_sem] theorem ty153_17 : fdT Tryd.prog 153 5 = some (5, 5) := by kernel_rfl
@[go_sem] theorem ty153_18 : fdT Tryd.prog 153 6 = some (6, 147) := by kernel_rfl
@[go_sem] theorem ty153_19 : fdT Tryd.prog 153 7 = some (7, 148) := by kernel_rfl
@[go_sem] theorem ty153_20 : fdT Tryd.prog 153 8 = some (8, 149) := by kernel_rfl
@[go_sem] theorem ty153_21 : fdT Tryd.prog 153 9 = some (9, 150) := by kernel_rfl
@[go_sem] theorem ty153_22 : fdT Tryd.prog 153 10 = some (10, 151) := by kernel_rfl
@[go_sem] theorem ty154_0 : szT Tryd.prog 154 = some 1 := by kernel_rfl
@[go_sem] theorem ty154_1 : btT Tryd.prog 154 = some 8 := by kernel_rfl
@[go_sem] theorem ty154_2 : aggT Tryd.prog 154 = some false := by kernel_rfl
@[go_sem] theorem ty154_3 : elT Tryd.prog 154 = none := by kernel_rfl
@[go_sem] theorem ty154_4 : isStr Tryd.prog 154 = false := by kernel_rfl
@[go_sem] theorem ty154_5 : isSl Tryd.prog 154 = false := by kernel_rfl
@[go_sem] theorem ty154_6 : isBl Tryd.prog 154 = false := by kernel_rfl
@[go_sem] theorem ty154_7 : ikT Tryd.prog 154 = none := by kernel_rfl
@[go_sem] theorem ty154_8 : isTy Tryd.prog 154 = true := by kernel_rfl
@[go_sem] theorem ty154_9 : Tryd.prog.concrete 154 = true := by kernel_rfl
@[go_sem] theorem ty154_10 : zrT Tryd.prog 154 = some [(.pointer none)] := by kernel_rfl
@[go_sem] theorem bf_3 : bitsFn Tryd.prog 3 = none := by kernel_rfl
@[go_sem] theorem cb_3 : callable Tryd.prog 3 = true := by kernel_rfl
@[go_sem] theorem bf_4 : bitsFn Tryd.prog 4 = none := by kernel_rfl
@[go_sem] theorem cb_4 : callable Tryd.prog 4 = true := by kernel_rfl
@[go_sem] theorem bf_5 : bitsFn Tryd.prog 5 = none := by kernel_rfl
@[go_sem] theorem cb_5 : callable Tryd.prog 5 = true := by kernel_rfl
@[go_sem] theorem bf_6 : bitsFn Tryd.prog 6 = none := by kernel_rfl
@[go_sem] theorem cb_6 : callable Tryd.prog 6 = true := by kernel_rfl
@[go_sem] theorem bf_7 : bitsFn Tryd.prog 7 = none := by kernel_rfl
@[go_sem] theorem cb_7 : callable Tryd.prog 7 = true := by kernel_rfl
@[go_sem] theorem bf_8 : bitsFn Tryd.prog 8 = none := by kernel_rfl
@[go_sem] theorem cb_8 : callable Tryd.prog 8 = true := by kernel_rfl
@[go_sem] theorem bf_9 : bitsFn Tryd.prog 9 = none := by kernel_rfl
@[go_sem] theorem cb_9 : callable Tryd.prog 9 = true := by kernel_rfl
@[go_sem] theorem bf_10 : bitsFn Tryd.prog 10 = none := by kernel_rfl
@[go_sem] theorem cb_10 : callable Tryd.prog 10 = true := by kernel_rfl
@[go_sem] theorem bf_11 : bitsFn Tryd.prog 11 = none := by kernel_rfl
@[go_sem] theorem cb_11 : callable Tryd.prog 11 = true := by kernel_rfl
@[go_sem] theorem bf_12 : bitsFn Tryd.prog 12 = none := by kernel_rfl
@[go_sem] theorem cb_12 : callable Tryd.prog 12 = true := by kernel_rfl
@[go_sem] theorem bf_13 : bitsFn Tryd.prog 13 = none := by kernel_rfl
@[go_sem] theorem cb_13 : callable Tryd.prog 13 = true := by kernel_rfl
@[go_sem] theorem bf_14 : bitsFn Tryd.prog 14 = none := by kernel_rfl
@[go_sem] theorem cb_14 : callable Tryd.prog 14 = true := by kernel_rfl
@[go_sem] theorem bf_15 : bitsFn Tryd.prog 15 = none := by kernel_rfl
@[go_sem] theorem cb_15 : callable Tryd.prog 15 = true := by kernel_rfl
@[go_sem] theorem bf_16 : bitsFn Tryd.prog 16 = some false := by kernel_rfl
@[go_sem] theorem bf_17 : bitsFn Tryd.prog 17 = none := by kernel_rfl
@[go_sem] theorem cb_17 : callable Tryd.prog 17 = true := by kernel_rfl
@[go_sem] theorem bf_18 : bitsFn Tryd.prog 18 = none := by kernel_rfl
@[go_sem] theorem cb_18 : callable Tryd.prog 18 = true := by kernel_rfl
@[go_sem] theorem bf_19 : bitsFn Tryd.prog 19 = none := by kernel_rfl
@[go_sem] theorem cb_19 : callable Tryd.prog 19 = true := by kernel_rfl
@[go_sem] theorem bf_20 : bitsFn Tryd.prog 20 = none := by kernel_rfl
@[go_sem] theorem cb_20 : callable Tryd.prog 20 = true := by kernel_rfl
@[go_sem] theorem bf_21 : bitsFn Tryd.prog 21 = none := by kernel_rfl
@[go_sem] theorem cb_21 : callable Tryd.prog 21 = true := by kernel_rfl
@[go_sem] theorem bf_22 : bitsFn Tryd.prog 22 = none := by kernel_rfl
@[go_sem] theorem cb_22 : callable Tryd.prog 22 = true := by kernel_rfl
@[go_sem] theorem bf_23 : bitsFn Tryd.prog 23 = none := by kernel_rfl
@[go_sem] theorem cb_23 : callable Tryd.prog 23 = true := by kernel_rfl
@[go_sem] theorem bf_24 : bitsFn Tryd.prog 24 = none := by kernel_rfl
@[go_sem] theorem cb_24 : callable Tryd.prog 24 = true := by kernel_rfl
@[go_sem] theorem bf_25 : bitsFn Tryd.prog 25 = none := by kernel_rfl
@[go_sem] theorem cb_25 : callable Tryd.prog 25 = true := by kernel_rfl
@[go_sem] theorem bf_26 : bitsFn Tryd.prog 26 = none := by kernel_rfl
@[go_sem] theorem cb_26 : callable Tryd.prog 26 = true := by kernel_rfl
@[go_sem] theorem bf_27 : bitsFn Tryd.prog 27 = none := by kernel_rfl
@[go_sem] theorem cb_27 : callable Tryd.prog 27 = true := by kernel_rfl
@[go_sem] theorem bf_28 : bitsFn Tryd.prog 28 = none := by kernel_rfl
@[go_sem] theorem cb_28 : callable Tryd.prog 28 = true := by kernel_rfl
@[go_sem] theorem bf_29 : bitsFn Tryd.prog 29 = none := by kernel_rfl
@[go_sem] theorem cb_29 : callable Tryd.prog 29 = true := by kernel_rfl
@[go_sem] theorem bf_30 : bitsFn Tryd.prog 30 = none := by kernel_rfl
@[go_sem] theorem cb_30 : callable Tryd.prog 30 = true := by kernel_rfl
@[go_sem] theorem bf_31 : bitsFn Tryd.prog 31 = none := by kernel_rfl
@[go_sem] theorem cb_31 : callable Tryd.prog 31 = true := by kernel_rfl
@[go_sem] theorem bf_32 : bitsFn Tryd.prog 32 = none := by kernel_rfl
@[go_sem] theorem cb_32 : callable Tryd.prog 32 = true := by kernel_rfl
@[go_sem] theorem bf_33 : bitsFn Tryd.prog 33 = none := by kernel_rfl
@[go_sem] theorem cb_33 : callable Tryd.prog 33 = true := by kernel_rfl
@[go_sem] theorem bf_34 : bitsFn Tryd.prog 34 = none := by kernel_rfl
@[go_sem] theorem cb_34 : callable Tryd.prog 34 = true := by kernel_rfl
@[go_sem] theorem bf_35 : bitsFn Tryd.prog 35 = none := by kernel_rfl
@[go_sem] theorem cb_35 : callable Tryd.prog 35 = true := by kernel_rfl
@[go_sem] theorem bf_36 : bitsFn Tryd.prog 36 = none := by kernel_rfl
@[go_sem] theorem cb_36 : callable Tryd.prog 36 = true := by kernel_rfl
@[go_sem] theorem bf_37 : bitsFn Tryd.prog 37 = none := by kernel_rfl
@[go_sem] theorem cb_37 : callable Tryd.prog 37 = true := by kernel_rfl
@[go_sem] theorem bf_38 : bitsFn Tryd.prog 38 = none := by kernel_rfl
@[go_sem] theorem cb_38 : callable Tryd.prog 38 = true := by kernel_rfl
@[go_sem] theorem bf_39 : bitsFn Tryd.prog 39 = none := by kernel_rfl
@[go_sem] theorem cb_39 : callable Tryd.prog 39 = true := by kernel_rfl
@[go_sem] theorem bf_40 : bitsFn Tryd.prog 40 = none := by kernel_rfl
@[go_sem] theorem cb_40 : callable Tryd.prog 40 = true := by kernel_rfl
@[go_sem] theorem bf_41 : bitsFn Tryd.prog 41 = none := by kernel_rfl
@[go_sem] theorem cb_41 : callable Tryd.prog 41 = true := by kernel_rfl
@[go_sem] theorem bf_42 : bitsFn Tryd.prog 42 = none := by kernel_rfl
@[go_sem] theorem cb_42 : callable Tryd.prog 42 = true := by kernel_rfl
@[go_sem] theorem bf_43 : bitsFn Tryd.prog 43 = none := by kernel_rfl
@[go_sem] theorem cb_43 : callable Tryd.prog 43 = true := by kernel_rfl
@[go_sem] theorem bf_44 : bitsFn Tryd.prog 44 = none := by kernel_rfl
@[go_sem] theorem cb_44 : callable Tryd.prog 44 = true := by kernel_rfl
@[go_sem] theorem bf_45 : bitsFn Tryd.prog 45 = none := by kernel_rfl
@[go_sem] theorem cb_45 : callable Tryd.prog 45 = true := by kernel_rfl
@[go_sem] theorem bf_46 : bitsFn Tryd.prog 46 = none := by kernel_rfl
@[go_sem] theorem cb_46 : callable Tryd.prog 46 = true := by kernel_rfl
@[go_sem] theorem bf_47 : bitsFn Tryd.prog 47 = none := by kernel_rfl
@[go_sem] theorem cb_47 : callable Tryd.prog 47 = true := by kernel_rfl
@[go_sem] theorem bf_48 : bitsFn Tryd.prog 48 = none := by kernel_rfl
@[go_sem] theorem cb_48 : callable Tryd.prog 48 = true := by kernel_rfl
@[go_sem] theorem bf_49 : bitsFn Tryd.prog 49 = none := by kernel_rfl
@[go_sem] theorem cb_49 : callable Tryd.prog 49 = true := by kernel_rfl
@[go_sem] theorem bf_50 : bitsFn Tryd.prog 50 = none := by kernel_rfl
@[go_sem] theorem cb_50 : callable Tryd.prog 50 = true := by kernel_rfl
@[go_sem] theorem bf_51 : bitsFn Tryd.prog 51 = none := by kernel_rfl
@[go_sem] theorem cb_51 : callable Tryd.prog 51 = true := by kernel_rfl
@[go_sem] theorem bf_52 : bitsFn Tryd.prog 52 = none := by kernel_rfl
@[go_sem] theorem cb_52 : callable Tryd.prog 52 = true := by kernel_rfl
@[go_sem] theorem bf_53 : bitsFn Tryd.prog 53 = none := by kernel_rfl
@[go_sem] theorem cb_53 : callable Tryd.prog 53 = true := by kernel_rfl
@[go_sem] theorem bf_54 : bitsFn Tryd.prog 54 = none := by kernel_rfl
@[go_sem] theorem cb_54 : callable Tryd.prog 54 = true := by kernel_rfl
@[go_sem] theorem bf_55 : bitsFn Tryd.prog 55 = none := by kernel_rfl
@[go_sem] theorem cb_55 : callable Tryd.prog 55 = true := by kernel_rfl
@[go_sem] theorem bf_56 : bitsFn Tryd.prog 56 = none := by kernel_rfl
@[go_sem] theorem cb_56 : callable Tryd.prog 56 = true := by kernel_rfl
@[go_sem] theorem bf_57 : bitsFn Tryd.prog 57 = none := by kernel_rfl
@[go_sem] theorem cb_57 : callable Tryd.prog 57 = true := by kernel_rfl
@[go_sem] theorem bf_58 : bitsFn Tryd.prog 58 = none := by kernel_rfl
@[go_sem] theorem cb_58 : callable Tryd.prog 58 = true := by kernel_rfl
@[go_sem] theorem bf_59 : bitsFn Tryd.prog 59 = some true := by kernel_rfl
@[go_sem] theorem bf_60 : bitsFn Tryd.prog 60 = none := by kernel_rfl
@[go_sem] theorem cb_60 : callable Tryd.prog 60 = true := by kernel_rfl
@[go_sem] theorem bf_61 : bitsFn Tryd.prog 61 = none := by kernel_rfl
@[go_sem] theorem cb_61 : callable Tryd.prog 61 = true := by kernel_rfl
@[go_sem] theorem bf_62 : bitsFn Tryd.prog 62 = none := by kernel_rfl
@[go_sem] theorem cb_62 : callable Tryd.prog 62 = true := by kernel_rfl
@[go_sem] theorem bf_63 : bitsFn Tryd.prog 63 = none := by kernel_rfl
@[go_sem] theorem cb_63 : callable Tryd.prog 63 = true := by kernel_rfl
@[go_sem] theorem bf_64 : bitsFn Tryd.prog 64 = none := by kernel_rfl
@[go_sem] theorem cb_64 : callable Tryd.prog 64 = true := by kernel_rfl
@[go_sem] theorem bf_65 : bitsFn Tryd.prog 65 = none := by kernel_rfl
@[go_sem] theorem cb_65 : callable Tryd.prog 65 = true := by kernel_rfl
@[go_sem] theorem bf_66 : bitsFn Tryd.prog 66 = none := by kernel_rfl
@[go_sem] theorem cb_66 : callable Tryd.prog 66 = true := by kernel_rfl
@[go_sem] theorem bf_67 : bitsFn Tryd.prog 67 = none := by kernel_rfl
@[go_sem] theorem cb_67 : callable Tryd.prog 67 = true := by kernel_rfl
@[go_sem] theorem bf_68 : bitsFn Tryd.prog 68 = none := by kernel_rfl
@[go_sem] theorem cb_68 : callable Tryd.prog 68 = true := by kernel_rfl
@[go_sem] theorem bf_69 : bitsFn Tryd.prog 69 = none := by kernel_rfl
@[go_sem] theorem cb_69 : callable Tryd.prog 69 = true := by kernel_rfl
@[go_sem] theorem bf_70 : bitsFn Tryd.prog 70 = none := by kernel_rfl
@[go_sem] theorem cb_70 : callable Tryd.prog 70 = true := by kernel_rfl
@[go_sem] theorem bf_71 : bitsFn Tryd.prog 71 = none := by kernel_rfl
@[go_sem] theorem cb_71 : callable Tryd.prog 71 = true := by kernel_rfl
@[go_sem] theorem bf_72 : bitsFn Tryd.prog 72 = none := by kernel_rfl
@[go_sem] theorem cb_72 : callable Tryd.prog 72 = true := by kernel_rfl
@[go_sem] theorem bf_73 : bitsFn Tryd.prog 73 = none := by kernel_rfl
@[go_sem] theorem cb_73 : callable Tryd.prog 73 = true := by kernel_rfl
@[go_sem] theorem bf_74 : bitsFn Tryd.prog 74 = none := by kernel_rfl
@[go_sem] theorem cb_74 : callable Tryd.prog 74 = true := by kernel_rfl
@[go_sem] theorem bf_75 : bitsFn Tryd.prog 75 = none := by kernel_rfl
@[go_sem] theorem cb_75 : callable Tryd.prog 75 = true := by kernel_rfl
@[go_sem] theorem bf_76 : bitsFn Tryd.prog 76 = none := by kernel_rfl
@[go_sem] theorem cb_76 : callable Tryd.prog 76 = true := by kernel_rfl
@[go_sem] theorem bf_77 : bitsFn Tryd.prog 77 = none := by kernel_rfl
@[go_sem] theorem cb_77 : callable Tryd.prog 77 = true := by kernel_rfl
@[go_sem] theorem bf_78 : bitsFn Tryd.prog 78 = none := by kernel_rfl
@[go_sem] theorem cb_78 : callable Tryd.prog 78 = true := by kernel_rfl
@[go_sem] theorem bf_79 : bitsFn Tryd.prog 79 = none := by kernel_rfl
@[go_sem] theorem cb_79 : callable Tryd.prog 79 = true := by kernel_rfl
@[go_sem] theorem bf_80 : bitsFn Tryd.prog 80 = none := by kernel_rfl
@[go_sem] theorem cb_80 : callable Tryd.prog 80 = true := by kernel_rfl
@[go_sem] theorem bf_81 : bitsFn Tryd.prog 81 = none := by kernel_rfl
@[go_sem] theorem cb_81 : callable Tryd.prog 81 = true := by kernel_rfl
@[go_sem] theorem bf_82 : bitsFn Tryd.prog 82 = none := by kernel_rfl
@[go_sem] theorem cb_82 : callable Tryd.prog 82 = true := by kernel_rfl
@[go_sem] theorem bf_83 : bitsFn Tryd.prog 83 = none := by kernel_rfl
@[go_sem] theorem cb_83 : callable Tryd.prog 83 = true := by kernel_rfl
@[go_sem] theorem bf_84 : bitsFn Tryd.prog 84 = none := by kernel_rfl
@[go_sem] theorem cb_84 : callable Tryd.prog 84 = true := by kernel_rfl
@[go_sem] theorem bf_85 : bitsFn Tryd.prog 85 = none := by kernel_rfl
@[go_sem] theorem cb_85 : callable Tryd.prog 85 = true := by kernel_rfl
@[go_sem] theorem bf_86 : bitsFn Tryd.prog 86 = none := by kernel_rfl
@[go_sem] theorem cb_86 : callable Tryd.prog 86 = true := by kernel_rfl
@[go_sem] theorem bf_87 : bitsFn Tryd.prog 87 = none := by kernel_rfl
@[go_sem] theorem cb_87 : callable Tryd.prog 87 = true := by kernel_rfl
@[go_sem] theorem bf_88 : bitsFn Tryd.prog 88 = none := by kernel_rfl
@[go_sem] theorem cb_88 : callable Tryd.prog 88 = true := by kernel_rfl
@[go_sem] theorem bf_89 : bitsFn Tryd.prog 89 = none := by kernel_rfl
@[go_sem] theorem cb_89 : callable Tryd.prog 89 = true := by kernel_rfl
@[go_sem] theorem bf_90 : bitsFn Tryd.prog 90 = none := by kernel_rfl
@[go_sem] theorem cb_90 : callable Tryd.prog 90 = true := by kernel_rfl
@[go_sem] theorem bf_91 : bitsFn Tryd.prog 91 = none := by kernel_rfl
@[go_sem] theorem cb_91 : callable Tryd.prog 91 = true := by kernel_rfl
@[go_sem] theorem bf_92 : bitsFn Tryd.prog 92 = none := by kernel_rfl
@[go_sem] theorem cb_92 : callable Tryd.prog 92 = true := by kernel_rfl
@[go_sem] theorem bf_93 : bitsFn Tryd.prog 93 = none := by kernel_rfl
@[go_sem] theorem cb_93 : callable Tryd.prog 93 = true := by kernel_rfl
@[go_sem] theorem bf_94 : bitsFn Tryd.prog 94 = none := by kernel_rfl
@[go_sem] theorem cb_94 : callable Tryd.prog 94 = true := by kernel_rfl
@[go_sem] theorem bf_95 : bitsFn Tryd.prog 95 = none := by kernel_rfl
@[go_sem] theorem bf_96 : bitsFn Tryd.prog 96 = none := by kernel_rfl
@[go_sem] theorem cb_96 : callable Tryd.prog 96 = true := by kernel_rfl
@[go_sem] theorem bf_97 : bitsFn Tryd.prog 97 = none := by kernel_rfl
@[go_sem] theorem cb_97 : callable Tryd.prog 97 = true := by kernel_rfl
@[go_sem] theorem bf_98 : bitsFn Tryd.prog 98 = none := by kernel_rfl
@[go_sem] theorem cb_98 : callable Tryd.prog 98 = true := by kernel_rfl
@[go_sem] theorem bf_99 : bitsFn Tryd.prog 99 = none := by kernel_rfl
@[go_sem] theorem cb_99 : callable Tryd.prog 99 = true := by kernel_rfl
@[go_sem] theorem bf_100 : bitsFn Tryd.prog 100 = none := by kernel_rfl
@[go_sem] theorem bf_101 : bitsFn Tryd.prog 101 = none := by kernel_rfl
@[go_sem] theorem cb_101 : callable Tryd.prog 101 = true := by kernel_rfl
@[go_sem] theorem bf_102 : bitsFn Tryd.prog 102 = none := by kernel_rfl
@[go_sem] theorem cb_102 : callable Tryd.prog 102 = true := by kernel_rfl
@[go_sem] theorem bf_103 : bitsFn Tryd.prog 103 = none := by kernel_rfl
@[go_sem] theorem cb_103 : callable Tryd.prog 103 = true := by kernel_rfl
@[go_sem] theorem bf_104 : bitsFn Tryd.prog 104 = none := by kernel_rfl
@[go_sem] theorem cb_104 : callable Tryd.prog 104 = true := by kernel_rfl
@[go_sem] theorem bf_105 : bitsFn Tryd.prog 105 = none := by kernel_rfl
@[go_sem] theorem cb_105 : callable Tryd.prog 105 = true := by kernel_rfl
@[go_sem] theorem bf_106 : bitsFn Tryd.prog 106 = none := by kernel_rfl
@[go_sem] theorem cb_106 : callable Tryd.prog 106 = true := by kernel_rfl
@[go_sem] theorem bf_107 : bitsFn Tryd.prog 107 = none := by kernel_rfl
@[go_sem] theorem cb_107 : callable Tryd.prog 107 = true := by kernel_rfl
@[go_sem] theorem bf_108 : bitsFn Tryd.prog 108 = none := by kernel_rfl
@[go_sem] theorem cb_108 : callable Tryd.prog 108 = true := by kernel_rfl
@[go_sem] theorem bf_109 : bitsFn Tryd.prog 109 = none := by kernel_rfl
@[go_sem] theorem cb_109 : callable Tryd.prog 109 = true := by kernel_rfl
@[go_sem] theorem bf_110 : bitsFn Tryd.prog 110 = none := by kernel_rfl
@[go_sem] theorem cb_110 : callable Tryd.prog 110 = true := by kernel_rfl
@[go_sem] theorem bf_111 : bitsFn Tryd.prog 111 = none := by kernel_rfl
@[go_sem] theorem cb_111 : callable Tryd.prog 111 = true := by kernel_rfl
@[go_sem] theorem bf_112 : bitsFn Tryd.prog 112 = none := by kernel_rfl
@[go_sem] theorem cb_112 : callable Tryd.prog 112 = true := by kernel_rfl
@[go_sem] theorem bf_113 : bitsFn Tryd.prog 113 = none := by kernel_rfl
@[go_sem] theorem cb_113 : callable Tryd.prog 113 = true := by kernel_rfl
@[go_sem] theorem bf_114 : bitsFn Tryd.prog 114 = none := by kernel_rfl
@[go_sem] theorem cb_114 : callable Tryd.prog 114 = true := by kernel_rfl
@[go_sem] theorem bf_115 : bitsFn Tryd.prog 115 = none := by kernel_rfl
@[go_sem] theorem cb_115 : callable Tryd.prog 115 = true := by kernel_rfl
@[go_sem] theorem bf_116 : bitsFn Tryd.prog 116 = none := by kernel_rfl
@[go_sem] theorem cb_116 : callable Tryd.prog 116 = true := by kernel_rfl
theorem mixedO : Tryd.prog.follows .mixedOrders = true := by kernel_rfl
end Go.Proofs.YtbgfiflnfndckaaDoor.Lift
