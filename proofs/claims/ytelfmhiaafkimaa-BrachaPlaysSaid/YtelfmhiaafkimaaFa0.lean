/- Closed facts on the types of this seat: each is what the loaded program says, by the kernel. -/
import Derived.Test.YtelfmhiaafkimaaRows
import Derived.Test.YtelfmhiaafkimaaVC
import Derived.KernelRfl
namespace Go.Proofs.Ytelfmhiaafkimaa.Fa
open Go
theorem mix : Try.prog.follows .mixedOrders = true := by kernel_rfl
theorem apI110 : VC.apI Try.prog 110 = some (258, 4, 32, [.int .i64 0, .int .i64 0, .int .i64 0, .int .i64 0]) := by kernel_rfl
theorem apI124 : VC.apI Try.prog 124 = some (129, 4, 24, [.bool false, .bool false, .int .i64 0, .int .i64 0]) := by kernel_rfl
theorem apI136 : VC.apI Try.prog 136 = some (138, 4, 24, [.bool false, .bool false, .int .i64 0, .int .i64 0]) := by kernel_rfl
theorem apI148 : VC.apI Try.prog 148 = some (153, 2, 16, [.int .i64 0, .int .i64 0]) := by kernel_rfl
theorem apI158 : VC.apI Try.prog 158 = some (162, 3, 40, [.slice none 0 0, .int .i64 0, .int .i64 0]) := by kernel_rfl
theorem apI165 : VC.apI Try.prog 165 = some (168, 1, 8, [.pointer none]) := by kernel_rfl
theorem apI175 : VC.apI Try.prog 175 = some (180, 5, 24, [.int .i64 0, .int .i64 0, .bool false, .bool false, .bool false]) := by kernel_rfl
theorem apI185 : VC.apI Try.prog 185 = some (188, 1, 8, [.pointer none]) := by kernel_rfl
theorem apI194 : VC.apI Try.prog 194 = some (198, 5, 56, [.int .i64 0, .int .i64 0, .int .i64 0, .int .i64 0, .slice none 0 0]) := by kernel_rfl
theorem apI195 : VC.apI Try.prog 195 = some (200, 4, 32, [.int .i64 0, .int .i64 0, .int .i64 0, .bool false]) := by kernel_rfl
theorem apI202 : VC.apI Try.prog 202 = some (97, 1, 8, [.map none]) := by kernel_rfl
theorem apI215 : VC.apI Try.prog 215 = some (226, 5, 40, [.int .i64 0, .int .i64 0, .int .i64 0, .int .i64 0, .bool false]) := by kernel_rfl
theorem apI216 : VC.apI Try.prog 216 = some (221, 5, 24, [.map none, .bool false, .bool false, .bool false, .int .i64 0]) := by kernel_rfl
theorem apI22 : VC.apI Try.prog 22 = some (99, 3, 24, [.int .i64 0, .int .i64 0, .int .i64 0]) := by kernel_rfl
theorem apI23 : VC.apI Try.prog 23 = some (3, 1, 8, [.int .i64 0]) := by kernel_rfl
theorem apI231 : VC.apI Try.prog 231 = some (280, 5, 40, [.int .i64 0, .int .i64 0, .int .i64 0, .int .i64 0, .bool false]) := by kernel_rfl
theorem apI240 : VC.apI Try.prog 240 = some (283, 2, 32, [.int .i64 0, .slice none 0 0]) := by kernel_rfl
theorem apI241 : VC.apI Try.prog 241 = some (244, 1, 8, [.pointer none]) := by kernel_rfl
theorem apI32 : VC.apI Try.prog 32 = some (107, 4, 32, [.int .i64 0, .int .i64 0, .int .i64 0, .int .i64 0]) := by kernel_rfl
theorem apI33 : VC.apI Try.prog 33 = some (24, 1, 8, [.int .i64 0]) := by kernel_rfl
theorem apI34 : VC.apI Try.prog 34 = some (120, 3, 24, [.int .i64 0, .int .i64 0, .int .i64 0]) := by kernel_rfl
theorem apI35 : VC.apI Try.prog 35 = some (117, 2, 16, [.int .i64 0, .int .i64 0]) := by kernel_rfl
theorem apI44 : VC.apI Try.prog 44 = some (131, 3, 24, [.int .i64 0, .int .i64 0, .int .i64 0]) := by kernel_rfl
theorem apI45 : VC.apI Try.prog 45 = some (4, 1, 1, [.bool false]) := by kernel_rfl
theorem apI53 : VC.apI Try.prog 53 = some (146, 4, 32, [.int .i64 0, .int .i64 0, .int .i64 0, .int .i64 0]) := by kernel_rfl
theorem apI54 : VC.apI Try.prog 54 = some (23, 1, 24, [.slice none 0 0]) := by kernel_rfl
theorem apI62 : VC.apI Try.prog 62 = some (173, 3, 24, [.int .i64 0, .int .i64 0, .int .i64 0]) := by kernel_rfl
theorem apI70 : VC.apI Try.prog 70 = some (192, 3, 24, [.int .i64 0, .int .i64 0, .int .i64 0]) := by kernel_rfl
theorem apI78 : VC.apI Try.prog 78 = some (212, 3, 24, [.int .i64 0, .int .i64 0, .int .u32 0]) := by kernel_rfl
theorem apI85 : VC.apI Try.prog 85 = some (223, 6, 48, [.int .i64 0, .int .i64 0, .int .i64 0, .int .i64 0, .int .i64 0, .int .i64 0]) := by kernel_rfl
theorem apI86 : VC.apI Try.prog 86 = some (2, 1, 8, [.int .i64 0]) := by kernel_rfl
theorem arN133 : VC.arN Try.prog 133 = some 2 := by kernel_rfl
theorem arN154 : VC.arN Try.prog 154 = some 2 := by kernel_rfl
theorem callB100 : VC.callB Try.prog 100 = true := by kernel_rfl
theorem callB101 : VC.callB Try.prog 101 = true := by kernel_rfl
theorem callB103 : VC.callB Try.prog 103 = true := by kernel_rfl
theorem callB104 : VC.callB Try.prog 104 = true := by kernel_rfl
theorem callB105 : VC.callB Try.prog 105 = true := by kernel_rfl
theorem callB106 : VC.callB Try.prog 106 = true := by kernel_rfl
theorem callB107 : VC.callB Try.prog 107 = true := by kernel_rfl
theorem callB108 : VC.callB Try.prog 108 = true := by kernel_rfl
theorem callB109 : VC.callB Try.prog 109 = true := by kernel_rfl
theorem callB110 : VC.callB Try.prog 110 = true := by kernel_rfl
theorem callB111 : VC.callB Try.prog 111 = true := by kernel_rfl
theorem callB112 : VC.callB Try.prog 112 = true := by kernel_rfl
theorem callB113 : VC.callB Try.prog 113 = true := by kernel_rfl
theorem callB114 : VC.callB Try.prog 114 = true := by kernel_rfl
theorem callB115 : VC.callB Try.prog 115 = true := by kernel_rfl
theorem callB116 : VC.callB Try.prog 116 = true := by kernel_rfl
theorem callB117 : VC.callB Try.prog 117 = true := by kernel_rfl
theorem callB118 : VC.callB Try.prog 118 = true := by kernel_rfl
theorem callB119 : VC.callB Try.prog 119 = true := by kernel_rfl
theorem callB12 : VC.callB Try.prog 12 = true := by kernel_rfl
theorem callB120 : VC.callB Try.prog 120 = true := by kernel_rfl
theorem callB121 : VC.callB Try.prog 121 = true := by kernel_rfl
theorem callB122 : VC.callB Try.prog 122 = true := by kernel_rfl
theorem callB123 : VC.callB Try.prog 123 = true := by kernel_rfl
theorem callB124 : VC.callB Try.prog 124 = true := by kernel_rfl
theorem callB125 : VC.callB Try.prog 125 = true := by kernel_rfl
theorem callB126 : VC.callB Try.prog 126 = true := by kernel_rfl
theorem callB128 : VC.callB Try.prog 128 = true := by kernel_rfl
theorem callB129 : VC.callB Try.prog 129 = true := by kernel_rfl
theorem callB13 : VC.callB Try.prog 13 = true := by kernel_rfl
theorem callB130 : VC.callB Try.prog 130 = true := by kernel_rfl
theorem callB131 : VC.callB Try.prog 131 = true := by kernel_rfl
theorem callB132 : VC.callB Try.prog 132 = true := by kernel_rfl
theorem callB133 : VC.callB Try.prog 133 = true := by kernel_rfl
theorem callB134 : VC.callB Try.prog 134 = true := by kernel_rfl
theorem callB14 : VC.callB Try.prog 14 = true := by kernel_rfl
theorem callB15 : VC.callB Try.prog 15 = true := by kernel_rfl
theorem callB16 : VC.callB Try.prog 16 = true := by kernel_rfl
theorem callB17 : VC.callB Try.prog 17 = true := by kernel_rfl
theorem callB18 : VC.callB Try.prog 18 = true := by kernel_rfl
theorem callB19 : VC.callB Try.prog 19 = true := by kernel_rfl
theorem callB20 : VC.callB Try.prog 20 = true := by kernel_rfl
theorem callB21 : VC.callB Try.prog 21 = true := by kernel_rfl
theorem callB22 : VC.callB Try.prog 22 = true := by kernel_rfl
theorem callB23 : VC.callB Try.prog 23 = true := by kernel_rfl
theorem callB24 : VC.callB Try.prog 24 = true := by kernel_rfl
theorem callB25 : VC.callB Try.prog 25 = true := by kernel_rfl
theorem callB26 : VC.callB Try.prog 26 = true := by kernel_rfl
theorem callB27 : VC.callB Try.prog 27 = true := by kernel_rfl
theorem callB28 : VC.callB Try.prog 28 = true := by kernel_rfl
theorem callB29 : VC.callB Try.prog 29 = true := by kernel_rfl
theorem callB30 : VC.callB Try.prog 30 = true := by kernel_rfl
theorem callB31 : VC.callB Try.prog 31 = true := by kernel_rfl
theorem callB32 : VC.callB Try.prog 32 = true := by kernel_rfl
theorem callB33 : VC.callB Try.prog 33 = true := by kernel_rfl
theorem callB34 : VC.callB Try.prog 34 = true := by kernel_rfl
theorem callB35 : VC.callB Try.prog 35 = true := by kernel_rfl
theorem callB36 : VC.callB Try.prog 36 = true := by kernel_rfl
theorem callB37 : VC.callB Try.prog 37 = true := by kernel_rfl
theorem callB38 : VC.callB Try.prog 38 = true := by kernel_rfl
theorem callB39 : VC.callB Try.prog 39 = true := by kernel_rfl
theorem callB40 : VC.callB Try.prog 40 = true := by kernel_rfl
theorem callB41 : VC.callB Try.prog 41 = true := by kernel_rfl
theorem callB42 : VC.callB Try.prog 42 = true := by kernel_rfl
theorem callB43 : VC.callB Try.prog 43 = true := by kernel_rfl
theorem callB44 : VC.callB Try.prog 44 = true := by kernel_rfl
theorem callB45 : VC.callB Try.prog 45 = true := by kernel_rfl
theorem callB46 : VC.callB Try.prog 46 = true := by kernel_rfl
theorem callB47 : VC.callB Try.prog 47 = true := by kernel_rfl
theorem callB48 : VC.callB Try.prog 48 = true := by kernel_rfl
theorem callB49 : VC.callB Try.prog 49 = true := by kernel_rfl
theorem callB50 : VC.callB Try.prog 50 = true := by kernel_rfl
theorem callB51 : VC.callB Try.prog 51 = true := by kernel_rfl
theorem callB52 : VC.callB Try.prog 52 = true := by kernel_rfl
theorem callB53 : VC.callB Try.prog 53 = true := by kernel_rfl
theorem callB54 : VC.callB Try.prog 54 = true := by kernel_rfl
theorem callB55 : VC.callB Try.prog 55 = true := by kernel_rfl
theorem callB56 : VC.callB Try.prog 56 = true := by kernel_rfl
theorem callB57 : VC.callB Try.prog 57 = true := by kernel_rfl
theorem callB58 : VC.callB Try.prog 58 = true := by kernel_rfl
theorem callB59 : VC.callB Try.prog 59 = true := by kernel_rfl
theorem callB60 : VC.callB Try.prog 60 = true := by kernel_rfl
theorem callB61 : VC.callB Try.prog 61 = true := by kernel_rfl
theorem callB62 : VC.callB Try.prog 62 = true := by kernel_rfl
theorem callB63 : VC.callB Try.prog 63 = true := by kernel_rfl
theorem callB64 : VC.callB Try.prog 64 = true := by kernel_rfl
theorem callB65 : VC.callB Try.prog 65 = true := by kernel_rfl
theorem callB66 : VC.callB Try.prog 66 = true := by kernel_rfl
theorem callB67 : VC.callB Try.prog 67 = true := by kernel_rfl
theorem callB68 : VC.callB Try.prog 68 = true := by kernel_rfl
theorem callB69 : VC.callB Try.prog 69 = true := by kernel_rfl
theorem callB70 : VC.callB Try.prog 70 = true := by kernel_rfl
theorem callB71 : VC.callB Try.prog 71 = true := by kernel_rfl
theorem callB72 : VC.callB Try.prog 72 = true := by kernel_rfl
theorem callB73 : VC.callB Try.prog 73 = true := by kernel_rfl
theorem callB75 : VC.callB Try.prog 75 = true := by kernel_rfl
theorem callB76 : VC.callB Try.prog 76 = true := by kernel_rfl
theorem callB77 : VC.callB Try.prog 77 = true := by kernel_rfl
theorem callB78 : VC.callB Try.prog 78 = true := by kernel_rfl
theorem callB79 : VC.callB Try.prog 79 = true := by kernel_rfl
theorem callB80 : VC.callB Try.prog 80 = true := by kernel_rfl
theorem callB81 : VC.callB Try.prog 81 = true := by kernel_rfl
theorem callB82 : VC.callB Try.prog 82 = true := by kernel_rfl
theorem callB83 : VC.callB Try.prog 83 = true := by kernel_rfl
theorem callB84 : VC.callB Try.prog 84 = true := by kernel_rfl
theorem callB85 : VC.callB Try.prog 85 = true := by kernel_rfl
theorem callB86 : VC.callB Try.prog 86 = true := by kernel_rfl
theorem callB87 : VC.callB Try.prog 87 = true := by kernel_rfl
theorem callB88 : VC.callB Try.prog 88 = true := by kernel_rfl
theorem callB89 : VC.callB Try.prog 89 = true := by kernel_rfl
theorem callB90 : VC.callB Try.prog 90 = true := by kernel_rfl
theorem callB91 : VC.callB Try.prog 91 = true := by kernel_rfl
theorem callB92 : VC.callB Try.prog 92 = true := by kernel_rfl
theorem callB93 : VC.callB Try.prog 93 = true := by kernel_rfl
theorem callB94 : VC.callB Try.prog 94 = true := by kernel_rfl
theorem callB95 : VC.callB Try.prog 95 = true := by kernel_rfl
theorem callB96 : VC.callB Try.prog 96 = true := by kernel_rfl
theorem callB97 : VC.callB Try.prog 97 = true := by kernel_rfl
theorem callB98 : VC.callB Try.prog 98 = true := by kernel_rfl
theorem callB99 : VC.callB Try.prog 99 = true := by kernel_rfl
theorem elo110 : VC.elo Try.prog 110 = some (4, 258) := by kernel_rfl
theorem elo124 : VC.elo Try.prog 124 = some (4, 129) := by kernel_rfl
theorem elo133 : VC.elo Try.prog 133 = some (1, 125) := by kernel_rfl
theorem elo136 : VC.elo Try.prog 136 = some (4, 138) := by kernel_rfl
theorem elo148 : VC.elo Try.prog 148 = some (2, 153) := by kernel_rfl
theorem elo154 : VC.elo Try.prog 154 = some (1, 3) := by kernel_rfl
theorem elo158 : VC.elo Try.prog 158 = some (3, 162) := by kernel_rfl
theorem elo165 : VC.elo Try.prog 165 = some (1, 168) := by kernel_rfl
theorem elo175 : VC.elo Try.prog 175 = some (5, 180) := by kernel_rfl
theorem elo185 : VC.elo Try.prog 185 = some (1, 188) := by kernel_rfl
theorem elo194 : VC.elo Try.prog 194 = some (5, 198) := by kernel_rfl
theorem elo195 : VC.elo Try.prog 195 = some (4, 200) := by kernel_rfl
theorem elo202 : VC.elo Try.prog 202 = some (1, 97) := by kernel_rfl
theorem elo215 : VC.elo Try.prog 215 = some (5, 226) := by kernel_rfl
theorem elo216 : VC.elo Try.prog 216 = some (5, 221) := by kernel_rfl
theorem elo22 : VC.elo Try.prog 22 = some (3, 99) := by kernel_rfl
theorem elo23 : VC.elo Try.prog 23 = some (1, 3) := by kernel_rfl
theorem elo231 : VC.elo Try.prog 231 = some (5, 280) := by kernel_rfl
theorem elo240 : VC.elo Try.prog 240 = some (2, 283) := by kernel_rfl
theorem elo241 : VC.elo Try.prog 241 = some (1, 244) := by kernel_rfl
theorem elo32 : VC.elo Try.prog 32 = some (4, 107) := by kernel_rfl
theorem elo33 : VC.elo Try.prog 33 = some (1, 24) := by kernel_rfl
theorem elo34 : VC.elo Try.prog 34 = some (3, 120) := by kernel_rfl
theorem elo35 : VC.elo Try.prog 35 = some (2, 117) := by kernel_rfl
theorem elo44 : VC.elo Try.prog 44 = some (3, 131) := by kernel_rfl
theorem elo45 : VC.elo Try.prog 45 = some (1, 4) := by kernel_rfl
theorem elo53 : VC.elo Try.prog 53 = some (4, 146) := by kernel_rfl
theorem elo54 : VC.elo Try.prog 54 = some (1, 23) := by kernel_rfl
theorem elo62 : VC.elo Try.prog 62 = some (3, 173) := by kernel_rfl
theorem elo70 : VC.elo Try.prog 70 = some (3, 192) := by kernel_rfl
theorem elo78 : VC.elo Try.prog 78 = some (3, 212) := by kernel_rfl
theorem elo85 : VC.elo Try.prog 85 = some (6, 223) := by kernel_rfl
theorem elo86 : VC.elo Try.prog 86 = some (1, 2) := by kernel_rfl
theorem flatK107 : VC.flatK Try.prog 107 = some [.i .i64, .i .i64, .i .i64, .i .i64] := by kernel_rfl
theorem flatK117 : VC.flatK Try.prog 117 = some [.i .i64, .i .i64] := by kernel_rfl
theorem flatK120 : VC.flatK Try.prog 120 = some [.i .i64, .i .i64, .i .i64] := by kernel_rfl
theorem flatK129 : VC.flatK Try.prog 129 = some [.b, .b, .i .i64, .i .i64] := by kernel_rfl
theorem flatK131 : VC.flatK Try.prog 131 = some [.i .i64, .i .i64, .i .i64] := by kernel_rfl
theorem flatK135 : VC.flatK Try.prog 135 = some [.i .i64, .i .i64] := by kernel_rfl
theorem flatK138 : VC.flatK Try.prog 138 = some [.b, .b, .i .i64, .i .i64] := by kernel_rfl
theorem flatK146 : VC.flatK Try.prog 146 = some [.i .i64, .i .i64, .i .i64, .i .i64] := by kernel_rfl
theorem flatK153 : VC.flatK Try.prog 153 = some [.i .i64, .i .i64] := by kernel_rfl
theorem flatK173 : VC.flatK Try.prog 173 = some [.i .i64, .i .i64, .i .i64] := by kernel_rfl
theorem flatK178 : VC.flatK Try.prog 178 = some [.i .i64, .i .i64] := by kernel_rfl
theorem flatK180 : VC.flatK Try.prog 180 = some [.i .i64, .i .i64, .b, .b, .b] := by kernel_rfl
theorem flatK192 : VC.flatK Try.prog 192 = some [.i .i64, .i .i64, .i .i64] := by kernel_rfl
theorem flatK200 : VC.flatK Try.prog 200 = some [.i .i64, .i .i64, .i .i64, .b] := by kernel_rfl
theorem flatK212 : VC.flatK Try.prog 212 = some [.i .i64, .i .i64, .i .u32] := by kernel_rfl
theorem flatK223 : VC.flatK Try.prog 223 = some [.i .i64, .i .i64, .i .i64, .i .i64, .i .i64, .i .i64] := by kernel_rfl
theorem flatK226 : VC.flatK Try.prog 226 = some [.i .i64, .i .i64, .i .i64, .i .i64, .b] := by kernel_rfl
theorem flatK235 : VC.flatK Try.prog 235 = some [.b, .b, .b, .i .i64, .i .i64] := by kernel_rfl
theorem flatK258 : VC.flatK Try.prog 258 = some [.i .i64, .i .i64, .i .i64, .i .i64] := by kernel_rfl
theorem flatK268 : VC.flatK Try.prog 268 = some [.i .i64, .i .i64] := by kernel_rfl
theorem flatK270 : VC.flatK Try.prog 270 = some [.i .i64, .i .i64, .b, .b] := by kernel_rfl
theorem flatK280 : VC.flatK Try.prog 280 = some [.i .i64, .i .i64, .i .i64, .i .i64, .b] := by kernel_rfl
theorem flatK297 : VC.flatK Try.prog 297 = some [.i .i64, .i .i64] := by kernel_rfl
theorem flatK99 : VC.flatK Try.prog 99 = some [.i .i64, .i .i64, .i .i64] := by kernel_rfl
theorem fldo105_0 : VC.fldo Try.prog 105 0 = some (0, 1, 34) := by kernel_rfl
theorem fldo105_1 : VC.fldo Try.prog 105 1 = some (1, 1, 103) := by kernel_rfl
theorem fldo105_2 : VC.fldo Try.prog 105 2 = some (2, 4, 37) := by kernel_rfl
theorem fldo107_0 : VC.fldo Try.prog 107 0 = some (0, 1, 3) := by kernel_rfl
theorem fldo107_1 : VC.fldo Try.prog 107 1 = some (1, 1, 3) := by kernel_rfl
theorem fldo107_2 : VC.fldo Try.prog 107 2 = some (2, 1, 3) := by kernel_rfl
theorem fldo107_3 : VC.fldo Try.prog 107 3 = some (3, 1, 2) := by kernel_rfl
theorem fldo112_0 : VC.fldo Try.prog 112 0 = some (0, 1, 3) := by kernel_rfl
theorem fldo112_1 : VC.fldo Try.prog 112 1 = some (1, 1, 35) := by kernel_rfl
theorem fldo112_2 : VC.fldo Try.prog 112 2 = some (2, 1, 110) := by kernel_rfl
theorem fldo112_3 : VC.fldo Try.prog 112 3 = some (3, 1, 110) := by kernel_rfl
theorem fldo112_4 : VC.fldo Try.prog 112 4 = some (4, 1, 35) := by kernel_rfl
theorem fldo117_0 : VC.fldo Try.prog 117 0 = some (0, 1, 3) := by kernel_rfl
theorem fldo117_1 : VC.fldo Try.prog 117 1 = some (1, 1, 2) := by kernel_rfl
theorem fldo120_0 : VC.fldo Try.prog 120 0 = some (0, 1, 3) := by kernel_rfl
theorem fldo120_1 : VC.fldo Try.prog 120 1 = some (1, 2, 117) := by kernel_rfl
theorem fldo127_0 : VC.fldo Try.prog 127 0 = some (0, 1, 124) := by kernel_rfl
theorem fldo127_1 : VC.fldo Try.prog 127 1 = some (1, 1, 125) := by kernel_rfl
theorem fldo127_2 : VC.fldo Try.prog 127 2 = some (2, 1, 125) := by kernel_rfl
theorem fldo127_3 : VC.fldo Try.prog 127 3 = some (3, 1, 4) := by kernel_rfl
theorem fldo129_0 : VC.fldo Try.prog 129 0 = some (0, 1, 4) := by kernel_rfl
theorem fldo129_1 : VC.fldo Try.prog 129 1 = some (1, 1, 4) := by kernel_rfl
theorem fldo129_2 : VC.fldo Try.prog 129 2 = some (2, 1, 3) := by kernel_rfl
theorem fldo129_3 : VC.fldo Try.prog 129 3 = some (3, 1, 3) := by kernel_rfl
theorem fldo131_0 : VC.fldo Try.prog 131 0 = some (0, 1, 3) := by kernel_rfl
theorem fldo131_1 : VC.fldo Try.prog 131 1 = some (1, 1, 3) := by kernel_rfl
theorem fldo131_2 : VC.fldo Try.prog 131 2 = some (2, 1, 3) := by kernel_rfl
theorem fldo138_0 : VC.fldo Try.prog 138 0 = some (0, 1, 4) := by kernel_rfl
theorem fldo138_1 : VC.fldo Try.prog 138 1 = some (1, 1, 4) := by kernel_rfl
theorem fldo138_2 : VC.fldo Try.prog 138 2 = some (2, 1, 3) := by kernel_rfl
theorem fldo138_3 : VC.fldo Try.prog 138 3 = some (3, 1, 3) := by kernel_rfl
theorem fldo146_0 : VC.fldo Try.prog 146 0 = some (0, 1, 3) := by kernel_rfl
theorem fldo146_1 : VC.fldo Try.prog 146 1 = some (1, 1, 3) := by kernel_rfl
theorem fldo146_2 : VC.fldo Try.prog 146 2 = some (2, 1, 3) := by kernel_rfl
theorem fldo146_3 : VC.fldo Try.prog 146 3 = some (3, 1, 3) := by kernel_rfl
theorem fldo151_0 : VC.fldo Try.prog 151 0 = some (0, 1, 148) := by kernel_rfl
theorem fldo151_1 : VC.fldo Try.prog 151 1 = some (1, 1, 149) := by kernel_rfl
theorem fldo153_0 : VC.fldo Try.prog 153 0 = some (0, 1, 3) := by kernel_rfl
theorem fldo153_1 : VC.fldo Try.prog 153 1 = some (1, 1, 3) := by kernel_rfl
theorem fldo157_0 : VC.fldo Try.prog 157 0 = some (0, 1, 23) := by kernel_rfl
theorem fldo157_1 : VC.fldo Try.prog 157 1 = some (1, 1, 23) := by kernel_rfl
theorem fldo157_2 : VC.fldo Try.prog 157 2 = some (2, 1, 4) := by kernel_rfl
theorem fldo162_0 : VC.fldo Try.prog 162 0 = some (0, 1, 23) := by kernel_rfl
theorem fldo162_1 : VC.fldo Try.prog 162 1 = some (1, 1, 3) := by kernel_rfl
theorem fldo162_2 : VC.fldo Try.prog 162 2 = some (2, 1, 3) := by kernel_rfl
theorem fldo167_0 : VC.fldo Try.prog 167 0 = some (0, 1, 165) := by kernel_rfl
theorem fldo167_1 : VC.fldo Try.prog 167 1 = some (1, 1, 3) := by kernel_rfl
theorem fldo171_0 : VC.fldo Try.prog 171 0 = some (0, 1, 3) := by kernel_rfl
theorem fldo171_1 : VC.fldo Try.prog 171 1 = some (1, 1, 169) := by kernel_rfl
theorem fldo171_2 : VC.fldo Try.prog 171 2 = some (2, 1, 23) := by kernel_rfl
theorem fldo173_0 : VC.fldo Try.prog 173 0 = some (0, 1, 3) := by kernel_rfl
theorem fldo173_1 : VC.fldo Try.prog 173 1 = some (1, 1, 3) := by kernel_rfl
theorem fldo173_2 : VC.fldo Try.prog 173 2 = some (2, 1, 3) := by kernel_rfl
theorem fldo178_0 : VC.fldo Try.prog 178 0 = some (0, 1, 3) := by kernel_rfl
theorem fldo178_1 : VC.fldo Try.prog 178 1 = some (1, 1, 3) := by kernel_rfl
theorem fldo180_0 : VC.fldo Try.prog 180 0 = some (0, 2, 178) := by kernel_rfl
theorem fldo180_1 : VC.fldo Try.prog 180 1 = some (2, 1, 4) := by kernel_rfl
theorem fldo180_2 : VC.fldo Try.prog 180 2 = some (3, 1, 4) := by kernel_rfl
theorem fldo180_3 : VC.fldo Try.prog 180 3 = some (4, 1, 4) := by kernel_rfl
theorem fldo187_0 : VC.fldo Try.prog 187 0 = some (0, 1, 185) := by kernel_rfl
theorem fldo187_1 : VC.fldo Try.prog 187 1 = some (1, 1, 184) := by kernel_rfl
theorem fldo187_2 : VC.fldo Try.prog 187 2 = some (2, 1, 23) := by kernel_rfl
theorem fldo190_0 : VC.fldo Try.prog 190 0 = some (0, 1, 3) := by kernel_rfl
theorem fldo190_1 : VC.fldo Try.prog 190 1 = some (1, 1, 3) := by kernel_rfl
theorem fldo190_2 : VC.fldo Try.prog 190 2 = some (2, 1, 3) := by kernel_rfl
theorem fldo190_3 : VC.fldo Try.prog 190 3 = some (3, 1, 23) := by kernel_rfl
theorem fldo190_4 : VC.fldo Try.prog 190 4 = some (4, 1, 3) := by kernel_rfl
theorem fldo192_0 : VC.fldo Try.prog 192 0 = some (0, 1, 3) := by kernel_rfl
theorem fldo192_1 : VC.fldo Try.prog 192 1 = some (1, 1, 3) := by kernel_rfl
theorem fldo192_2 : VC.fldo Try.prog 192 2 = some (2, 1, 3) := by kernel_rfl
theorem fldo198_0 : VC.fldo Try.prog 198 0 = some (0, 1, 3) := by kernel_rfl
theorem fldo198_1 : VC.fldo Try.prog 198 1 = some (1, 1, 3) := by kernel_rfl
theorem fldo198_2 : VC.fldo Try.prog 198 2 = some (2, 1, 3) := by kernel_rfl
theorem fldo198_3 : VC.fldo Try.prog 198 3 = some (3, 1, 3) := by kernel_rfl
theorem fldo198_4 : VC.fldo Try.prog 198 4 = some (4, 1, 23) := by kernel_rfl
theorem fldo200_0 : VC.fldo Try.prog 200 0 = some (0, 1, 3) := by kernel_rfl
theorem fldo200_1 : VC.fldo Try.prog 200 1 = some (1, 1, 3) := by kernel_rfl
theorem fldo200_2 : VC.fldo Try.prog 200 2 = some (2, 1, 3) := by kernel_rfl
theorem fldo200_3 : VC.fldo Try.prog 200 3 = some (3, 1, 4) := by kernel_rfl
theorem fldo212_0 : VC.fldo Try.prog 212 0 = some (0, 1, 3) := by kernel_rfl
theorem fldo212_1 : VC.fldo Try.prog 212 1 = some (1, 1, 3) := by kernel_rfl
theorem fldo212_2 : VC.fldo Try.prog 212 2 = some (2, 1, 84) := by kernel_rfl
theorem fldo218_0 : VC.fldo Try.prog 218 0 = some (0, 1, 3) := by kernel_rfl
theorem fldo218_1 : VC.fldo Try.prog 218 1 = some (1, 1, 3) := by kernel_rfl
theorem fldo218_2 : VC.fldo Try.prog 218 2 = some (2, 1, 84) := by kernel_rfl
theorem fldo218_3 : VC.fldo Try.prog 218 3 = some (3, 1, 3) := by kernel_rfl
theorem fldo218_4 : VC.fldo Try.prog 218 4 = some (4, 1, 215) := by kernel_rfl
theorem fldo218_5 : VC.fldo Try.prog 218 5 = some (5, 1, 216) := by kernel_rfl
theorem fldo218_6 : VC.fldo Try.prog 218 6 = some (6, 1, 4) := by kernel_rfl
theorem fldo221_0 : VC.fldo Try.prog 221 0 = some (0, 1, 219) := by kernel_rfl
theorem fldo221_1 : VC.fldo Try.prog 221 1 = some (1, 1, 4) := by kernel_rfl
theorem fldo221_2 : VC.fldo Try.prog 221 2 = some (2, 1, 4) := by kernel_rfl
theorem fldo221_3 : VC.fldo Try.prog 221 3 = some (3, 1, 4) := by kernel_rfl
theorem fldo221_4 : VC.fldo Try.prog 221 4 = some (4, 1, 2) := by kernel_rfl
theorem fldo223_0 : VC.fldo Try.prog 223 0 = some (0, 1, 3) := by kernel_rfl
theorem fldo223_1 : VC.fldo Try.prog 223 1 = some (1, 1, 3) := by kernel_rfl
theorem fldo223_2 : VC.fldo Try.prog 223 2 = some (2, 1, 3) := by kernel_rfl
theorem fldo223_3 : VC.fldo Try.prog 223 3 = some (3, 1, 3) := by kernel_rfl
theorem fldo223_4 : VC.fldo Try.prog 223 4 = some (4, 1, 3) := by kernel_rfl
theorem fldo223_5 : VC.fldo Try.prog 223 5 = some (5, 1, 2) := by kernel_rfl
theorem fldo226_0 : VC.fldo Try.prog 226 0 = some (0, 1, 3) := by kernel_rfl
theorem fldo226_1 : VC.fldo Try.prog 226 1 = some (1, 1, 3) := by kernel_rfl
theorem fldo226_2 : VC.fldo Try.prog 226 2 = some (2, 1, 3) := by kernel_rfl
theorem fldo226_3 : VC.fldo Try.prog 226 3 = some (3, 1, 2) := by kernel_rfl
theorem fldo226_4 : VC.fldo Try.prog 226 4 = some (4, 1, 4) := by kernel_rfl
theorem fldo233_0 : VC.fldo Try.prog 233 0 = some (0, 1, 3) := by kernel_rfl
theorem fldo233_1 : VC.fldo Try.prog 233 1 = some (1, 1, 3) := by kernel_rfl
theorem fldo233_2 : VC.fldo Try.prog 233 2 = some (2, 1, 3) := by kernel_rfl
theorem fldo233_3 : VC.fldo Try.prog 233 3 = some (3, 1, 84) := by kernel_rfl
theorem fldo233_4 : VC.fldo Try.prog 233 4 = some (4, 1, 231) := by kernel_rfl
theorem fldo233_5 : VC.fldo Try.prog 233 5 = some (5, 1, 23) := by kernel_rfl
theorem fldo233_6 : VC.fldo Try.prog 233 6 = some (6, 1, 4) := by kernel_rfl
theorem fldo235_0 : VC.fldo Try.prog 235 0 = some (0, 1, 4) := by kernel_rfl
theorem fldo235_1 : VC.fldo Try.prog 235 1 = some (1, 1, 4) := by kernel_rfl
theorem fldo235_2 : VC.fldo Try.prog 235 2 = some (2, 1, 4) := by kernel_rfl
theorem fldo235_3 : VC.fldo Try.prog 235 3 = some (3, 1, 2) := by kernel_rfl
theorem fldo235_4 : VC.fldo Try.prog 235 4 = some (4, 1, 2) := by kernel_rfl
theorem fldo243_0 : VC.fldo Try.prog 243 0 = some (0, 1, 240) := by kernel_rfl
theorem fldo243_1 : VC.fldo Try.prog 243 1 = some (1, 1, 241) := by kernel_rfl
theorem fldo246_0 : VC.fldo Try.prog 246 0 = some (0, 1, 23) := by kernel_rfl
theorem fldo246_1 : VC.fldo Try.prog 246 1 = some (1, 1, 23) := by kernel_rfl
theorem fldo246_2 : VC.fldo Try.prog 246 2 = some (2, 1, 97) := by kernel_rfl
theorem fldo246_3 : VC.fldo Try.prog 246 3 = some (3, 1, 23) := by kernel_rfl
theorem fldo251_0 : VC.fldo Try.prog 251 0 = some (0, 1, 2) := by kernel_rfl
theorem fldo251_1 : VC.fldo Try.prog 251 1 = some (1, 2, 117) := by kernel_rfl
theorem fldo251_2 : VC.fldo Try.prog 251 2 = some (3, 1, 3) := by kernel_rfl
theorem fldo251_3 : VC.fldo Try.prog 251 3 = some (4, 1, 4) := by kernel_rfl
theorem fldo251_4 : VC.fldo Try.prog 251 4 = some (5, 1, 97) := by kernel_rfl
theorem fldo258_0 : VC.fldo Try.prog 258 0 = some (0, 1, 3) := by kernel_rfl
theorem fldo258_1 : VC.fldo Try.prog 258 1 = some (1, 1, 3) := by kernel_rfl
theorem fldo258_2 : VC.fldo Try.prog 258 2 = some (2, 2, 117) := by kernel_rfl
theorem fldo268_0 : VC.fldo Try.prog 268 0 = some (0, 1, 3) := by kernel_rfl
theorem fldo268_1 : VC.fldo Try.prog 268 1 = some (1, 1, 3) := by kernel_rfl
theorem fldo270_0 : VC.fldo Try.prog 270 0 = some (0, 2, 268) := by kernel_rfl
theorem fldo270_1 : VC.fldo Try.prog 270 1 = some (2, 1, 4) := by kernel_rfl
theorem fldo270_2 : VC.fldo Try.prog 270 2 = some (3, 1, 4) := by kernel_rfl
theorem fldo280_0 : VC.fldo Try.prog 280 0 = some (0, 1, 3) := by kernel_rfl
theorem fldo280_1 : VC.fldo Try.prog 280 1 = some (1, 1, 3) := by kernel_rfl
theorem fldo280_2 : VC.fldo Try.prog 280 2 = some (2, 1, 3) := by kernel_rfl
theorem fldo280_3 : VC.fldo Try.prog 280 3 = some (3, 1, 2) := by kernel_rfl
theorem fldo280_4 : VC.fldo Try.prog 280 4 = some (4, 1, 4) := by kernel_rfl
theorem fldo283_0 : VC.fldo Try.prog 283 0 = some (0, 1, 3) := by kernel_rfl
theorem fldo283_1 : VC.fldo Try.prog 283 1 = some (1, 1, 23) := by kernel_rfl
theorem fldo297_1 : VC.fldo Try.prog 297 1 = some (1, 1, 3) := by kernel_rfl
theorem fldo37_0 : VC.fldo Try.prog 37 0 = some (0, 1, 33) := by kernel_rfl
theorem fldo37_1 : VC.fldo Try.prog 37 1 = some (1, 1, 34) := by kernel_rfl
theorem fldo37_2 : VC.fldo Try.prog 37 2 = some (2, 1, 35) := by kernel_rfl
theorem fldo37_3 : VC.fldo Try.prog 37 3 = some (3, 1, 35) := by kernel_rfl
theorem fldo47_0 : VC.fldo Try.prog 47 0 = some (0, 1, 33) := by kernel_rfl
theorem fldo47_1 : VC.fldo Try.prog 47 1 = some (1, 1, 45) := by kernel_rfl
theorem fldo47_2 : VC.fldo Try.prog 47 2 = some (2, 1, 45) := by kernel_rfl
theorem fldo47_3 : VC.fldo Try.prog 47 3 = some (3, 1, 3) := by kernel_rfl
theorem fldo47_4 : VC.fldo Try.prog 47 4 = some (4, 1, 4) := by kernel_rfl
theorem fldo56_0 : VC.fldo Try.prog 56 0 = some (0, 1, 33) := by kernel_rfl
theorem fldo56_1 : VC.fldo Try.prog 56 1 = some (1, 1, 23) := by kernel_rfl
theorem fldo56_2 : VC.fldo Try.prog 56 2 = some (2, 1, 23) := by kernel_rfl
theorem fldo56_3 : VC.fldo Try.prog 56 3 = some (3, 1, 54) := by kernel_rfl
theorem fldo56_4 : VC.fldo Try.prog 56 4 = some (4, 1, 4) := by kernel_rfl
theorem fldo64_0 : VC.fldo Try.prog 64 0 = some (0, 1, 33) := by kernel_rfl
theorem fldo64_1 : VC.fldo Try.prog 64 1 = some (1, 1, 54) := by kernel_rfl
theorem fldo72_0 : VC.fldo Try.prog 72 0 = some (0, 1, 33) := by kernel_rfl
theorem fldo72_1 : VC.fldo Try.prog 72 1 = some (1, 1, 23) := by kernel_rfl
theorem fldo72_2 : VC.fldo Try.prog 72 2 = some (2, 1, 23) := by kernel_rfl
theorem fldo72_3 : VC.fldo Try.prog 72 3 = some (3, 1, 3) := by kernel_rfl
theorem fldo88_0 : VC.fldo Try.prog 88 0 = some (0, 1, 33) := by kernel_rfl
theorem fldo88_1 : VC.fldo Try.prog 88 1 = some (1, 1, 45) := by kernel_rfl
theorem fldo88_2 : VC.fldo Try.prog 88 2 = some (2, 1, 86) := by kernel_rfl
theorem fldo88_3 : VC.fldo Try.prog 88 3 = some (3, 1, 3) := by kernel_rfl
theorem fldo88_4 : VC.fldo Try.prog 88 4 = some (4, 1, 3) := by kernel_rfl
theorem fldo99_0 : VC.fldo Try.prog 99 0 = some (0, 1, 3) := by kernel_rfl
theorem fldo99_1 : VC.fldo Try.prog 99 1 = some (1, 1, 3) := by kernel_rfl
theorem fldo99_2 : VC.fldo Try.prog 99 2 = some (2, 1, 3) := by kernel_rfl
theorem isAggB102 : VC.isAggB Try.prog 102 = false := by kernel_rfl
theorem isAggB103 : VC.isAggB Try.prog 103 = false := by kernel_rfl
theorem isAggB105 : VC.isAggB Try.prog 105 = true := by kernel_rfl
theorem isAggB107 : VC.isAggB Try.prog 107 = true := by kernel_rfl
theorem isAggB109 : VC.isAggB Try.prog 109 = false := by kernel_rfl
theorem isAggB110 : VC.isAggB Try.prog 110 = false := by kernel_rfl
theorem isAggB112 : VC.isAggB Try.prog 112 = true := by kernel_rfl
theorem isAggB117 : VC.isAggB Try.prog 117 = true := by kernel_rfl
theorem isAggB120 : VC.isAggB Try.prog 120 = true := by kernel_rfl
theorem isAggB123 : VC.isAggB Try.prog 123 = false := by kernel_rfl
theorem isAggB124 : VC.isAggB Try.prog 124 = false := by kernel_rfl
theorem isAggB125 : VC.isAggB Try.prog 125 = false := by kernel_rfl
theorem isAggB127 : VC.isAggB Try.prog 127 = true := by kernel_rfl
theorem isAggB129 : VC.isAggB Try.prog 129 = true := by kernel_rfl
theorem isAggB131 : VC.isAggB Try.prog 131 = true := by kernel_rfl
theorem isAggB133 : VC.isAggB Try.prog 133 = true := by kernel_rfl
theorem isAggB135 : VC.isAggB Try.prog 135 = true := by kernel_rfl
theorem isAggB136 : VC.isAggB Try.prog 136 = false := by kernel_rfl
theorem isAggB138 : VC.isAggB Try.prog 138 = true := by kernel_rfl
theorem isAggB142 : VC.isAggB Try.prog 142 = false := by kernel_rfl
theorem isAggB143 : VC.isAggB Try.prog 143 = false := by kernel_rfl
theorem isAggB146 : VC.isAggB Try.prog 146 = true := by kernel_rfl
theorem isAggB148 : VC.isAggB Try.prog 148 = false := by kernel_rfl
theorem isAggB149 : VC.isAggB Try.prog 149 = false := by kernel_rfl
theorem isAggB151 : VC.isAggB Try.prog 151 = true := by kernel_rfl
theorem isAggB153 : VC.isAggB Try.prog 153 = true := by kernel_rfl
theorem isAggB154 : VC.isAggB Try.prog 154 = true := by kernel_rfl
theorem isAggB157 : VC.isAggB Try.prog 157 = true := by kernel_rfl
theorem isAggB158 : VC.isAggB Try.prog 158 = false := by kernel_rfl
theorem isAggB160 : VC.isAggB Try.prog 160 = false := by kernel_rfl
theorem isAggB162 : VC.isAggB Try.prog 162 = true := by kernel_rfl
theorem isAggB164 : VC.isAggB Try.prog 164 = false := by kernel_rfl
theorem isAggB165 : VC.isAggB Try.prog 165 = false := by kernel_rfl
theorem isAggB167 : VC.isAggB Try.prog 167 = true := by kernel_rfl
theorem isAggB168 : VC.isAggB Try.prog 168 = false := by kernel_rfl
theorem isAggB169 : VC.isAggB Try.prog 169 = false := by kernel_rfl
theorem isAggB171 : VC.isAggB Try.prog 171 = true := by kernel_rfl
theorem isAggB173 : VC.isAggB Try.prog 173 = true := by kernel_rfl
theorem isAggB175 : VC.isAggB Try.prog 175 = false := by kernel_rfl
theorem isAggB178 : VC.isAggB Try.prog 178 = true := by kernel_rfl
theorem isAggB180 : VC.isAggB Try.prog 180 = true := by kernel_rfl
theorem isAggB183 : VC.isAggB Try.prog 183 = false := by kernel_rfl
theorem isAggB184 : VC.isAggB Try.prog 184 = false := by kernel_rfl
theorem isAggB185 : VC.isAggB Try.prog 185 = false := by kernel_rfl
theorem isAggB187 : VC.isAggB Try.prog 187 = true := by kernel_rfl
theorem isAggB188 : VC.isAggB Try.prog 188 = false := by kernel_rfl
theorem isAggB190 : VC.isAggB Try.prog 190 = true := by kernel_rfl
theorem isAggB192 : VC.isAggB Try.prog 192 = true := by kernel_rfl
theorem isAggB194 : VC.isAggB Try.prog 194 = false := by kernel_rfl
theorem isAggB195 : VC.isAggB Try.prog 195 = false := by kernel_rfl
theorem isAggB198 : VC.isAggB Try.prog 198 = true := by kernel_rfl
theorem isAggB2 : VC.isAggB Try.prog 2 = false := by kernel_rfl
theorem isAggB20 : VC.isAggB Try.prog 20 = false := by kernel_rfl
theorem isAggB200 : VC.isAggB Try.prog 200 = true := by kernel_rfl
theorem isAggB202 : VC.isAggB Try.prog 202 = false := by kernel_rfl
theorem isAggB209 : VC.isAggB Try.prog 209 = false := by kernel_rfl
theorem isAggB212 : VC.isAggB Try.prog 212 = true := by kernel_rfl
theorem isAggB214 : VC.isAggB Try.prog 214 = false := by kernel_rfl
theorem isAggB215 : VC.isAggB Try.prog 215 = false := by kernel_rfl
theorem isAggB216 : VC.isAggB Try.prog 216 = false := by kernel_rfl
theorem isAggB218 : VC.isAggB Try.prog 218 = true := by kernel_rfl
theorem isAggB219 : VC.isAggB Try.prog 219 = false := by kernel_rfl
theorem isAggB22 : VC.isAggB Try.prog 22 = false := by kernel_rfl
theorem isAggB221 : VC.isAggB Try.prog 221 = true := by kernel_rfl
theorem isAggB223 : VC.isAggB Try.prog 223 = true := by kernel_rfl
theorem isAggB226 : VC.isAggB Try.prog 226 = true := by kernel_rfl
theorem isAggB227 : VC.isAggB Try.prog 227 = false := by kernel_rfl
theorem isAggB23 : VC.isAggB Try.prog 23 = false := by kernel_rfl
theorem isAggB230 : VC.isAggB Try.prog 230 = false := by kernel_rfl
theorem isAggB231 : VC.isAggB Try.prog 231 = false := by kernel_rfl
theorem isAggB233 : VC.isAggB Try.prog 233 = true := by kernel_rfl
theorem isAggB235 : VC.isAggB Try.prog 235 = true := by kernel_rfl
theorem isAggB239 : VC.isAggB Try.prog 239 = false := by kernel_rfl
theorem isAggB24 : VC.isAggB Try.prog 24 = false := by kernel_rfl
theorem isAggB240 : VC.isAggB Try.prog 240 = false := by kernel_rfl
theorem isAggB241 : VC.isAggB Try.prog 241 = false := by kernel_rfl
theorem isAggB243 : VC.isAggB Try.prog 243 = true := by kernel_rfl
theorem isAggB244 : VC.isAggB Try.prog 244 = false := by kernel_rfl
theorem isAggB246 : VC.isAggB Try.prog 246 = true := by kernel_rfl
theorem isAggB248 : VC.isAggB Try.prog 248 = false := by kernel_rfl
theorem isAggB251 : VC.isAggB Try.prog 251 = true := by kernel_rfl
theorem isAggB253 : VC.isAggB Try.prog 253 = false := by kernel_rfl
theorem isAggB258 : VC.isAggB Try.prog 258 = true := by kernel_rfl
theorem isAggB268 : VC.isAggB Try.prog 268 = true := by kernel_rfl
theorem isAggB270 : VC.isAggB Try.prog 270 = true := by kernel_rfl
theorem isAggB276 : VC.isAggB Try.prog 276 = false := by kernel_rfl
theorem isAggB280 : VC.isAggB Try.prog 280 = true := by kernel_rfl
theorem isAggB283 : VC.isAggB Try.prog 283 = true := by kernel_rfl
theorem isAggB295 : VC.isAggB Try.prog 295 = false := by kernel_rfl
theorem isAggB297 : VC.isAggB Try.prog 297 = true := by kernel_rfl
theorem isAggB3 : VC.isAggB Try.prog 3 = false := by kernel_rfl
theorem isAggB32 : VC.isAggB Try.prog 32 = false := by kernel_rfl
theorem isAggB33 : VC.isAggB Try.prog 33 = false := by kernel_rfl
theorem isAggB34 : VC.isAggB Try.prog 34 = false := by kernel_rfl
theorem isAggB35 : VC.isAggB Try.prog 35 = false := by kernel_rfl
theorem isAggB37 : VC.isAggB Try.prog 37 = true := by kernel_rfl
theorem isAggB4 : VC.isAggB Try.prog 4 = false := by kernel_rfl
theorem isAggB44 : VC.isAggB Try.prog 44 = false := by kernel_rfl
theorem isAggB45 : VC.isAggB Try.prog 45 = false := by kernel_rfl
theorem isAggB47 : VC.isAggB Try.prog 47 = true := by kernel_rfl
theorem isAggB53 : VC.isAggB Try.prog 53 = false := by kernel_rfl
theorem isAggB54 : VC.isAggB Try.prog 54 = false := by kernel_rfl
theorem isAggB56 : VC.isAggB Try.prog 56 = true := by kernel_rfl
theorem isAggB62 : VC.isAggB Try.prog 62 = false := by kernel_rfl
theorem isAggB64 : VC.isAggB Try.prog 64 = true := by kernel_rfl
theorem isAggB70 : VC.isAggB Try.prog 70 = false := by kernel_rfl
theorem isAggB72 : VC.isAggB Try.prog 72 = true := by kernel_rfl
theorem isAggB78 : VC.isAggB Try.prog 78 = false := by kernel_rfl
theorem isAggB84 : VC.isAggB Try.prog 84 = false := by kernel_rfl
theorem isAggB85 : VC.isAggB Try.prog 85 = false := by kernel_rfl
theorem isAggB86 : VC.isAggB Try.prog 86 = false := by kernel_rfl
theorem isAggB88 : VC.isAggB Try.prog 88 = true := by kernel_rfl
theorem isAggB95 : VC.isAggB Try.prog 95 = false := by kernel_rfl
theorem isAggB97 : VC.isAggB Try.prog 97 = false := by kernel_rfl
theorem isAggB99 : VC.isAggB Try.prog 99 = true := by kernel_rfl
theorem kOf102 : VC.kOf Try.prog 102 = .p := by kernel_rfl
theorem kOf103 : VC.kOf Try.prog 103 = .m := by kernel_rfl
theorem kOf105 : VC.kOf Try.prog 105 = .o := by kernel_rfl
theorem kOf107 : VC.kOf Try.prog 107 = .o := by kernel_rfl
theorem kOf109 : VC.kOf Try.prog 109 = .p := by kernel_rfl
theorem kOf110 : VC.kOf Try.prog 110 = .s := by kernel_rfl
theorem kOf112 : VC.kOf Try.prog 112 = .o := by kernel_rfl
theorem kOf117 : VC.kOf Try.prog 117 = .o := by kernel_rfl
theorem kOf120 : VC.kOf Try.prog 120 = .o := by kernel_rfl
theorem kOf123 : VC.kOf Try.prog 123 = .p := by kernel_rfl
theorem kOf124 : VC.kOf Try.prog 124 = .s := by kernel_rfl
theorem kOf125 : VC.kOf Try.prog 125 = .m := by kernel_rfl
theorem kOf127 : VC.kOf Try.prog 127 = .o := by kernel_rfl
theorem kOf129 : VC.kOf Try.prog 129 = .o := by kernel_rfl
theorem kOf131 : VC.kOf Try.prog 131 = .o := by kernel_rfl
theorem kOf133 : VC.kOf Try.prog 133 = .o := by kernel_rfl
theorem kOf135 : VC.kOf Try.prog 135 = .o := by kernel_rfl
theorem kOf136 : VC.kOf Try.prog 136 = .s := by kernel_rfl
theorem kOf138 : VC.kOf Try.prog 138 = .o := by kernel_rfl
theorem kOf142 : VC.kOf Try.prog 142 = .o := by kernel_rfl
theorem kOf143 : VC.kOf Try.prog 143 = .p := by kernel_rfl
theorem kOf146 : VC.kOf Try.prog 146 = .o := by kernel_rfl
theorem kOf148 : VC.kOf Try.prog 148 = .s := by kernel_rfl
theorem kOf149 : VC.kOf Try.prog 149 = .m := by kernel_rfl
theorem kOf151 : VC.kOf Try.prog 151 = .o := by kernel_rfl
theorem kOf153 : VC.kOf Try.prog 153 = .o := by kernel_rfl
theorem kOf154 : VC.kOf Try.prog 154 = .o := by kernel_rfl
theorem kOf157 : VC.kOf Try.prog 157 = .o := by kernel_rfl
theorem kOf158 : VC.kOf Try.prog 158 = .s := by kernel_rfl
theorem kOf160 : VC.kOf Try.prog 160 = .p := by kernel_rfl
theorem kOf162 : VC.kOf Try.prog 162 = .o := by kernel_rfl
theorem kOf164 : VC.kOf Try.prog 164 = .p := by kernel_rfl
theorem kOf165 : VC.kOf Try.prog 165 = .s := by kernel_rfl
theorem kOf167 : VC.kOf Try.prog 167 = .o := by kernel_rfl
theorem kOf168 : VC.kOf Try.prog 168 = .p := by kernel_rfl
theorem kOf169 : VC.kOf Try.prog 169 = .m := by kernel_rfl
theorem kOf171 : VC.kOf Try.prog 171 = .o := by kernel_rfl
theorem kOf173 : VC.kOf Try.prog 173 = .o := by kernel_rfl
theorem kOf175 : VC.kOf Try.prog 175 = .s := by kernel_rfl
theorem kOf178 : VC.kOf Try.prog 178 = .o := by kernel_rfl
theorem kOf180 : VC.kOf Try.prog 180 = .o := by kernel_rfl
theorem kOf183 : VC.kOf Try.prog 183 = .p := by kernel_rfl
theorem kOf184 : VC.kOf Try.prog 184 = .m := by kernel_rfl
theorem kOf185 : VC.kOf Try.prog 185 = .s := by kernel_rfl
theorem kOf187 : VC.kOf Try.prog 187 = .o := by kernel_rfl
theorem kOf188 : VC.kOf Try.prog 188 = .p := by kernel_rfl
theorem kOf190 : VC.kOf Try.prog 190 = .o := by kernel_rfl
theorem kOf192 : VC.kOf Try.prog 192 = .o := by kernel_rfl
theorem kOf194 : VC.kOf Try.prog 194 = .s := by kernel_rfl
theorem kOf195 : VC.kOf Try.prog 195 = .s := by kernel_rfl
theorem kOf198 : VC.kOf Try.prog 198 = .o := by kernel_rfl
theorem kOf2 : VC.kOf Try.prog 2 = .i .i64 := by kernel_rfl
theorem kOf20 : VC.kOf Try.prog 20 = .o := by kernel_rfl
theorem kOf200 : VC.kOf Try.prog 200 = .o := by kernel_rfl
theorem kOf202 : VC.kOf Try.prog 202 = .s := by kernel_rfl
theorem kOf209 : VC.kOf Try.prog 209 = .o := by kernel_rfl
theorem kOf212 : VC.kOf Try.prog 212 = .o := by kernel_rfl
theorem kOf214 : VC.kOf Try.prog 214 = .p := by kernel_rfl
theorem kOf215 : VC.kOf Try.prog 215 = .s := by kernel_rfl
theorem kOf216 : VC.kOf Try.prog 216 = .s := by kernel_rfl
theorem kOf218 : VC.kOf Try.prog 218 = .o := by kernel_rfl
theorem kOf219 : VC.kOf Try.prog 219 = .m := by kernel_rfl
theorem kOf22 : VC.kOf Try.prog 22 = .s := by kernel_rfl
theorem kOf221 : VC.kOf Try.prog 221 = .o := by kernel_rfl
theorem kOf223 : VC.kOf Try.prog 223 = .o := by kernel_rfl
theorem kOf226 : VC.kOf Try.prog 226 = .o := by kernel_rfl
theorem kOf227 : VC.kOf Try.prog 227 = .o := by kernel_rfl
theorem kOf23 : VC.kOf Try.prog 23 = .s := by kernel_rfl
theorem kOf230 : VC.kOf Try.prog 230 = .p := by kernel_rfl
theorem kOf231 : VC.kOf Try.prog 231 = .s := by kernel_rfl
theorem kOf233 : VC.kOf Try.prog 233 = .o := by kernel_rfl
theorem kOf235 : VC.kOf Try.prog 235 = .o := by kernel_rfl
theorem kOf239 : VC.kOf Try.prog 239 = .p := by kernel_rfl
theorem kOf24 : VC.kOf Try.prog 24 = .i .i64 := by kernel_rfl
theorem kOf240 : VC.kOf Try.prog 240 = .s := by kernel_rfl
theorem kOf241 : VC.kOf Try.prog 241 = .s := by kernel_rfl
theorem kOf243 : VC.kOf Try.prog 243 = .o := by kernel_rfl
theorem kOf244 : VC.kOf Try.prog 244 = .p := by kernel_rfl
theorem kOf246 : VC.kOf Try.prog 246 = .o := by kernel_rfl
theorem kOf248 : VC.kOf Try.prog 248 = .p := by kernel_rfl
theorem kOf251 : VC.kOf Try.prog 251 = .o := by kernel_rfl
theorem kOf253 : VC.kOf Try.prog 253 = .p := by kernel_rfl
theorem kOf258 : VC.kOf Try.prog 258 = .o := by kernel_rfl
theorem kOf268 : VC.kOf Try.prog 268 = .o := by kernel_rfl
theorem kOf270 : VC.kOf Try.prog 270 = .o := by kernel_rfl
theorem kOf276 : VC.kOf Try.prog 276 = .i .u64 := by kernel_rfl
theorem kOf280 : VC.kOf Try.prog 280 = .o := by kernel_rfl
theorem kOf283 : VC.kOf Try.prog 283 = .o := by kernel_rfl
theorem kOf295 : VC.kOf Try.prog 295 = .p := by kernel_rfl
theorem kOf297 : VC.kOf Try.prog 297 = .o := by kernel_rfl
theorem kOf3 : VC.kOf Try.prog 3 = .i .i64 := by kernel_rfl
theorem kOf32 : VC.kOf Try.prog 32 = .s := by kernel_rfl
theorem kOf33 : VC.kOf Try.prog 33 = .s := by kernel_rfl
theorem kOf34 : VC.kOf Try.prog 34 = .s := by kernel_rfl
theorem kOf35 : VC.kOf Try.prog 35 = .s := by kernel_rfl
theorem kOf37 : VC.kOf Try.prog 37 = .o := by kernel_rfl
theorem kOf4 : VC.kOf Try.prog 4 = .b := by kernel_rfl
theorem kOf44 : VC.kOf Try.prog 44 = .s := by kernel_rfl
theorem kOf45 : VC.kOf Try.prog 45 = .s := by kernel_rfl
theorem kOf47 : VC.kOf Try.prog 47 = .o := by kernel_rfl
theorem kOf53 : VC.kOf Try.prog 53 = .s := by kernel_rfl
theorem kOf54 : VC.kOf Try.prog 54 = .s := by kernel_rfl
theorem kOf56 : VC.kOf Try.prog 56 = .o := by kernel_rfl
theorem kOf62 : VC.kOf Try.prog 62 = .s := by kernel_rfl
theorem kOf64 : VC.kOf Try.prog 64 = .o := by kernel_rfl
theorem kOf70 : VC.kOf Try.prog 70 = .s := by kernel_rfl
theorem kOf72 : VC.kOf Try.prog 72 = .o := by kernel_rfl
theorem kOf78 : VC.kOf Try.prog 78 = .s := by kernel_rfl
theorem kOf84 : VC.kOf Try.prog 84 = .i .u32 := by kernel_rfl
theorem kOf85 : VC.kOf Try.prog 85 = .s := by kernel_rfl
theorem kOf86 : VC.kOf Try.prog 86 = .s := by kernel_rfl
theorem kOf88 : VC.kOf Try.prog 88 = .o := by kernel_rfl
theorem kOf95 : VC.kOf Try.prog 95 = .m := by kernel_rfl
theorem kOf97 : VC.kOf Try.prog 97 = .m := by kernel_rfl
theorem kOf99 : VC.kOf Try.prog 99 = .o := by kernel_rfl
theorem kinds102 : VC.kinds Try.prog 8 102 = [.p] := by kernel_rfl
theorem kinds103 : VC.kinds Try.prog 8 103 = [.m] := by kernel_rfl
theorem kinds105 : VC.kinds Try.prog 8 105 = [.s, .m, .s, .s, .s, .s] := by kernel_rfl
theorem kinds107 : VC.kinds Try.prog 8 107 = [.i .i64, .i .i64, .i .i64, .i .i64] := by kernel_rfl
theorem kinds109 : VC.kinds Try.prog 8 109 = [.p] := by kernel_rfl
theorem kinds110 : VC.kinds Try.prog 8 110 = [.s] := by kernel_rfl
theorem kinds112 : VC.kinds Try.prog 8 112 = [.i .i64, .s, .s, .s, .s] := by kernel_rfl
theorem kinds117 : VC.kinds Try.prog 8 117 = [.i .i64, .i .i64] := by kernel_rfl
theorem kinds120 : VC.kinds Try.prog 8 120 = [.i .i64, .i .i64, .i .i64] := by kernel_rfl
theorem kinds123 : VC.kinds Try.prog 8 123 = [.p] := by kernel_rfl
theorem kinds124 : VC.kinds Try.prog 8 124 = [.s] := by kernel_rfl
theorem kinds125 : VC.kinds Try.prog 8 125 = [.m] := by kernel_rfl
theorem kinds127 : VC.kinds Try.prog 8 127 = [.s, .m, .m, .b] := by kernel_rfl
theorem kinds129 : VC.kinds Try.prog 8 129 = [.b, .b, .i .i64, .i .i64] := by kernel_rfl
theorem kinds131 : VC.kinds Try.prog 8 131 = [.i .i64, .i .i64, .i .i64] := by kernel_rfl
theorem kinds133 : VC.kinds Try.prog 8 133 = [.m, .m] := by kernel_rfl
theorem kinds135 : VC.kinds Try.prog 8 135 = [.i .i64, .i .i64] := by kernel_rfl
theorem kinds136 : VC.kinds Try.prog 8 136 = [.s] := by kernel_rfl
theorem kinds138 : VC.kinds Try.prog 8 138 = [.b, .b, .i .i64, .i .i64] := by kernel_rfl
theorem kinds142 : VC.kinds Try.prog 8 142 = [.o] := by kernel_rfl
theorem kinds143 : VC.kinds Try.prog 8 143 = [.p] := by kernel_rfl
theorem kinds146 : VC.kinds Try.prog 8 146 = [.i .i64, .i .i64, .i .i64, .i .i64] := by kernel_rfl
theorem kinds148 : VC.kinds Try.prog 8 148 = [.s] := by kernel_rfl
theorem kinds149 : VC.kinds Try.prog 8 149 = [.m] := by kernel_rfl
theorem kinds151 : VC.kinds Try.prog 8 151 = [.s, .m] := by kernel_rfl
theorem kinds153 : VC.kinds Try.prog 8 153 = [.i .i64, .i .i64] := by kernel_rfl
theorem kinds154 : VC.kinds Try.prog 8 154 = [.i .i64, .i .i64] := by kernel_rfl
theorem kinds157 : VC.kinds Try.prog 8 157 = [.s, .s, .b] := by kernel_rfl
theorem kinds158 : VC.kinds Try.prog 8 158 = [.s] := by kernel_rfl
theorem kinds160 : VC.kinds Try.prog 8 160 = [.p] := by kernel_rfl
theorem kinds162 : VC.kinds Try.prog 8 162 = [.s, .i .i64, .i .i64] := by kernel_rfl
theorem kinds164 : VC.kinds Try.prog 8 164 = [.p] := by kernel_rfl
theorem kinds165 : VC.kinds Try.prog 8 165 = [.s] := by kernel_rfl
theorem kinds167 : VC.kinds Try.prog 8 167 = [.s, .i .i64] := by kernel_rfl
theorem kinds168 : VC.kinds Try.prog 8 168 = [.p] := by kernel_rfl
theorem kinds169 : VC.kinds Try.prog 8 169 = [.m] := by kernel_rfl
theorem kinds171 : VC.kinds Try.prog 8 171 = [.i .i64, .m, .s] := by kernel_rfl
theorem kinds173 : VC.kinds Try.prog 8 173 = [.i .i64, .i .i64, .i .i64] := by kernel_rfl
theorem kinds175 : VC.kinds Try.prog 8 175 = [.s] := by kernel_rfl
theorem kinds178 : VC.kinds Try.prog 8 178 = [.i .i64, .i .i64] := by kernel_rfl
theorem kinds180 : VC.kinds Try.prog 8 180 = [.i .i64, .i .i64, .b, .b, .b] := by kernel_rfl
theorem kinds183 : VC.kinds Try.prog 8 183 = [.p] := by kernel_rfl
theorem kinds184 : VC.kinds Try.prog 8 184 = [.m] := by kernel_rfl
theorem kinds185 : VC.kinds Try.prog 8 185 = [.s] := by kernel_rfl
theorem kinds187 : VC.kinds Try.prog 8 187 = [.s, .m, .s] := by kernel_rfl
theorem kinds188 : VC.kinds Try.prog 8 188 = [.p] := by kernel_rfl
theorem kinds190 : VC.kinds Try.prog 8 190 = [.i .i64, .i .i64, .i .i64, .s, .i .i64] := by kernel_rfl
theorem kinds192 : VC.kinds Try.prog 8 192 = [.i .i64, .i .i64, .i .i64] := by kernel_rfl
theorem kinds194 : VC.kinds Try.prog 8 194 = [.s] := by kernel_rfl
theorem kinds195 : VC.kinds Try.prog 8 195 = [.s] := by kernel_rfl
theorem kinds198 : VC.kinds Try.prog 8 198 = [.i .i64, .i .i64, .i .i64, .i .i64, .s] := by kernel_rfl
theorem kinds2 : VC.kinds Try.prog 8 2 = [.i .i64] := by kernel_rfl
theorem kinds20 : VC.kinds Try.prog 8 20 = [.o] := by kernel_rfl
theorem kinds200 : VC.kinds Try.prog 8 200 = [.i .i64, .i .i64, .i .i64, .b] := by kernel_rfl
theorem kinds202 : VC.kinds Try.prog 8 202 = [.s] := by kernel_rfl
theorem kinds209 : VC.kinds Try.prog 8 209 = [.o] := by kernel_rfl
theorem kinds212 : VC.kinds Try.prog 8 212 = [.i .i64, .i .i64, .i .u32] := by kernel_rfl
theorem kinds214 : VC.kinds Try.prog 8 214 = [.p] := by kernel_rfl
theorem kinds215 : VC.kinds Try.prog 8 215 = [.s] := by kernel_rfl
theorem kinds216 : VC.kinds Try.prog 8 216 = [.s] := by kernel_rfl
theorem kinds218 : VC.kinds Try.prog 8 218 = [.i .i64, .i .i64, .i .u32, .i .i64, .s, .s, .b] := by kernel_rfl
theorem kinds219 : VC.kinds Try.prog 8 219 = [.m] := by kernel_rfl
theorem kinds22 : VC.kinds Try.prog 8 22 = [.s] := by kernel_rfl
theorem kinds221 : VC.kinds Try.prog 8 221 = [.m, .b, .b, .b, .i .i64] := by kernel_rfl
theorem kinds223 : VC.kinds Try.prog 8 223 = [.i .i64, .i .i64, .i .i64, .i .i64, .i .i64, .i .i64] := by kernel_rfl
theorem kinds226 : VC.kinds Try.prog 8 226 = [.i .i64, .i .i64, .i .i64, .i .i64, .b] := by kernel_rfl
theorem kinds227 : VC.kinds Try.prog 8 227 = [.o] := by kernel_rfl
theorem kinds23 : VC.kinds Try.prog 8 23 = [.s] := by kernel_rfl
theorem kinds230 : VC.kinds Try.prog 8 230 = [.p] := by kernel_rfl
theorem kinds231 : VC.kinds Try.prog 8 231 = [.s] := by kernel_rfl
theorem kinds233 : VC.kinds Try.prog 8 233 = [.i .i64, .i .i64, .i .i64, .i .u32, .s, .s, .b] := by kernel_rfl
theorem kinds235 : VC.kinds Try.prog 8 235 = [.b, .b, .b, .i .i64, .i .i64] := by kernel_rfl
theorem kinds239 : VC.kinds Try.prog 8 239 = [.p] := by kernel_rfl
theorem kinds24 : VC.kinds Try.prog 8 24 = [.i .i64] := by kernel_rfl
theorem kinds240 : VC.kinds Try.prog 8 240 = [.s] := by kernel_rfl
theorem kinds241 : VC.kinds Try.prog 8 241 = [.s] := by kernel_rfl
theorem kinds243 : VC.kinds Try.prog 8 243 = [.s, .s] := by kernel_rfl
theorem kinds244 : VC.kinds Try.prog 8 244 = [.p] := by kernel_rfl
theorem kinds246 : VC.kinds Try.prog 8 246 = [.s, .s, .m, .s] := by kernel_rfl
theorem kinds248 : VC.kinds Try.prog 8 248 = [.p] := by kernel_rfl
theorem kinds251 : VC.kinds Try.prog 8 251 = [.i .i64, .i .i64, .i .i64, .i .i64, .b, .m] := by kernel_rfl
theorem kinds253 : VC.kinds Try.prog 8 253 = [.p] := by kernel_rfl
theorem kinds258 : VC.kinds Try.prog 8 258 = [.i .i64, .i .i64, .i .i64, .i .i64] := by kernel_rfl
theorem kinds268 : VC.kinds Try.prog 8 268 = [.i .i64, .i .i64] := by kernel_rfl
theorem kinds270 : VC.kinds Try.prog 8 270 = [.i .i64, .i .i64, .b, .b] := by kernel_rfl
theorem kinds276 : VC.kinds Try.prog 8 276 = [.i .u64] := by kernel_rfl
theorem kinds280 : VC.kinds Try.prog 8 280 = [.i .i64, .i .i64, .i .i64, .i .i64, .b] := by kernel_rfl
theorem kinds283 : VC.kinds Try.prog 8 283 = [.i .i64, .s] := by kernel_rfl
theorem kinds295 : VC.kinds Try.prog 8 295 = [.p] := by kernel_rfl
theorem kinds297 : VC.kinds Try.prog 8 297 = [.i .i64, .i .i64] := by kernel_rfl
theorem kinds3 : VC.kinds Try.prog 8 3 = [.i .i64] := by kernel_rfl
theorem kinds32 : VC.kinds Try.prog 8 32 = [.s] := by kernel_rfl
theorem kinds33 : VC.kinds Try.prog 8 33 = [.s] := by kernel_rfl
theorem kinds34 : VC.kinds Try.prog 8 34 = [.s] := by kernel_rfl
theorem kinds35 : VC.kinds Try.prog 8 35 = [.s] := by kernel_rfl
theorem kinds37 : VC.kinds Try.prog 8 37 = [.s, .s, .s, .s] := by kernel_rfl
theorem kinds4 : VC.kinds Try.prog 8 4 = [.b] := by kernel_rfl
theorem kinds44 : VC.kinds Try.prog 8 44 = [.s] := by kernel_rfl
theorem kinds45 : VC.kinds Try.prog 8 45 = [.s] := by kernel_rfl
theorem kinds47 : VC.kinds Try.prog 8 47 = [.s, .s, .s, .i .i64, .b] := by kernel_rfl
theorem kinds53 : VC.kinds Try.prog 8 53 = [.s] := by kernel_rfl
theorem kinds54 : VC.kinds Try.prog 8 54 = [.s] := by kernel_rfl
theorem kinds56 : VC.kinds Try.prog 8 56 = [.s, .s, .s, .s, .b] := by kernel_rfl
theorem kinds62 : VC.kinds Try.prog 8 62 = [.s] := by kernel_rfl
theorem kinds64 : VC.kinds Try.prog 8 64 = [.s, .s] := by kernel_rfl
theorem kinds70 : VC.kinds Try.prog 8 70 = [.s] := by kernel_rfl
theorem kinds72 : VC.kinds Try.prog 8 72 = [.s, .s, .s, .i .i64] := by kernel_rfl
theorem kinds78 : VC.kinds Try.prog 8 78 = [.s] := by kernel_rfl
theorem kinds84 : VC.kinds Try.prog 8 84 = [.i .u32] := by kernel_rfl
theorem kinds85 : VC.kinds Try.prog 8 85 = [.s] := by kernel_rfl
theorem kinds86 : VC.kinds Try.prog 8 86 = [.s] := by kernel_rfl
theorem kinds88 : VC.kinds Try.prog 8 88 = [.s, .s, .s, .i .i64, .i .i64] := by kernel_rfl
theorem kinds95 : VC.kinds Try.prog 8 95 = [.m] := by kernel_rfl
theorem kinds97 : VC.kinds Try.prog 8 97 = [.m] := by kernel_rfl
theorem kinds99 : VC.kinds Try.prog 8 99 = [.i .i64, .i .i64, .i .i64] := by kernel_rfl
theorem knownB102 : VC.knownB Try.prog 102 = true := by kernel_rfl
theorem knownB103 : VC.knownB Try.prog 103 = true := by kernel_rfl
theorem knownB105 : VC.knownB Try.prog 105 = true := by kernel_rfl
theorem knownB107 : VC.knownB Try.prog 107 = true := by kernel_rfl
theorem knownB109 : VC.knownB Try.prog 109 = true := by kernel_rfl
theorem knownB110 : VC.knownB Try.prog 110 = true := by kernel_rfl
theorem knownB112 : VC.knownB Try.prog 112 = true := by kernel_rfl
theorem knownB117 : VC.knownB Try.prog 117 = true := by kernel_rfl
theorem knownB120 : VC.knownB Try.prog 120 = true := by kernel_rfl
theorem knownB123 : VC.knownB Try.prog 123 = true := by kernel_rfl
theorem knownB124 : VC.knownB Try.prog 124 = true := by kernel_rfl
theorem knownB125 : VC.knownB Try.prog 125 = true := by kernel_rfl
theorem knownB127 : VC.knownB Try.prog 127 = true := by kernel_rfl
theorem knownB129 : VC.knownB Try.prog 129 = true := by kernel_rfl
theorem knownB131 : VC.knownB Try.prog 131 = true := by kernel_rfl
theorem knownB133 : VC.knownB Try.prog 133 = true := by kernel_rfl
theorem knownB135 : VC.knownB Try.prog 135 = true := by kernel_rfl
theorem knownB136 : VC.knownB Try.prog 136 = true := by kernel_rfl
theorem knownB138 : VC.knownB Try.prog 138 = true := by kernel_rfl
theorem knownB142 : VC.knownB Try.prog 142 = true := by kernel_rfl
theorem knownB143 : VC.knownB Try.prog 143 = true := by kernel_rfl
theorem knownB146 : VC.knownB Try.prog 146 = true := by kernel_rfl
theorem knownB148 : VC.knownB Try.prog 148 = true := by kernel_rfl
theorem knownB149 : VC.knownB Try.prog 149 = true := by kernel_rfl
theorem knownB151 : VC.knownB Try.prog 151 = true := by kernel_rfl
theorem knownB153 : VC.knownB Try.prog 153 = true := by kernel_rfl
theorem knownB154 : VC.knownB Try.prog 154 = true := by kernel_rfl
theorem knownB157 : VC.knownB Try.prog 157 = true := by kernel_rfl
theorem knownB158 : VC.knownB Try.prog 158 = true := by kernel_rfl
theorem knownB160 : VC.knownB Try.prog 160 = true := by kernel_rfl
theorem knownB162 : VC.knownB Try.prog 162 = true := by kernel_rfl
theorem knownB164 : VC.knownB Try.prog 164 = true := by kernel_rfl
theorem knownB165 : VC.knownB Try.prog 165 = true := by kernel_rfl
theorem knownB167 : VC.knownB Try.prog 167 = true := by kernel_rfl
theorem knownB168 : VC.knownB Try.prog 168 = true := by kernel_rfl
theorem knownB169 : VC.knownB Try.prog 169 = true := by kernel_rfl
theorem knownB171 : VC.knownB Try.prog 171 = true := by kernel_rfl
theorem knownB173 : VC.knownB Try.prog 173 = true := by kernel_rfl
theorem knownB175 : VC.knownB Try.prog 175 = true := by kernel_rfl
theorem knownB178 : VC.knownB Try.prog 178 = true := by kernel_rfl
theorem knownB180 : VC.knownB Try.prog 180 = true := by kernel_rfl
theorem knownB183 : VC.knownB Try.prog 183 = true := by kernel_rfl
theorem knownB184 : VC.knownB Try.prog 184 = true := by kernel_rfl
theorem knownB185 : VC.knownB Try.prog 185 = true := by kernel_rfl
theorem knownB187 : VC.knownB Try.prog 187 = true := by kernel_rfl
theorem knownB188 : VC.knownB Try.prog 188 = true := by kernel_rfl
theorem knownB190 : VC.knownB Try.prog 190 = true := by kernel_rfl
theorem knownB192 : VC.knownB Try.prog 192 = true := by kernel_rfl
theorem knownB194 : VC.knownB Try.prog 194 = true := by kernel_rfl
theorem knownB195 : VC.knownB Try.prog 195 = true := by kernel_rfl
theorem knownB198 : VC.knownB Try.prog 198 = true := by kernel_rfl
theorem knownB2 : VC.knownB Try.prog 2 = true := by kernel_rfl
theorem knownB20 : VC.knownB Try.prog 20 = true := by kernel_rfl
theorem knownB200 : VC.knownB Try.prog 200 = true := by kernel_rfl
theorem knownB202 : VC.knownB Try.prog 202 = true := by kernel_rfl
theorem knownB209 : VC.knownB Try.prog 209 = true := by kernel_rfl
theorem knownB212 : VC.knownB Try.prog 212 = true := by kernel_rfl
theorem knownB214 : VC.knownB Try.prog 214 = true := by kernel_rfl
theorem knownB215 : VC.knownB Try.prog 215 = true := by kernel_rfl
theorem knownB216 : VC.knownB Try.prog 216 = true := by kernel_rfl
theorem knownB218 : VC.knownB Try.prog 218 = true := by kernel_rfl
theorem knownB219 : VC.knownB Try.prog 219 = true := by kernel_rfl
theorem knownB22 : VC.knownB Try.prog 22 = true := by kernel_rfl
theorem knownB221 : VC.knownB Try.prog 221 = true := by kernel_rfl
theorem knownB223 : VC.knownB Try.prog 223 = true := by kernel_rfl
theorem knownB226 : VC.knownB Try.prog 226 = true := by kernel_rfl
theorem knownB227 : VC.knownB Try.prog 227 = true := by kernel_rfl
theorem knownB23 : VC.knownB Try.prog 23 = true := by kernel_rfl
theorem knownB230 : VC.knownB Try.prog 230 = true := by kernel_rfl
theorem knownB231 : VC.knownB Try.prog 231 = true := by kernel_rfl
theorem knownB233 : VC.knownB Try.prog 233 = true := by kernel_rfl
theorem knownB235 : VC.knownB Try.prog 235 = true := by kernel_rfl
theorem knownB239 : VC.knownB Try.prog 239 = true := by kernel_rfl
theorem knownB24 : VC.knownB Try.prog 24 = true := by kernel_rfl
theorem knownB240 : VC.knownB Try.prog 240 = true := by kernel_rfl
theorem knownB241 : VC.knownB Try.prog 241 = true := by kernel_rfl
theorem knownB243 : VC.knownB Try.prog 243 = true := by kernel_rfl
theorem knownB244 : VC.knownB Try.prog 244 = true := by kernel_rfl
theorem knownB246 : VC.knownB Try.prog 246 = true := by kernel_rfl
theorem knownB248 : VC.knownB Try.prog 248 = true := by kernel_rfl
theorem knownB251 : VC.knownB Try.prog 251 = true := by kernel_rfl
theorem knownB253 : VC.knownB Try.prog 253 = true := by kernel_rfl
theorem knownB258 : VC.knownB Try.prog 258 = true := by kernel_rfl
theorem knownB268 : VC.knownB Try.prog 268 = true := by kernel_rfl
theorem knownB270 : VC.knownB Try.prog 270 = true := by kernel_rfl
theorem knownB276 : VC.knownB Try.prog 276 = true := by kernel_rfl
theorem knownB280 : VC.knownB Try.prog 280 = true := by kernel_rfl
theorem knownB283 : VC.knownB Try.prog 283 = true := by kernel_rfl
theorem knownB295 : VC.knownB Try.prog 295 = true := by kernel_rfl
theorem knownB297 : VC.knownB Try.prog 297 = true := by kernel_rfl
theorem knownB3 : VC.knownB Try.prog 3 = true := by kernel_rfl
theorem knownB32 : VC.knownB Try.prog 32 = true := by kernel_rfl
theorem knownB33 : VC.knownB Try.prog 33 = true := by kernel_rfl
theorem knownB34 : VC.knownB Try.prog 34 = true := by kernel_rfl
theorem knownB35 : VC.knownB Try.prog 35 = true := by kernel_rfl
theorem knownB37 : VC.knownB Try.prog 37 = true := by kernel_rfl
theorem knownB4 : VC.knownB Try.prog 4 = true := by kernel_rfl
theorem knownB44 : VC.knownB Try.prog 44 = true := by kernel_rfl
theorem knownB45 : VC.knownB Try.prog 45 = true := by kernel_rfl
theorem knownB47 : VC.knownB Try.prog 47 = true := by kernel_rfl
theorem knownB53 : VC.knownB Try.prog 53 = true := by kernel_rfl
theorem knownB54 : VC.knownB Try.prog 54 = true := by kernel_rfl
theorem knownB56 : VC.knownB Try.prog 56 = true := by kernel_rfl
theorem knownB62 : VC.knownB Try.prog 62 = true := by kernel_rfl
theorem knownB64 : VC.knownB Try.prog 64 = true := by kernel_rfl
theorem knownB70 : VC.knownB Try.prog 70 = true := by kernel_rfl
theorem knownB72 : VC.knownB Try.prog 72 = true := by kernel_rfl
theorem knownB78 : VC.knownB Try.prog 78 = true := by kernel_rfl
theorem knownB84 : VC.knownB Try.prog 84 = true := by kernel_rfl
theorem knownB85 : VC.knownB Try.prog 85 = true := by kernel_rfl
theorem knownB86 : VC.knownB Try.prog 86 = true := by kernel_rfl
theorem knownB88 : VC.knownB Try.prog 88 = true := by kernel_rfl
theorem knownB95 : VC.knownB Try.prog 95 = true := by kernel_rfl
theorem knownB97 : VC.knownB Try.prog 97 = true := by kernel_rfl
theorem knownB99 : VC.knownB Try.prog 99 = true := by kernel_rfl
theorem placeo105 : VC.placeo Try.prog 105 = some [(0, 1), (1, 1), (2, 4)] := by kernel_rfl
theorem placeo107 : VC.placeo Try.prog 107 = some [(0, 1), (1, 1), (2, 1), (3, 1)] := by kernel_rfl
theorem placeo112 : VC.placeo Try.prog 112 = some [(0, 1), (1, 1), (2, 1), (3, 1), (4, 1)] := by kernel_rfl
theorem placeo117 : VC.placeo Try.prog 117 = some [(0, 1), (1, 1)] := by kernel_rfl
theorem placeo120 : VC.placeo Try.prog 120 = some [(0, 1), (1, 2)] := by kernel_rfl
theorem placeo127 : VC.placeo Try.prog 127 = some [(0, 1), (1, 1), (2, 1), (3, 1)] := by kernel_rfl
theorem placeo129 : VC.placeo Try.prog 129 = some [(0, 1), (1, 1), (2, 1), (3, 1)] := by kernel_rfl
theorem placeo131 : VC.placeo Try.prog 131 = some [(0, 1), (1, 1), (2, 1)] := by kernel_rfl
theorem placeo133 : VC.placeo Try.prog 133 = some [(0, 1), (1, 1)] := by kernel_rfl
theorem placeo135 : VC.placeo Try.prog 135 = some [(0, 1), (1, 1)] := by kernel_rfl
theorem placeo138 : VC.placeo Try.prog 138 = some [(0, 1), (1, 1), (2, 1), (3, 1)] := by kernel_rfl
theorem placeo146 : VC.placeo Try.prog 146 = some [(0, 1), (1, 1), (2, 1), (3, 1)] := by kernel_rfl
theorem placeo151 : VC.placeo Try.prog 151 = some [(0, 1), (1, 1)] := by kernel_rfl
theorem placeo153 : VC.placeo Try.prog 153 = some [(0, 1), (1, 1)] := by kernel_rfl
theorem placeo154 : VC.placeo Try.prog 154 = some [(0, 1), (1, 1)] := by kernel_rfl
theorem placeo157 : VC.placeo Try.prog 157 = some [(0, 1), (1, 1), (2, 1)] := by kernel_rfl
theorem placeo162 : VC.placeo Try.prog 162 = some [(0, 1), (1, 1), (2, 1)] := by kernel_rfl
theorem placeo167 : VC.placeo Try.prog 167 = some [(0, 1), (1, 1)] := by kernel_rfl
theorem placeo171 : VC.placeo Try.prog 171 = some [(0, 1), (1, 1), (2, 1)] := by kernel_rfl
theorem placeo173 : VC.placeo Try.prog 173 = some [(0, 1), (1, 1), (2, 1)] := by kernel_rfl
theorem placeo178 : VC.placeo Try.prog 178 = some [(0, 1), (1, 1)] := by kernel_rfl
theorem placeo180 : VC.placeo Try.prog 180 = some [(0, 2), (2, 1), (3, 1), (4, 1)] := by kernel_rfl
theorem placeo187 : VC.placeo Try.prog 187 = some [(0, 1), (1, 1), (2, 1)] := by kernel_rfl
theorem placeo190 : VC.placeo Try.prog 190 = some [(0, 1), (1, 1), (2, 1), (3, 1), (4, 1)] := by kernel_rfl
theorem placeo192 : VC.placeo Try.prog 192 = some [(0, 1), (1, 1), (2, 1)] := by kernel_rfl
theorem placeo198 : VC.placeo Try.prog 198 = some [(0, 1), (1, 1), (2, 1), (3, 1), (4, 1)] := by kernel_rfl
theorem placeo200 : VC.placeo Try.prog 200 = some [(0, 1), (1, 1), (2, 1), (3, 1)] := by kernel_rfl
theorem placeo212 : VC.placeo Try.prog 212 = some [(0, 1), (1, 1), (2, 1)] := by kernel_rfl
theorem placeo218 : VC.placeo Try.prog 218 = some [(0, 1), (1, 1), (2, 1), (3, 1), (4, 1), (5, 1), (6, 1)] := by kernel_rfl
theorem placeo221 : VC.placeo Try.prog 221 = some [(0, 1), (1, 1), (2, 1), (3, 1), (4, 1)] := by kernel_rfl
theorem placeo223 : VC.placeo Try.prog 223 = some [(0, 1), (1, 1), (2, 1), (3, 1), (4, 1), (5, 1)] := by kernel_rfl
theorem placeo226 : VC.placeo Try.prog 226 = some [(0, 1), (1, 1), (2, 1), (3, 1), (4, 1)] := by kernel_rfl
theorem placeo233 : VC.placeo Try.prog 233 = some [(0, 1), (1, 1), (2, 1), (3, 1), (4, 1), (5, 1), (6, 1)] := by kernel_rfl
theorem placeo235 : VC.placeo Try.prog 235 = some [(0, 1), (1, 1), (2, 1), (3, 1), (4, 1)] := by kernel_rfl
theorem placeo243 : VC.placeo Try.prog 243 = some [(0, 1), (1, 1)] := by kernel_rfl
theorem placeo246 : VC.placeo Try.prog 246 = some [(0, 1), (1, 1), (2, 1), (3, 1)] := by kernel_rfl
theorem placeo251 : VC.placeo Try.prog 251 = some [(0, 1), (1, 2), (3, 1), (4, 1), (5, 1)] := by kernel_rfl
theorem placeo258 : VC.placeo Try.prog 258 = some [(0, 1), (1, 1), (2, 2)] := by kernel_rfl
theorem placeo268 : VC.placeo Try.prog 268 = some [(0, 1), (1, 1)] := by kernel_rfl
theorem placeo270 : VC.placeo Try.prog 270 = some [(0, 2), (2, 1), (3, 1)] := by kernel_rfl
theorem placeo280 : VC.placeo Try.prog 280 = some [(0, 1), (1, 1), (2, 1), (3, 1), (4, 1)] := by kernel_rfl
theorem placeo283 : VC.placeo Try.prog 283 = some [(0, 1), (1, 1)] := by kernel_rfl
theorem placeo297 : VC.placeo Try.prog 297 = some [(0, 1), (1, 1)] := by kernel_rfl
theorem placeo37 : VC.placeo Try.prog 37 = some [(0, 1), (1, 1), (2, 1), (3, 1)] := by kernel_rfl
theorem placeo47 : VC.placeo Try.prog 47 = some [(0, 1), (1, 1), (2, 1), (3, 1), (4, 1)] := by kernel_rfl
theorem placeo56 : VC.placeo Try.prog 56 = some [(0, 1), (1, 1), (2, 1), (3, 1), (4, 1)] := by kernel_rfl
theorem placeo64 : VC.placeo Try.prog 64 = some [(0, 1), (1, 1)] := by kernel_rfl
theorem placeo72 : VC.placeo Try.prog 72 = some [(0, 1), (1, 1), (2, 1), (3, 1)] := by kernel_rfl
theorem placeo88 : VC.placeo Try.prog 88 = some [(0, 1), (1, 1), (2, 1), (3, 1), (4, 1)] := by kernel_rfl
theorem placeo99 : VC.placeo Try.prog 99 = some [(0, 1), (1, 1), (2, 1)] := by kernel_rfl
theorem szo102 : VC.szo Try.prog 102 = some 1 := by kernel_rfl
theorem szo103 : VC.szo Try.prog 103 = some 1 := by kernel_rfl
theorem szo105 : VC.szo Try.prog 105 = some 6 := by kernel_rfl
theorem szo107 : VC.szo Try.prog 107 = some 4 := by kernel_rfl
theorem szo109 : VC.szo Try.prog 109 = some 1 := by kernel_rfl
theorem szo110 : VC.szo Try.prog 110 = some 1 := by kernel_rfl
theorem szo112 : VC.szo Try.prog 112 = some 5 := by kernel_rfl
theorem szo117 : VC.szo Try.prog 117 = some 2 := by kernel_rfl
theorem szo120 : VC.szo Try.prog 120 = some 3 := by kernel_rfl
theorem szo123 : VC.szo Try.prog 123 = some 1 := by kernel_rfl
theorem szo124 : VC.szo Try.prog 124 = some 1 := by kernel_rfl
theorem szo125 : VC.szo Try.prog 125 = some 1 := by kernel_rfl
theorem szo127 : VC.szo Try.prog 127 = some 4 := by kernel_rfl
theorem szo129 : VC.szo Try.prog 129 = some 4 := by kernel_rfl
theorem szo131 : VC.szo Try.prog 131 = some 3 := by kernel_rfl
theorem szo133 : VC.szo Try.prog 133 = some 2 := by kernel_rfl
theorem szo135 : VC.szo Try.prog 135 = some 2 := by kernel_rfl
theorem szo136 : VC.szo Try.prog 136 = some 1 := by kernel_rfl
theorem szo138 : VC.szo Try.prog 138 = some 4 := by kernel_rfl
theorem szo142 : VC.szo Try.prog 142 = some 1 := by kernel_rfl
theorem szo143 : VC.szo Try.prog 143 = some 1 := by kernel_rfl
theorem szo146 : VC.szo Try.prog 146 = some 4 := by kernel_rfl
theorem szo148 : VC.szo Try.prog 148 = some 1 := by kernel_rfl
theorem szo149 : VC.szo Try.prog 149 = some 1 := by kernel_rfl
theorem szo151 : VC.szo Try.prog 151 = some 2 := by kernel_rfl
theorem szo153 : VC.szo Try.prog 153 = some 2 := by kernel_rfl
theorem szo154 : VC.szo Try.prog 154 = some 2 := by kernel_rfl
theorem szo157 : VC.szo Try.prog 157 = some 3 := by kernel_rfl
theorem szo158 : VC.szo Try.prog 158 = some 1 := by kernel_rfl
theorem szo160 : VC.szo Try.prog 160 = some 1 := by kernel_rfl
theorem szo162 : VC.szo Try.prog 162 = some 3 := by kernel_rfl
theorem szo164 : VC.szo Try.prog 164 = some 1 := by kernel_rfl
theorem szo165 : VC.szo Try.prog 165 = some 1 := by kernel_rfl
theorem szo167 : VC.szo Try.prog 167 = some 2 := by kernel_rfl
theorem szo168 : VC.szo Try.prog 168 = some 1 := by kernel_rfl
theorem szo169 : VC.szo Try.prog 169 = some 1 := by kernel_rfl
theorem szo171 : VC.szo Try.prog 171 = some 3 := by kernel_rfl
theorem szo173 : VC.szo Try.prog 173 = some 3 := by kernel_rfl
theorem szo175 : VC.szo Try.prog 175 = some 1 := by kernel_rfl
theorem szo178 : VC.szo Try.prog 178 = some 2 := by kernel_rfl
theorem szo180 : VC.szo Try.prog 180 = some 5 := by kernel_rfl
theorem szo183 : VC.szo Try.prog 183 = some 1 := by kernel_rfl
theorem szo184 : VC.szo Try.prog 184 = some 1 := by kernel_rfl
theorem szo185 : VC.szo Try.prog 185 = some 1 := by kernel_rfl
theorem szo187 : VC.szo Try.prog 187 = some 3 := by kernel_rfl
theorem szo188 : VC.szo Try.prog 188 = some 1 := by kernel_rfl
theorem szo190 : VC.szo Try.prog 190 = some 5 := by kernel_rfl
theorem szo192 : VC.szo Try.prog 192 = some 3 := by kernel_rfl
theorem szo194 : VC.szo Try.prog 194 = some 1 := by kernel_rfl
theorem szo195 : VC.szo Try.prog 195 = some 1 := by kernel_rfl
theorem szo198 : VC.szo Try.prog 198 = some 5 := by kernel_rfl
theorem szo2 : VC.szo Try.prog 2 = some 1 := by kernel_rfl
theorem szo20 : VC.szo Try.prog 20 = some 1 := by kernel_rfl
theorem szo200 : VC.szo Try.prog 200 = some 4 := by kernel_rfl
theorem szo202 : VC.szo Try.prog 202 = some 1 := by kernel_rfl
theorem szo209 : VC.szo Try.prog 209 = some 1 := by kernel_rfl
theorem szo212 : VC.szo Try.prog 212 = some 3 := by kernel_rfl
theorem szo214 : VC.szo Try.prog 214 = some 1 := by kernel_rfl
theorem szo215 : VC.szo Try.prog 215 = some 1 := by kernel_rfl
theorem szo216 : VC.szo Try.prog 216 = some 1 := by kernel_rfl
theorem szo218 : VC.szo Try.prog 218 = some 7 := by kernel_rfl
theorem szo219 : VC.szo Try.prog 219 = some 1 := by kernel_rfl
theorem szo22 : VC.szo Try.prog 22 = some 1 := by kernel_rfl
theorem szo221 : VC.szo Try.prog 221 = some 5 := by kernel_rfl
theorem szo223 : VC.szo Try.prog 223 = some 6 := by kernel_rfl
theorem szo226 : VC.szo Try.prog 226 = some 5 := by kernel_rfl
theorem szo227 : VC.szo Try.prog 227 = some 1 := by kernel_rfl
theorem szo23 : VC.szo Try.prog 23 = some 1 := by kernel_rfl
theorem szo230 : VC.szo Try.prog 230 = some 1 := by kernel_rfl
theorem szo231 : VC.szo Try.prog 231 = some 1 := by kernel_rfl
theorem szo233 : VC.szo Try.prog 233 = some 7 := by kernel_rfl
theorem szo235 : VC.szo Try.prog 235 = some 5 := by kernel_rfl
theorem szo239 : VC.szo Try.prog 239 = some 1 := by kernel_rfl
theorem szo24 : VC.szo Try.prog 24 = some 1 := by kernel_rfl
theorem szo240 : VC.szo Try.prog 240 = some 1 := by kernel_rfl
theorem szo241 : VC.szo Try.prog 241 = some 1 := by kernel_rfl
theorem szo243 : VC.szo Try.prog 243 = some 2 := by kernel_rfl
theorem szo244 : VC.szo Try.prog 244 = some 1 := by kernel_rfl
theorem szo246 : VC.szo Try.prog 246 = some 4 := by kernel_rfl
theorem szo248 : VC.szo Try.prog 248 = some 1 := by kernel_rfl
theorem szo251 : VC.szo Try.prog 251 = some 6 := by kernel_rfl
theorem szo253 : VC.szo Try.prog 253 = some 1 := by kernel_rfl
theorem szo258 : VC.szo Try.prog 258 = some 4 := by kernel_rfl
theorem szo268 : VC.szo Try.prog 268 = some 2 := by kernel_rfl
theorem szo270 : VC.szo Try.prog 270 = some 4 := by kernel_rfl
theorem szo276 : VC.szo Try.prog 276 = some 1 := by kernel_rfl
theorem szo280 : VC.szo Try.prog 280 = some 5 := by kernel_rfl
theorem szo283 : VC.szo Try.prog 283 = some 2 := by kernel_rfl
theorem szo295 : VC.szo Try.prog 295 = some 1 := by kernel_rfl
theorem szo297 : VC.szo Try.prog 297 = some 2 := by kernel_rfl
theorem szo3 : VC.szo Try.prog 3 = some 1 := by kernel_rfl
theorem szo32 : VC.szo Try.prog 32 = some 1 := by kernel_rfl
theorem szo33 : VC.szo Try.prog 33 = some 1 := by kernel_rfl
theorem szo34 : VC.szo Try.prog 34 = some 1 := by kernel_rfl
theorem szo35 : VC.szo Try.prog 35 = some 1 := by kernel_rfl
theorem szo37 : VC.szo Try.prog 37 = some 4 := by kernel_rfl
theorem szo4 : VC.szo Try.prog 4 = some 1 := by kernel_rfl
theorem szo44 : VC.szo Try.prog 44 = some 1 := by kernel_rfl
theorem szo45 : VC.szo Try.prog 45 = some 1 := by kernel_rfl
theorem szo47 : VC.szo Try.prog 47 = some 5 := by kernel_rfl
theorem szo53 : VC.szo Try.prog 53 = some 1 := by kernel_rfl
theorem szo54 : VC.szo Try.prog 54 = some 1 := by kernel_rfl
theorem szo56 : VC.szo Try.prog 56 = some 5 := by kernel_rfl
theorem szo62 : VC.szo Try.prog 62 = some 1 := by kernel_rfl
theorem szo64 : VC.szo Try.prog 64 = some 2 := by kernel_rfl
theorem szo70 : VC.szo Try.prog 70 = some 1 := by kernel_rfl
theorem szo72 : VC.szo Try.prog 72 = some 4 := by kernel_rfl
theorem szo78 : VC.szo Try.prog 78 = some 1 := by kernel_rfl
theorem szo84 : VC.szo Try.prog 84 = some 1 := by kernel_rfl
theorem szo85 : VC.szo Try.prog 85 = some 1 := by kernel_rfl
theorem szo86 : VC.szo Try.prog 86 = some 1 := by kernel_rfl
theorem szo88 : VC.szo Try.prog 88 = some 5 := by kernel_rfl
theorem szo95 : VC.szo Try.prog 95 = some 1 := by kernel_rfl
theorem szo97 : VC.szo Try.prog 97 = some 1 := by kernel_rfl
theorem szo99 : VC.szo Try.prog 99 = some 3 := by kernel_rfl
theorem zco102 : VC.zco Try.prog 102 = some [.pointer none] := by kernel_rfl
theorem zco103 : VC.zco Try.prog 103 = some [.map none] := by kernel_rfl
theorem zco105 : VC.zco Try.prog 105 = some [.slice none 0 0, .map none, .slice none 0 0, .slice none 0 0, .slice none 0 0, .slice none 0 0] := by kernel_rfl
theorem zco107 : VC.zco Try.prog 107 = some [.int .i64 0, .int .i64 0, .int .i64 0, .int .i64 0] := by kernel_rfl
theorem zco109 : VC.zco Try.prog 109 = some [.pointer none] := by kernel_rfl
theorem zco110 : VC.zco Try.prog 110 = some [.slice none 0 0] := by kernel_rfl
theorem zco112 : VC.zco Try.prog 112 = some [.int .i64 0, .slice none 0 0, .slice none 0 0, .slice none 0 0, .slice none 0 0] := by kernel_rfl
theorem zco117 : VC.zco Try.prog 117 = some [.int .i64 0, .int .i64 0] := by kernel_rfl
theorem zco120 : VC.zco Try.prog 120 = some [.int .i64 0, .int .i64 0, .int .i64 0] := by kernel_rfl
theorem zco123 : VC.zco Try.prog 123 = some [.pointer none] := by kernel_rfl
theorem zco124 : VC.zco Try.prog 124 = some [.slice none 0 0] := by kernel_rfl
theorem zco125 : VC.zco Try.prog 125 = some [.map none] := by kernel_rfl
theorem zco127 : VC.zco Try.prog 127 = some [.slice none 0 0, .map none, .map none, .bool false] := by kernel_rfl
theorem zco129 : VC.zco Try.prog 129 = some [.bool false, .bool false, .int .i64 0, .int .i64 0] := by kernel_rfl
theorem zco131 : VC.zco Try.prog 131 = some [.int .i64 0, .int .i64 0, .int .i64 0] := by kernel_rfl
theorem zco133 : VC.zco Try.prog 133 = some [.map none, .map none] := by kernel_rfl
theorem zco135 : VC.zco Try.prog 135 = some [.int .i64 0, .int .i64 0] := by kernel_rfl
theorem zco136 : VC.zco Try.prog 136 = some [.slice none 0 0] := by kernel_rfl
theorem zco138 : VC.zco Try.prog 138 = some [.bool false, .bool false, .int .i64 0, .int .i64 0] := by kernel_rfl
theorem zco142 : VC.zco Try.prog 142 = some [.nilFunc] := by kernel_rfl
theorem zco143 : VC.zco Try.prog 143 = some [.pointer none] := by kernel_rfl
theorem zco146 : VC.zco Try.prog 146 = some [.int .i64 0, .int .i64 0, .int .i64 0, .int .i64 0] := by kernel_rfl
theorem zco148 : VC.zco Try.prog 148 = some [.slice none 0 0] := by kernel_rfl
theorem zco149 : VC.zco Try.prog 149 = some [.map none] := by kernel_rfl
theorem zco151 : VC.zco Try.prog 151 = some [.slice none 0 0, .map none] := by kernel_rfl
theorem zco153 : VC.zco Try.prog 153 = some [.int .i64 0, .int .i64 0] := by kernel_rfl
theorem zco154 : VC.zco Try.prog 154 = some [.int .i64 0, .int .i64 0] := by kernel_rfl
theorem zco157 : VC.zco Try.prog 157 = some [.slice none 0 0, .slice none 0 0, .bool false] := by kernel_rfl
theorem zco158 : VC.zco Try.prog 158 = some [.slice none 0 0] := by kernel_rfl
theorem zco160 : VC.zco Try.prog 160 = some [.pointer none] := by kernel_rfl
theorem zco162 : VC.zco Try.prog 162 = some [.slice none 0 0, .int .i64 0, .int .i64 0] := by kernel_rfl
theorem zco164 : VC.zco Try.prog 164 = some [.pointer none] := by kernel_rfl
theorem zco165 : VC.zco Try.prog 165 = some [.slice none 0 0] := by kernel_rfl
theorem zco167 : VC.zco Try.prog 167 = some [.slice none 0 0, .int .i64 0] := by kernel_rfl
theorem zco168 : VC.zco Try.prog 168 = some [.pointer none] := by kernel_rfl
theorem zco169 : VC.zco Try.prog 169 = some [.map none] := by kernel_rfl
theorem zco171 : VC.zco Try.prog 171 = some [.int .i64 0, .map none, .slice none 0 0] := by kernel_rfl
theorem zco173 : VC.zco Try.prog 173 = some [.int .i64 0, .int .i64 0, .int .i64 0] := by kernel_rfl
theorem zco175 : VC.zco Try.prog 175 = some [.slice none 0 0] := by kernel_rfl
theorem zco178 : VC.zco Try.prog 178 = some [.int .i64 0, .int .i64 0] := by kernel_rfl
theorem zco180 : VC.zco Try.prog 180 = some [.int .i64 0, .int .i64 0, .bool false, .bool false, .bool false] := by kernel_rfl
theorem zco183 : VC.zco Try.prog 183 = some [.pointer none] := by kernel_rfl
theorem zco184 : VC.zco Try.prog 184 = some [.map none] := by kernel_rfl
theorem zco185 : VC.zco Try.prog 185 = some [.slice none 0 0] := by kernel_rfl
theorem zco187 : VC.zco Try.prog 187 = some [.slice none 0 0, .map none, .slice none 0 0] := by kernel_rfl
theorem zco188 : VC.zco Try.prog 188 = some [.pointer none] := by kernel_rfl
theorem zco190 : VC.zco Try.prog 190 = some [.int .i64 0, .int .i64 0, .int .i64 0, .slice none 0 0, .int .i64 0] := by kernel_rfl
theorem zco192 : VC.zco Try.prog 192 = some [.int .i64 0, .int .i64 0, .int .i64 0] := by kernel_rfl
theorem zco194 : VC.zco Try.prog 194 = some [.slice none 0 0] := by kernel_rfl
theorem zco195 : VC.zco Try.prog 195 = some [.slice none 0 0] := by kernel_rfl
theorem zco198 : VC.zco Try.prog 198 = some [.int .i64 0, .int .i64 0, .int .i64 0, .int .i64 0, .slice none 0 0] := by kernel_rfl
theorem zco2 : VC.zco Try.prog 2 = some [.int .i64 0] := by kernel_rfl
theorem zco20 : VC.zco Try.prog 20 = some [.nilIface] := by kernel_rfl
theorem zco200 : VC.zco Try.prog 200 = some [.int .i64 0, .int .i64 0, .int .i64 0, .bool false] := by kernel_rfl
theorem zco202 : VC.zco Try.prog 202 = some [.slice none 0 0] := by kernel_rfl
theorem zco209 : VC.zco Try.prog 209 = some [.nilFunc] := by kernel_rfl
theorem zco212 : VC.zco Try.prog 212 = some [.int .i64 0, .int .i64 0, .int .u32 0] := by kernel_rfl
theorem zco214 : VC.zco Try.prog 214 = some [.pointer none] := by kernel_rfl
theorem zco215 : VC.zco Try.prog 215 = some [.slice none 0 0] := by kernel_rfl
theorem zco216 : VC.zco Try.prog 216 = some [.slice none 0 0] := by kernel_rfl
theorem zco218 : VC.zco Try.prog 218 = some [.int .i64 0, .int .i64 0, .int .u32 0, .int .i64 0, .slice none 0 0, .slice none 0 0, .bool false] := by kernel_rfl
theorem zco219 : VC.zco Try.prog 219 = some [.map none] := by kernel_rfl
theorem zco22 : VC.zco Try.prog 22 = some [.slice none 0 0] := by kernel_rfl
theorem zco221 : VC.zco Try.prog 221 = some [.map none, .bool false, .bool false, .bool false, .int .i64 0] := by kernel_rfl
theorem zco223 : VC.zco Try.prog 223 = some [.int .i64 0, .int .i64 0, .int .i64 0, .int .i64 0, .int .i64 0, .int .i64 0] := by kernel_rfl
theorem zco226 : VC.zco Try.prog 226 = some [.int .i64 0, .int .i64 0, .int .i64 0, .int .i64 0, .bool false] := by kernel_rfl
theorem zco227 : VC.zco Try.prog 227 = some [.nilFunc] := by kernel_rfl
theorem zco23 : VC.zco Try.prog 23 = some [.slice none 0 0] := by kernel_rfl
theorem zco230 : VC.zco Try.prog 230 = some [.pointer none] := by kernel_rfl
theorem zco231 : VC.zco Try.prog 231 = some [.slice none 0 0] := by kernel_rfl
theorem zco233 : VC.zco Try.prog 233 = some [.int .i64 0, .int .i64 0, .int .i64 0, .int .u32 0, .slice none 0 0, .slice none 0 0, .bool false] := by kernel_rfl
theorem zco235 : VC.zco Try.prog 235 = some [.bool false, .bool false, .bool false, .int .i64 0, .int .i64 0] := by kernel_rfl
theorem zco239 : VC.zco Try.prog 239 = some [.pointer none] := by kernel_rfl
theorem zco24 : VC.zco Try.prog 24 = some [.int .i64 0] := by kernel_rfl
theorem zco240 : VC.zco Try.prog 240 = some [.slice none 0 0] := by kernel_rfl
theorem zco241 : VC.zco Try.prog 241 = some [.slice none 0 0] := by kernel_rfl
theorem zco243 : VC.zco Try.prog 243 = some [.slice none 0 0, .slice none 0 0] := by kernel_rfl
theorem zco244 : VC.zco Try.prog 244 = some [.pointer none] := by kernel_rfl
theorem zco246 : VC.zco Try.prog 246 = some [.slice none 0 0, .slice none 0 0, .map none, .slice none 0 0] := by kernel_rfl
theorem zco248 : VC.zco Try.prog 248 = some [.pointer none] := by kernel_rfl
theorem zco251 : VC.zco Try.prog 251 = some [.int .i64 0, .int .i64 0, .int .i64 0, .int .i64 0, .bool false, .map none] := by kernel_rfl
theorem zco253 : VC.zco Try.prog 253 = some [.pointer none] := by kernel_rfl
theorem zco258 : VC.zco Try.prog 258 = some [.int .i64 0, .int .i64 0, .int .i64 0, .int .i64 0] := by kernel_rfl
theorem zco268 : VC.zco Try.prog 268 = some [.int .i64 0, .int .i64 0] := by kernel_rfl
theorem zco270 : VC.zco Try.prog 270 = some [.int .i64 0, .int .i64 0, .bool false, .bool false] := by kernel_rfl
theorem zco276 : VC.zco Try.prog 276 = some [.int .u64 0] := by kernel_rfl
theorem zco280 : VC.zco Try.prog 280 = some [.int .i64 0, .int .i64 0, .int .i64 0, .int .i64 0, .bool false] := by kernel_rfl
theorem zco283 : VC.zco Try.prog 283 = some [.int .i64 0, .slice none 0 0] := by kernel_rfl
theorem zco295 : VC.zco Try.prog 295 = some [.pointer none] := by kernel_rfl
theorem zco297 : VC.zco Try.prog 297 = some [.int .i64 0, .int .i64 0] := by kernel_rfl
theorem zco3 : VC.zco Try.prog 3 = some [.int .i64 0] := by kernel_rfl
theorem zco32 : VC.zco Try.prog 32 = some [.slice none 0 0] := by kernel_rfl
theorem zco33 : VC.zco Try.prog 33 = some [.slice none 0 0] := by kernel_rfl
theorem zco34 : VC.zco Try.prog 34 = some [.slice none 0 0] := by kernel_rfl
theorem zco35 : VC.zco Try.prog 35 = some [.slice none 0 0] := by kernel_rfl
theorem zco37 : VC.zco Try.prog 37 = some [.slice none 0 0, .slice none 0 0, .slice none 0 0, .slice none 0 0] := by kernel_rfl
theorem zco4 : VC.zco Try.prog 4 = some [.bool false] := by kernel_rfl
theorem zco44 : VC.zco Try.prog 44 = some [.slice none 0 0] := by kernel_rfl
theorem zco45 : VC.zco Try.prog 45 = some [.slice none 0 0] := by kernel_rfl
theorem zco47 : VC.zco Try.prog 47 = some [.slice none 0 0, .slice none 0 0, .slice none 0 0, .int .i64 0, .bool false] := by kernel_rfl
theorem zco53 : VC.zco Try.prog 53 = some [.slice none 0 0] := by kernel_rfl
theorem zco54 : VC.zco Try.prog 54 = some [.slice none 0 0] := by kernel_rfl
theorem zco56 : VC.zco Try.prog 56 = some [.slice none 0 0, .slice none 0 0, .slice none 0 0, .slice none 0 0, .bool false] := by kernel_rfl
theorem zco62 : VC.zco Try.prog 62 = some [.slice none 0 0] := by kernel_rfl
theorem zco64 : VC.zco Try.prog 64 = some [.slice none 0 0, .slice none 0 0] := by kernel_rfl
theorem zco70 : VC.zco Try.prog 70 = some [.slice none 0 0] := by kernel_rfl
theorem zco72 : VC.zco Try.prog 72 = some [.slice none 0 0, .slice none 0 0, .slice none 0 0, .int .i64 0] := by kernel_rfl
theorem zco78 : VC.zco Try.prog 78 = some [.slice none 0 0] := by kernel_rfl
theorem zco84 : VC.zco Try.prog 84 = some [.int .u32 0] := by kernel_rfl
theorem zco85 : VC.zco Try.prog 85 = some [.slice none 0 0] := by kernel_rfl
theorem zco86 : VC.zco Try.prog 86 = some [.slice none 0 0] := by kernel_rfl
theorem zco88 : VC.zco Try.prog 88 = some [.slice none 0 0, .slice none 0 0, .slice none 0 0, .int .i64 0, .int .i64 0] := by kernel_rfl
theorem zco95 : VC.zco Try.prog 95 = some [.map none] := by kernel_rfl
theorem zco97 : VC.zco Try.prog 97 = some [.map none] := by kernel_rfl
theorem zco99 : VC.zco Try.prog 99 = some [.int .i64 0, .int .i64 0, .int .i64 0] := by kernel_rfl
end Go.Proofs.Ytelfmhiaafkimaa.Fa
