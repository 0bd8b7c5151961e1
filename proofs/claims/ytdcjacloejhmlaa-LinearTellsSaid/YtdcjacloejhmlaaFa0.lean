/- Closed facts on the types of this seat: each is what the loaded program says, by the kernel. -/
import Derived.Test.YtdcjacloejhmlaaRows
import Derived.Test.YtdcjacloejhmlaaVC
import Derived.KernelRfl
namespace Go.Proofs.Ytdcjacloejhmlaa.Fa
open Go
theorem mix : Try.prog.follows .mixedOrders = true := by kernel_rfl
theorem apI112 : VC.apI Try.prog 112 = some (34, 1, 24, [.slice none 0 0]) := by kernel_rfl
theorem apI136 : VC.apI Try.prog 136 = some (242, 4, 32, [.int .i64 0, .int .i64 0, .int .i64 0, .int .i64 0]) := by kernel_rfl
theorem apI165 : VC.apI Try.prog 165 = some (170, 4, 24, [.bool false, .bool false, .int .i64 0, .int .i64 0]) := by kernel_rfl
theorem apI177 : VC.apI Try.prog 177 = some (179, 4, 24, [.bool false, .bool false, .int .i64 0, .int .i64 0]) := by kernel_rfl
theorem apI186 : VC.apI Try.prog 186 = some (197, 3, 24, [.int .i64 0, .int .i64 0, .int .i64 0]) := by kernel_rfl
theorem apI187 : VC.apI Try.prog 187 = some (188, 1, 8, [.pointer none]) := by kernel_rfl
theorem apI201 : VC.apI Try.prog 201 = some (254, 1, 24, [.slice none 0 0]) := by kernel_rfl
theorem apI202 : VC.apI Try.prog 202 = some (253, 6, 64, [.int .i64 0, .int .i64 0, .int .i64 0, .int .i64 0, .slice none 0 0, .int .i64 0]) := by kernel_rfl
theorem apI210 : VC.apI Try.prog 210 = some (215, 2, 16, [.int .i64 0, .int .i64 0]) := by kernel_rfl
theorem apI22 : VC.apI Try.prog 22 = some (101, 3, 40, [.int .i64 0, .bool false, .slice none 0 0]) := by kernel_rfl
theorem apI220 : VC.apI Try.prog 220 = some (224, 3, 40, [.slice none 0 0, .int .i64 0, .int .i64 0]) := by kernel_rfl
theorem apI23 : VC.apI Try.prog 23 = some (3, 1, 8, [.int .i64 0]) := by kernel_rfl
theorem apI254 : VC.apI Try.prog 254 = some (251, 3, 24, [.int .i64 0, .int .i64 0, .int .i64 0]) := by kernel_rfl
theorem apI31 : VC.apI Try.prog 31 = some (2, 1, 8, [.int .i64 0]) := by kernel_rfl
theorem apI34 : VC.apI Try.prog 34 = some (110, 3, 24, [.int .i64 0, .int .i64 0, .int .i64 0]) := by kernel_rfl
theorem apI39 : VC.apI Try.prog 39 = some (118, 3, 24, [.int .i64 0, .int .i64 0, .int .i64 0]) := by kernel_rfl
theorem apI46 : VC.apI Try.prog 46 = some (127, 3, 24, [.int .i64 0, .int .i64 0, .int .i64 0]) := by kernel_rfl
theorem apI52 : VC.apI Try.prog 52 = some (133, 4, 32, [.int .i64 0, .int .i64 0, .int .i64 0, .int .i64 0]) := by kernel_rfl
theorem apI53 : VC.apI Try.prog 53 = some (24, 1, 8, [.int .i64 0]) := by kernel_rfl
theorem apI54 : VC.apI Try.prog 54 = some (146, 3, 24, [.int .i64 0, .int .i64 0, .int .i64 0]) := by kernel_rfl
theorem apI55 : VC.apI Try.prog 55 = some (143, 2, 16, [.int .i64 0, .int .i64 0]) := by kernel_rfl
theorem apI66 : VC.apI Try.prog 66 = some (161, 6, 48, [.int .i64 0, .int .i64 0, .bool false, .int .i64 0, .int .i64 0, .int .i64 0]) := by kernel_rfl
theorem apI71 : VC.apI Try.prog 71 = some (172, 3, 24, [.int .i64 0, .int .i64 0, .int .i64 0]) := by kernel_rfl
theorem apI72 : VC.apI Try.prog 72 = some (4, 1, 1, [.bool false]) := by kernel_rfl
theorem apI82 : VC.apI Try.prog 82 = some (193, 6, 48, [.int .i64 0, .int .i64 0, .int .i64 0, .int .i64 0, .bool false, .int .i64 0]) := by kernel_rfl
theorem apI90 : VC.apI Try.prog 90 = some (208, 4, 32, [.int .i64 0, .int .i64 0, .int .i64 0, .int .i64 0]) := by kernel_rfl
theorem apI91 : VC.apI Try.prog 91 = some (23, 1, 24, [.slice none 0 0]) := by kernel_rfl
theorem arN108 : VC.arN Try.prog 108 = some 2 := by kernel_rfl
theorem arN156 : VC.arN Try.prog 156 = some 4 := by kernel_rfl
theorem arN174 : VC.arN Try.prog 174 = some 2 := by kernel_rfl
theorem arN189 : VC.arN Try.prog 189 = some 4 := by kernel_rfl
theorem arN216 : VC.arN Try.prog 216 = some 2 := by kernel_rfl
theorem callB100 : VC.callB Try.prog 100 = true := by kernel_rfl
theorem callB101 : VC.callB Try.prog 101 = true := by kernel_rfl
theorem callB102 : VC.callB Try.prog 102 = true := by kernel_rfl
theorem callB103 : VC.callB Try.prog 103 = true := by kernel_rfl
theorem callB104 : VC.callB Try.prog 104 = true := by kernel_rfl
theorem callB105 : VC.callB Try.prog 105 = true := by kernel_rfl
theorem callB106 : VC.callB Try.prog 106 = true := by kernel_rfl
theorem callB107 : VC.callB Try.prog 107 = true := by kernel_rfl
theorem callB108 : VC.callB Try.prog 108 = true := by kernel_rfl
theorem callB109 : VC.callB Try.prog 109 = true := by kernel_rfl
theorem callB110 : VC.callB Try.prog 110 = true := by kernel_rfl
theorem callB111 : VC.callB Try.prog 111 = true := by kernel_rfl
theorem callB112 : VC.callB Try.prog 112 = true := by kernel_rfl
theorem callB113 : VC.callB Try.prog 113 = true := by kernel_rfl
theorem callB114 : VC.callB Try.prog 114 = true := by kernel_rfl
theorem callB115 : VC.callB Try.prog 115 = true := by kernel_rfl
theorem callB116 : VC.callB Try.prog 116 = true := by kernel_rfl
theorem callB117 : VC.callB Try.prog 117 = true := by kernel_rfl
theorem callB118 : VC.callB Try.prog 118 = true := by kernel_rfl
theorem callB119 : VC.callB Try.prog 119 = true := by kernel_rfl
theorem callB120 : VC.callB Try.prog 120 = true := by kernel_rfl
theorem callB121 : VC.callB Try.prog 121 = true := by kernel_rfl
theorem callB122 : VC.callB Try.prog 122 = true := by kernel_rfl
theorem callB123 : VC.callB Try.prog 123 = true := by kernel_rfl
theorem callB124 : VC.callB Try.prog 124 = true := by kernel_rfl
theorem callB125 : VC.callB Try.prog 125 = true := by kernel_rfl
theorem callB126 : VC.callB Try.prog 126 = true := by kernel_rfl
theorem callB127 : VC.callB Try.prog 127 = true := by kernel_rfl
theorem callB128 : VC.callB Try.prog 128 = true := by kernel_rfl
theorem callB129 : VC.callB Try.prog 129 = true := by kernel_rfl
theorem callB130 : VC.callB Try.prog 130 = true := by kernel_rfl
theorem callB131 : VC.callB Try.prog 131 = true := by kernel_rfl
theorem callB132 : VC.callB Try.prog 132 = true := by kernel_rfl
theorem callB133 : VC.callB Try.prog 133 = true := by kernel_rfl
theorem callB134 : VC.callB Try.prog 134 = true := by kernel_rfl
theorem callB135 : VC.callB Try.prog 135 = true := by kernel_rfl
theorem callB136 : VC.callB Try.prog 136 = true := by kernel_rfl
theorem callB137 : VC.callB Try.prog 137 = true := by kernel_rfl
theorem callB138 : VC.callB Try.prog 138 = true := by kernel_rfl
theorem callB15 : VC.callB Try.prog 15 = true := by kernel_rfl
theorem callB16 : VC.callB Try.prog 16 = true := by kernel_rfl
theorem callB17 : VC.callB Try.prog 17 = true := by kernel_rfl
theorem callB18 : VC.callB Try.prog 18 = true := by kernel_rfl
theorem callB19 : VC.callB Try.prog 19 = true := by kernel_rfl
theorem callB20 : VC.callB Try.prog 20 = true := by kernel_rfl
theorem callB21 : VC.callB Try.prog 21 = true := by kernel_rfl
theorem callB22 : VC.callB Try.prog 22 = true := by kernel_rfl
theorem callB23 : VC.callB Try.prog 23 = true := by kernel_rfl
theorem callB24 : VC.callB Try.prog 24 = true := by kernel_rfl
theorem callB25 : VC.callB Try.prog 25 = true := by kernel_rfl
theorem callB26 : VC.callB Try.prog 26 = true := by kernel_rfl
theorem callB27 : VC.callB Try.prog 27 = true := by kernel_rfl
theorem callB28 : VC.callB Try.prog 28 = true := by kernel_rfl
theorem callB29 : VC.callB Try.prog 29 = true := by kernel_rfl
theorem callB30 : VC.callB Try.prog 30 = true := by kernel_rfl
theorem callB31 : VC.callB Try.prog 31 = true := by kernel_rfl
theorem callB32 : VC.callB Try.prog 32 = true := by kernel_rfl
theorem callB33 : VC.callB Try.prog 33 = true := by kernel_rfl
theorem callB34 : VC.callB Try.prog 34 = true := by kernel_rfl
theorem callB35 : VC.callB Try.prog 35 = true := by kernel_rfl
theorem callB36 : VC.callB Try.prog 36 = true := by kernel_rfl
theorem callB37 : VC.callB Try.prog 37 = true := by kernel_rfl
theorem callB38 : VC.callB Try.prog 38 = true := by kernel_rfl
theorem callB39 : VC.callB Try.prog 39 = true := by kernel_rfl
theorem callB40 : VC.callB Try.prog 40 = true := by kernel_rfl
theorem callB41 : VC.callB Try.prog 41 = true := by kernel_rfl
theorem callB42 : VC.callB Try.prog 42 = true := by kernel_rfl
theorem callB43 : VC.callB Try.prog 43 = true := by kernel_rfl
theorem callB44 : VC.callB Try.prog 44 = true := by kernel_rfl
theorem callB45 : VC.callB Try.prog 45 = true := by kernel_rfl
theorem callB46 : VC.callB Try.prog 46 = true := by kernel_rfl
theorem callB47 : VC.callB Try.prog 47 = true := by kernel_rfl
theorem callB48 : VC.callB Try.prog 48 = true := by kernel_rfl
theorem callB49 : VC.callB Try.prog 49 = true := by kernel_rfl
theorem callB50 : VC.callB Try.prog 50 = true := by kernel_rfl
theorem callB51 : VC.callB Try.prog 51 = true := by kernel_rfl
theorem callB52 : VC.callB Try.prog 52 = true := by kernel_rfl
theorem callB53 : VC.callB Try.prog 53 = true := by kernel_rfl
theorem callB54 : VC.callB Try.prog 54 = true := by kernel_rfl
theorem callB55 : VC.callB Try.prog 55 = true := by kernel_rfl
theorem callB56 : VC.callB Try.prog 56 = true := by kernel_rfl
theorem callB57 : VC.callB Try.prog 57 = true := by kernel_rfl
theorem callB58 : VC.callB Try.prog 58 = true := by kernel_rfl
theorem callB59 : VC.callB Try.prog 59 = true := by kernel_rfl
theorem callB60 : VC.callB Try.prog 60 = true := by kernel_rfl
theorem callB61 : VC.callB Try.prog 61 = true := by kernel_rfl
theorem callB62 : VC.callB Try.prog 62 = true := by kernel_rfl
theorem callB63 : VC.callB Try.prog 63 = true := by kernel_rfl
theorem callB64 : VC.callB Try.prog 64 = true := by kernel_rfl
theorem callB65 : VC.callB Try.prog 65 = true := by kernel_rfl
theorem callB66 : VC.callB Try.prog 66 = true := by kernel_rfl
theorem callB67 : VC.callB Try.prog 67 = true := by kernel_rfl
theorem callB68 : VC.callB Try.prog 68 = true := by kernel_rfl
theorem callB69 : VC.callB Try.prog 69 = true := by kernel_rfl
theorem callB70 : VC.callB Try.prog 70 = true := by kernel_rfl
theorem callB71 : VC.callB Try.prog 71 = true := by kernel_rfl
theorem callB72 : VC.callB Try.prog 72 = true := by kernel_rfl
theorem callB73 : VC.callB Try.prog 73 = true := by kernel_rfl
theorem callB74 : VC.callB Try.prog 74 = true := by kernel_rfl
theorem callB75 : VC.callB Try.prog 75 = true := by kernel_rfl
theorem callB76 : VC.callB Try.prog 76 = true := by kernel_rfl
theorem callB77 : VC.callB Try.prog 77 = true := by kernel_rfl
theorem callB78 : VC.callB Try.prog 78 = true := by kernel_rfl
theorem callB79 : VC.callB Try.prog 79 = true := by kernel_rfl
theorem callB80 : VC.callB Try.prog 80 = true := by kernel_rfl
theorem callB81 : VC.callB Try.prog 81 = true := by kernel_rfl
theorem callB82 : VC.callB Try.prog 82 = true := by kernel_rfl
theorem callB83 : VC.callB Try.prog 83 = true := by kernel_rfl
theorem callB84 : VC.callB Try.prog 84 = true := by kernel_rfl
theorem callB85 : VC.callB Try.prog 85 = true := by kernel_rfl
theorem callB86 : VC.callB Try.prog 86 = true := by kernel_rfl
theorem callB87 : VC.callB Try.prog 87 = true := by kernel_rfl
theorem callB88 : VC.callB Try.prog 88 = true := by kernel_rfl
theorem callB89 : VC.callB Try.prog 89 = true := by kernel_rfl
theorem callB90 : VC.callB Try.prog 90 = true := by kernel_rfl
theorem callB91 : VC.callB Try.prog 91 = true := by kernel_rfl
theorem callB92 : VC.callB Try.prog 92 = true := by kernel_rfl
theorem callB93 : VC.callB Try.prog 93 = true := by kernel_rfl
theorem callB94 : VC.callB Try.prog 94 = true := by kernel_rfl
theorem callB95 : VC.callB Try.prog 95 = true := by kernel_rfl
theorem callB96 : VC.callB Try.prog 96 = true := by kernel_rfl
theorem callB97 : VC.callB Try.prog 97 = true := by kernel_rfl
theorem callB98 : VC.callB Try.prog 98 = true := by kernel_rfl
theorem callB99 : VC.callB Try.prog 99 = true := by kernel_rfl
theorem elo108 : VC.elo Try.prog 108 = some (1, 34) := by kernel_rfl
theorem elo112 : VC.elo Try.prog 112 = some (1, 34) := by kernel_rfl
theorem elo136 : VC.elo Try.prog 136 = some (4, 242) := by kernel_rfl
theorem elo156 : VC.elo Try.prog 156 = some (1, 2) := by kernel_rfl
theorem elo165 : VC.elo Try.prog 165 = some (4, 170) := by kernel_rfl
theorem elo174 : VC.elo Try.prog 174 = some (1, 166) := by kernel_rfl
theorem elo177 : VC.elo Try.prog 177 = some (4, 179) := by kernel_rfl
theorem elo186 : VC.elo Try.prog 186 = some (3, 197) := by kernel_rfl
theorem elo187 : VC.elo Try.prog 187 = some (1, 188) := by kernel_rfl
theorem elo189 : VC.elo Try.prog 189 = some (1, 188) := by kernel_rfl
theorem elo201 : VC.elo Try.prog 201 = some (1, 254) := by kernel_rfl
theorem elo202 : VC.elo Try.prog 202 = some (6, 253) := by kernel_rfl
theorem elo210 : VC.elo Try.prog 210 = some (2, 215) := by kernel_rfl
theorem elo216 : VC.elo Try.prog 216 = some (1, 3) := by kernel_rfl
theorem elo22 : VC.elo Try.prog 22 = some (3, 101) := by kernel_rfl
theorem elo220 : VC.elo Try.prog 220 = some (3, 224) := by kernel_rfl
theorem elo23 : VC.elo Try.prog 23 = some (1, 3) := by kernel_rfl
theorem elo254 : VC.elo Try.prog 254 = some (3, 251) := by kernel_rfl
theorem elo31 : VC.elo Try.prog 31 = some (1, 2) := by kernel_rfl
theorem elo34 : VC.elo Try.prog 34 = some (3, 110) := by kernel_rfl
theorem elo39 : VC.elo Try.prog 39 = some (3, 118) := by kernel_rfl
theorem elo46 : VC.elo Try.prog 46 = some (3, 127) := by kernel_rfl
theorem elo52 : VC.elo Try.prog 52 = some (4, 133) := by kernel_rfl
theorem elo53 : VC.elo Try.prog 53 = some (1, 24) := by kernel_rfl
theorem elo54 : VC.elo Try.prog 54 = some (3, 146) := by kernel_rfl
theorem elo55 : VC.elo Try.prog 55 = some (2, 143) := by kernel_rfl
theorem elo66 : VC.elo Try.prog 66 = some (6, 161) := by kernel_rfl
theorem elo71 : VC.elo Try.prog 71 = some (3, 172) := by kernel_rfl
theorem elo72 : VC.elo Try.prog 72 = some (1, 4) := by kernel_rfl
theorem elo82 : VC.elo Try.prog 82 = some (6, 193) := by kernel_rfl
theorem elo90 : VC.elo Try.prog 90 = some (4, 208) := by kernel_rfl
theorem elo91 : VC.elo Try.prog 91 = some (1, 23) := by kernel_rfl
theorem flatK110 : VC.flatK Try.prog 110 = some [.i .i64, .i .i64, .i .i64] := by kernel_rfl
theorem flatK118 : VC.flatK Try.prog 118 = some [.i .i64, .i .i64, .i .i64] := by kernel_rfl
theorem flatK127 : VC.flatK Try.prog 127 = some [.i .i64, .i .i64, .i .i64] := by kernel_rfl
theorem flatK133 : VC.flatK Try.prog 133 = some [.i .i64, .i .i64, .i .i64, .i .i64] := by kernel_rfl
theorem flatK143 : VC.flatK Try.prog 143 = some [.i .i64, .i .i64] := by kernel_rfl
theorem flatK161 : VC.flatK Try.prog 161 = some [.i .i64, .i .i64, .b, .i .i64, .i .i64, .i .i64] := by kernel_rfl
theorem flatK170 : VC.flatK Try.prog 170 = some [.b, .b, .i .i64, .i .i64] := by kernel_rfl
theorem flatK172 : VC.flatK Try.prog 172 = some [.i .i64, .i .i64, .i .i64] := by kernel_rfl
theorem flatK176 : VC.flatK Try.prog 176 = some [.i .i64, .i .i64] := by kernel_rfl
theorem flatK179 : VC.flatK Try.prog 179 = some [.b, .b, .i .i64, .i .i64] := by kernel_rfl
theorem flatK193 : VC.flatK Try.prog 193 = some [.i .i64, .i .i64, .i .i64, .i .i64, .b, .i .i64] := by kernel_rfl
theorem flatK197 : VC.flatK Try.prog 197 = some [.i .i64, .i .i64, .i .i64] := by kernel_rfl
theorem flatK208 : VC.flatK Try.prog 208 = some [.i .i64, .i .i64, .i .i64, .i .i64] := by kernel_rfl
theorem flatK215 : VC.flatK Try.prog 215 = some [.i .i64, .i .i64] := by kernel_rfl
theorem flatK251 : VC.flatK Try.prog 251 = some [.i .i64, .i .i64, .i .i64] := by kernel_rfl
theorem flatK33 : VC.flatK Try.prog 33 = some [.i .i64, .i .i64, .i .i64] := by kernel_rfl
theorem fldo101_0 : VC.fldo Try.prog 101 0 = some (0, 1, 3) := by kernel_rfl
theorem fldo101_1 : VC.fldo Try.prog 101 1 = some (1, 1, 4) := by kernel_rfl
theorem fldo101_2 : VC.fldo Try.prog 101 2 = some (2, 1, 23) := by kernel_rfl
theorem fldo110_0 : VC.fldo Try.prog 110 0 = some (0, 1, 3) := by kernel_rfl
theorem fldo110_1 : VC.fldo Try.prog 110 1 = some (1, 1, 3) := by kernel_rfl
theorem fldo110_2 : VC.fldo Try.prog 110 2 = some (2, 1, 3) := by kernel_rfl
theorem fldo118_0 : VC.fldo Try.prog 118 0 = some (0, 1, 3) := by kernel_rfl
theorem fldo118_1 : VC.fldo Try.prog 118 1 = some (1, 1, 3) := by kernel_rfl
theorem fldo118_2 : VC.fldo Try.prog 118 2 = some (2, 1, 3) := by kernel_rfl
theorem fldo127_0 : VC.fldo Try.prog 127 0 = some (0, 1, 3) := by kernel_rfl
theorem fldo127_1 : VC.fldo Try.prog 127 1 = some (1, 1, 3) := by kernel_rfl
theorem fldo127_2 : VC.fldo Try.prog 127 2 = some (2, 1, 3) := by kernel_rfl
theorem fldo131_0 : VC.fldo Try.prog 131 0 = some (0, 1, 54) := by kernel_rfl
theorem fldo131_1 : VC.fldo Try.prog 131 1 = some (1, 1, 129) := by kernel_rfl
theorem fldo131_2 : VC.fldo Try.prog 131 2 = some (2, 4, 57) := by kernel_rfl
theorem fldo133_0 : VC.fldo Try.prog 133 0 = some (0, 1, 3) := by kernel_rfl
theorem fldo133_1 : VC.fldo Try.prog 133 1 = some (1, 1, 3) := by kernel_rfl
theorem fldo133_2 : VC.fldo Try.prog 133 2 = some (2, 1, 3) := by kernel_rfl
theorem fldo133_3 : VC.fldo Try.prog 133 3 = some (3, 1, 2) := by kernel_rfl
theorem fldo138_0 : VC.fldo Try.prog 138 0 = some (0, 1, 3) := by kernel_rfl
theorem fldo138_1 : VC.fldo Try.prog 138 1 = some (1, 1, 55) := by kernel_rfl
theorem fldo138_2 : VC.fldo Try.prog 138 2 = some (2, 1, 136) := by kernel_rfl
theorem fldo138_3 : VC.fldo Try.prog 138 3 = some (3, 1, 136) := by kernel_rfl
theorem fldo138_4 : VC.fldo Try.prog 138 4 = some (4, 1, 55) := by kernel_rfl
theorem fldo143_0 : VC.fldo Try.prog 143 0 = some (0, 1, 3) := by kernel_rfl
theorem fldo143_1 : VC.fldo Try.prog 143 1 = some (1, 1, 2) := by kernel_rfl
theorem fldo146_0 : VC.fldo Try.prog 146 0 = some (0, 1, 3) := by kernel_rfl
theorem fldo146_1 : VC.fldo Try.prog 146 1 = some (1, 2, 143) := by kernel_rfl
theorem fldo158_0 : VC.fldo Try.prog 158 0 = some (0, 1, 66) := by kernel_rfl
theorem fldo158_1 : VC.fldo Try.prog 158 1 = some (1, 1, 155) := by kernel_rfl
theorem fldo158_2 : VC.fldo Try.prog 158 2 = some (2, 1, 23) := by kernel_rfl
theorem fldo158_3 : VC.fldo Try.prog 158 3 = some (3, 4, 156) := by kernel_rfl
theorem fldo161_0 : VC.fldo Try.prog 161 0 = some (0, 1, 3) := by kernel_rfl
theorem fldo161_1 : VC.fldo Try.prog 161 1 = some (1, 1, 3) := by kernel_rfl
theorem fldo161_2 : VC.fldo Try.prog 161 2 = some (2, 1, 4) := by kernel_rfl
theorem fldo161_3 : VC.fldo Try.prog 161 3 = some (3, 1, 2) := by kernel_rfl
theorem fldo161_4 : VC.fldo Try.prog 161 4 = some (4, 1, 3) := by kernel_rfl
theorem fldo161_5 : VC.fldo Try.prog 161 5 = some (5, 1, 3) := by kernel_rfl
theorem fldo168_0 : VC.fldo Try.prog 168 0 = some (0, 1, 165) := by kernel_rfl
theorem fldo168_1 : VC.fldo Try.prog 168 1 = some (1, 1, 166) := by kernel_rfl
theorem fldo168_2 : VC.fldo Try.prog 168 2 = some (2, 1, 166) := by kernel_rfl
theorem fldo168_3 : VC.fldo Try.prog 168 3 = some (3, 1, 4) := by kernel_rfl
theorem fldo170_0 : VC.fldo Try.prog 170 0 = some (0, 1, 4) := by kernel_rfl
theorem fldo170_1 : VC.fldo Try.prog 170 1 = some (1, 1, 4) := by kernel_rfl
theorem fldo170_2 : VC.fldo Try.prog 170 2 = some (2, 1, 3) := by kernel_rfl
theorem fldo170_3 : VC.fldo Try.prog 170 3 = some (3, 1, 3) := by kernel_rfl
theorem fldo172_0 : VC.fldo Try.prog 172 0 = some (0, 1, 3) := by kernel_rfl
theorem fldo172_1 : VC.fldo Try.prog 172 1 = some (1, 1, 3) := by kernel_rfl
theorem fldo172_2 : VC.fldo Try.prog 172 2 = some (2, 1, 3) := by kernel_rfl
theorem fldo179_0 : VC.fldo Try.prog 179 0 = some (0, 1, 4) := by kernel_rfl
theorem fldo179_1 : VC.fldo Try.prog 179 1 = some (1, 1, 4) := by kernel_rfl
theorem fldo179_2 : VC.fldo Try.prog 179 2 = some (2, 1, 3) := by kernel_rfl
theorem fldo179_3 : VC.fldo Try.prog 179 3 = some (3, 1, 3) := by kernel_rfl
theorem fldo191_0 : VC.fldo Try.prog 191 0 = some (0, 1, 186) := by kernel_rfl
theorem fldo191_1 : VC.fldo Try.prog 191 1 = some (1, 1, 187) := by kernel_rfl
theorem fldo191_2 : VC.fldo Try.prog 191 2 = some (2, 4, 189) := by kernel_rfl
theorem fldo193_0 : VC.fldo Try.prog 193 0 = some (0, 1, 3) := by kernel_rfl
theorem fldo193_1 : VC.fldo Try.prog 193 1 = some (1, 1, 3) := by kernel_rfl
theorem fldo193_2 : VC.fldo Try.prog 193 2 = some (2, 1, 3) := by kernel_rfl
theorem fldo193_3 : VC.fldo Try.prog 193 3 = some (3, 1, 3) := by kernel_rfl
theorem fldo193_4 : VC.fldo Try.prog 193 4 = some (4, 1, 4) := by kernel_rfl
theorem fldo193_5 : VC.fldo Try.prog 193 5 = some (5, 1, 2) := by kernel_rfl
theorem fldo197_0 : VC.fldo Try.prog 197 0 = some (0, 1, 3) := by kernel_rfl
theorem fldo197_1 : VC.fldo Try.prog 197 1 = some (1, 1, 3) := by kernel_rfl
theorem fldo197_2 : VC.fldo Try.prog 197 2 = some (2, 1, 2) := by kernel_rfl
theorem fldo199_0 : VC.fldo Try.prog 199 0 = some (0, 1, 195) := by kernel_rfl
theorem fldo199_1 : VC.fldo Try.prog 199 1 = some (1, 3, 197) := by kernel_rfl
theorem fldo199_2 : VC.fldo Try.prog 199 2 = some (4, 1, 4) := by kernel_rfl
theorem fldo199_3 : VC.fldo Try.prog 199 3 = some (5, 1, 155) := by kernel_rfl
theorem fldo199_4 : VC.fldo Try.prog 199 4 = some (6, 1, 3) := by kernel_rfl
theorem fldo204_0 : VC.fldo Try.prog 204 0 = some (0, 1, 201) := by kernel_rfl
theorem fldo204_1 : VC.fldo Try.prog 204 1 = some (1, 1, 66) := by kernel_rfl
theorem fldo204_2 : VC.fldo Try.prog 204 2 = some (2, 1, 202) := by kernel_rfl
theorem fldo208_0 : VC.fldo Try.prog 208 0 = some (0, 1, 3) := by kernel_rfl
theorem fldo208_1 : VC.fldo Try.prog 208 1 = some (1, 1, 3) := by kernel_rfl
theorem fldo208_2 : VC.fldo Try.prog 208 2 = some (2, 1, 3) := by kernel_rfl
theorem fldo208_3 : VC.fldo Try.prog 208 3 = some (3, 1, 3) := by kernel_rfl
theorem fldo213_0 : VC.fldo Try.prog 213 0 = some (0, 1, 210) := by kernel_rfl
theorem fldo213_1 : VC.fldo Try.prog 213 1 = some (1, 1, 211) := by kernel_rfl
theorem fldo215_0 : VC.fldo Try.prog 215 0 = some (0, 1, 3) := by kernel_rfl
theorem fldo215_1 : VC.fldo Try.prog 215 1 = some (1, 1, 3) := by kernel_rfl
theorem fldo219_0 : VC.fldo Try.prog 219 0 = some (0, 1, 23) := by kernel_rfl
theorem fldo219_1 : VC.fldo Try.prog 219 1 = some (1, 1, 23) := by kernel_rfl
theorem fldo219_2 : VC.fldo Try.prog 219 2 = some (2, 1, 4) := by kernel_rfl
theorem fldo224_0 : VC.fldo Try.prog 224 0 = some (0, 1, 23) := by kernel_rfl
theorem fldo224_1 : VC.fldo Try.prog 224 1 = some (1, 1, 3) := by kernel_rfl
theorem fldo224_2 : VC.fldo Try.prog 224 2 = some (2, 1, 3) := by kernel_rfl
theorem fldo231_0 : VC.fldo Try.prog 231 0 = some (0, 1, 46) := by kernel_rfl
theorem fldo231_1 : VC.fldo Try.prog 231 1 = some (1, 1, 91) := by kernel_rfl
theorem fldo235_0 : VC.fldo Try.prog 235 0 = some (0, 1, 2) := by kernel_rfl
theorem fldo235_1 : VC.fldo Try.prog 235 1 = some (1, 2, 143) := by kernel_rfl
theorem fldo235_2 : VC.fldo Try.prog 235 2 = some (3, 1, 3) := by kernel_rfl
theorem fldo235_3 : VC.fldo Try.prog 235 3 = some (4, 1, 4) := by kernel_rfl
theorem fldo235_4 : VC.fldo Try.prog 235 4 = some (5, 1, 116) := by kernel_rfl
theorem fldo242_0 : VC.fldo Try.prog 242 0 = some (0, 1, 3) := by kernel_rfl
theorem fldo242_1 : VC.fldo Try.prog 242 1 = some (1, 1, 3) := by kernel_rfl
theorem fldo242_2 : VC.fldo Try.prog 242 2 = some (2, 2, 143) := by kernel_rfl
theorem fldo251_0 : VC.fldo Try.prog 251 0 = some (0, 1, 3) := by kernel_rfl
theorem fldo251_1 : VC.fldo Try.prog 251 1 = some (1, 1, 3) := by kernel_rfl
theorem fldo251_2 : VC.fldo Try.prog 251 2 = some (2, 1, 2) := by kernel_rfl
theorem fldo253_0 : VC.fldo Try.prog 253 0 = some (0, 3, 251) := by kernel_rfl
theorem fldo253_1 : VC.fldo Try.prog 253 1 = some (3, 1, 3) := by kernel_rfl
theorem fldo253_2 : VC.fldo Try.prog 253 2 = some (4, 1, 23) := by kernel_rfl
theorem fldo33_0 : VC.fldo Try.prog 33 0 = some (0, 1, 3) := by kernel_rfl
theorem fldo33_1 : VC.fldo Try.prog 33 1 = some (1, 1, 3) := by kernel_rfl
theorem fldo33_2 : VC.fldo Try.prog 33 2 = some (2, 1, 2) := by kernel_rfl
theorem fldo36_0 : VC.fldo Try.prog 36 0 = some (0, 1, 31) := by kernel_rfl
theorem fldo36_1 : VC.fldo Try.prog 36 1 = some (1, 3, 33) := by kernel_rfl
theorem fldo36_2 : VC.fldo Try.prog 36 2 = some (4, 1, 34) := by kernel_rfl
theorem fldo36_3 : VC.fldo Try.prog 36 3 = some (5, 1, 34) := by kernel_rfl
theorem fldo57_0 : VC.fldo Try.prog 57 0 = some (0, 1, 53) := by kernel_rfl
theorem fldo57_1 : VC.fldo Try.prog 57 1 = some (1, 1, 54) := by kernel_rfl
theorem fldo57_2 : VC.fldo Try.prog 57 2 = some (2, 1, 55) := by kernel_rfl
theorem fldo57_3 : VC.fldo Try.prog 57 3 = some (3, 1, 55) := by kernel_rfl
theorem fldo74_0 : VC.fldo Try.prog 74 0 = some (0, 1, 53) := by kernel_rfl
theorem fldo74_1 : VC.fldo Try.prog 74 1 = some (1, 1, 72) := by kernel_rfl
theorem fldo74_2 : VC.fldo Try.prog 74 2 = some (2, 1, 72) := by kernel_rfl
theorem fldo74_3 : VC.fldo Try.prog 74 3 = some (3, 1, 3) := by kernel_rfl
theorem fldo74_4 : VC.fldo Try.prog 74 4 = some (4, 1, 4) := by kernel_rfl
theorem fldo84_0 : VC.fldo Try.prog 84 0 = some (0, 1, 53) := by kernel_rfl
theorem fldo84_1 : VC.fldo Try.prog 84 1 = some (1, 1, 66) := by kernel_rfl
theorem fldo93_0 : VC.fldo Try.prog 93 0 = some (0, 1, 53) := by kernel_rfl
theorem fldo93_1 : VC.fldo Try.prog 93 1 = some (1, 1, 23) := by kernel_rfl
theorem fldo93_2 : VC.fldo Try.prog 93 2 = some (2, 1, 23) := by kernel_rfl
theorem fldo93_3 : VC.fldo Try.prog 93 3 = some (3, 1, 91) := by kernel_rfl
theorem fldo93_4 : VC.fldo Try.prog 93 4 = some (4, 1, 4) := by kernel_rfl
theorem isAggB101 : VC.isAggB Try.prog 101 = true := by kernel_rfl
theorem isAggB102 : VC.isAggB Try.prog 102 = false := by kernel_rfl
theorem isAggB108 : VC.isAggB Try.prog 108 = true := by kernel_rfl
theorem isAggB110 : VC.isAggB Try.prog 110 = true := by kernel_rfl
theorem isAggB112 : VC.isAggB Try.prog 112 = false := by kernel_rfl
theorem isAggB114 : VC.isAggB Try.prog 114 = false := by kernel_rfl
theorem isAggB116 : VC.isAggB Try.prog 116 = false := by kernel_rfl
theorem isAggB118 : VC.isAggB Try.prog 118 = true := by kernel_rfl
theorem isAggB120 : VC.isAggB Try.prog 120 = false := by kernel_rfl
theorem isAggB127 : VC.isAggB Try.prog 127 = true := by kernel_rfl
theorem isAggB128 : VC.isAggB Try.prog 128 = false := by kernel_rfl
theorem isAggB129 : VC.isAggB Try.prog 129 = false := by kernel_rfl
theorem isAggB131 : VC.isAggB Try.prog 131 = true := by kernel_rfl
theorem isAggB133 : VC.isAggB Try.prog 133 = true := by kernel_rfl
theorem isAggB135 : VC.isAggB Try.prog 135 = false := by kernel_rfl
theorem isAggB136 : VC.isAggB Try.prog 136 = false := by kernel_rfl
theorem isAggB138 : VC.isAggB Try.prog 138 = true := by kernel_rfl
theorem isAggB143 : VC.isAggB Try.prog 143 = true := by kernel_rfl
theorem isAggB146 : VC.isAggB Try.prog 146 = true := by kernel_rfl
theorem isAggB151 : VC.isAggB Try.prog 151 = false := by kernel_rfl
theorem isAggB154 : VC.isAggB Try.prog 154 = false := by kernel_rfl
theorem isAggB155 : VC.isAggB Try.prog 155 = false := by kernel_rfl
theorem isAggB156 : VC.isAggB Try.prog 156 = true := by kernel_rfl
theorem isAggB158 : VC.isAggB Try.prog 158 = true := by kernel_rfl
theorem isAggB161 : VC.isAggB Try.prog 161 = true := by kernel_rfl
theorem isAggB164 : VC.isAggB Try.prog 164 = false := by kernel_rfl
theorem isAggB165 : VC.isAggB Try.prog 165 = false := by kernel_rfl
theorem isAggB166 : VC.isAggB Try.prog 166 = false := by kernel_rfl
theorem isAggB168 : VC.isAggB Try.prog 168 = true := by kernel_rfl
theorem isAggB170 : VC.isAggB Try.prog 170 = true := by kernel_rfl
theorem isAggB172 : VC.isAggB Try.prog 172 = true := by kernel_rfl
theorem isAggB174 : VC.isAggB Try.prog 174 = true := by kernel_rfl
theorem isAggB176 : VC.isAggB Try.prog 176 = true := by kernel_rfl
theorem isAggB177 : VC.isAggB Try.prog 177 = false := by kernel_rfl
theorem isAggB179 : VC.isAggB Try.prog 179 = true := by kernel_rfl
theorem isAggB183 : VC.isAggB Try.prog 183 = false := by kernel_rfl
theorem isAggB185 : VC.isAggB Try.prog 185 = false := by kernel_rfl
theorem isAggB186 : VC.isAggB Try.prog 186 = false := by kernel_rfl
theorem isAggB187 : VC.isAggB Try.prog 187 = false := by kernel_rfl
theorem isAggB188 : VC.isAggB Try.prog 188 = false := by kernel_rfl
theorem isAggB189 : VC.isAggB Try.prog 189 = true := by kernel_rfl
theorem isAggB191 : VC.isAggB Try.prog 191 = true := by kernel_rfl
theorem isAggB193 : VC.isAggB Try.prog 193 = true := by kernel_rfl
theorem isAggB195 : VC.isAggB Try.prog 195 = false := by kernel_rfl
theorem isAggB197 : VC.isAggB Try.prog 197 = true := by kernel_rfl
theorem isAggB199 : VC.isAggB Try.prog 199 = true := by kernel_rfl
theorem isAggB2 : VC.isAggB Try.prog 2 = false := by kernel_rfl
theorem isAggB200 : VC.isAggB Try.prog 200 = false := by kernel_rfl
theorem isAggB201 : VC.isAggB Try.prog 201 = false := by kernel_rfl
theorem isAggB202 : VC.isAggB Try.prog 202 = false := by kernel_rfl
theorem isAggB204 : VC.isAggB Try.prog 204 = true := by kernel_rfl
theorem isAggB205 : VC.isAggB Try.prog 205 = false := by kernel_rfl
theorem isAggB208 : VC.isAggB Try.prog 208 = true := by kernel_rfl
theorem isAggB210 : VC.isAggB Try.prog 210 = false := by kernel_rfl
theorem isAggB211 : VC.isAggB Try.prog 211 = false := by kernel_rfl
theorem isAggB213 : VC.isAggB Try.prog 213 = true := by kernel_rfl
theorem isAggB215 : VC.isAggB Try.prog 215 = true := by kernel_rfl
theorem isAggB216 : VC.isAggB Try.prog 216 = true := by kernel_rfl
theorem isAggB219 : VC.isAggB Try.prog 219 = true := by kernel_rfl
theorem isAggB22 : VC.isAggB Try.prog 22 = false := by kernel_rfl
theorem isAggB220 : VC.isAggB Try.prog 220 = false := by kernel_rfl
theorem isAggB222 : VC.isAggB Try.prog 222 = false := by kernel_rfl
theorem isAggB224 : VC.isAggB Try.prog 224 = true := by kernel_rfl
theorem isAggB226 : VC.isAggB Try.prog 226 = false := by kernel_rfl
theorem isAggB23 : VC.isAggB Try.prog 23 = false := by kernel_rfl
theorem isAggB231 : VC.isAggB Try.prog 231 = true := by kernel_rfl
theorem isAggB232 : VC.isAggB Try.prog 232 = false := by kernel_rfl
theorem isAggB235 : VC.isAggB Try.prog 235 = true := by kernel_rfl
theorem isAggB237 : VC.isAggB Try.prog 237 = false := by kernel_rfl
theorem isAggB24 : VC.isAggB Try.prog 24 = false := by kernel_rfl
theorem isAggB242 : VC.isAggB Try.prog 242 = true := by kernel_rfl
theorem isAggB251 : VC.isAggB Try.prog 251 = true := by kernel_rfl
theorem isAggB253 : VC.isAggB Try.prog 253 = true := by kernel_rfl
theorem isAggB254 : VC.isAggB Try.prog 254 = false := by kernel_rfl
theorem isAggB263 : VC.isAggB Try.prog 263 = false := by kernel_rfl
theorem isAggB3 : VC.isAggB Try.prog 3 = false := by kernel_rfl
theorem isAggB31 : VC.isAggB Try.prog 31 = false := by kernel_rfl
theorem isAggB33 : VC.isAggB Try.prog 33 = true := by kernel_rfl
theorem isAggB34 : VC.isAggB Try.prog 34 = false := by kernel_rfl
theorem isAggB36 : VC.isAggB Try.prog 36 = true := by kernel_rfl
theorem isAggB39 : VC.isAggB Try.prog 39 = false := by kernel_rfl
theorem isAggB4 : VC.isAggB Try.prog 4 = false := by kernel_rfl
theorem isAggB46 : VC.isAggB Try.prog 46 = false := by kernel_rfl
theorem isAggB52 : VC.isAggB Try.prog 52 = false := by kernel_rfl
theorem isAggB53 : VC.isAggB Try.prog 53 = false := by kernel_rfl
theorem isAggB54 : VC.isAggB Try.prog 54 = false := by kernel_rfl
theorem isAggB55 : VC.isAggB Try.prog 55 = false := by kernel_rfl
theorem isAggB57 : VC.isAggB Try.prog 57 = true := by kernel_rfl
theorem isAggB66 : VC.isAggB Try.prog 66 = false := by kernel_rfl
theorem isAggB71 : VC.isAggB Try.prog 71 = false := by kernel_rfl
theorem isAggB72 : VC.isAggB Try.prog 72 = false := by kernel_rfl
theorem isAggB74 : VC.isAggB Try.prog 74 = true := by kernel_rfl
theorem isAggB82 : VC.isAggB Try.prog 82 = false := by kernel_rfl
theorem isAggB84 : VC.isAggB Try.prog 84 = true := by kernel_rfl
theorem isAggB90 : VC.isAggB Try.prog 90 = false := by kernel_rfl
theorem isAggB91 : VC.isAggB Try.prog 91 = false := by kernel_rfl
theorem isAggB93 : VC.isAggB Try.prog 93 = true := by kernel_rfl
theorem kOf101 : VC.kOf Try.prog 101 = .o := by kernel_rfl
theorem kOf102 : VC.kOf Try.prog 102 = .o := by kernel_rfl
theorem kOf108 : VC.kOf Try.prog 108 = .o := by kernel_rfl
theorem kOf110 : VC.kOf Try.prog 110 = .o := by kernel_rfl
theorem kOf112 : VC.kOf Try.prog 112 = .s := by kernel_rfl
theorem kOf114 : VC.kOf Try.prog 114 = .m := by kernel_rfl
theorem kOf116 : VC.kOf Try.prog 116 = .m := by kernel_rfl
theorem kOf118 : VC.kOf Try.prog 118 = .o := by kernel_rfl
theorem kOf120 : VC.kOf Try.prog 120 = .p := by kernel_rfl
theorem kOf127 : VC.kOf Try.prog 127 = .o := by kernel_rfl
theorem kOf128 : VC.kOf Try.prog 128 = .p := by kernel_rfl
theorem kOf129 : VC.kOf Try.prog 129 = .m := by kernel_rfl
theorem kOf131 : VC.kOf Try.prog 131 = .o := by kernel_rfl
theorem kOf133 : VC.kOf Try.prog 133 = .o := by kernel_rfl
theorem kOf135 : VC.kOf Try.prog 135 = .p := by kernel_rfl
theorem kOf136 : VC.kOf Try.prog 136 = .s := by kernel_rfl
theorem kOf138 : VC.kOf Try.prog 138 = .o := by kernel_rfl
theorem kOf143 : VC.kOf Try.prog 143 = .o := by kernel_rfl
theorem kOf146 : VC.kOf Try.prog 146 = .o := by kernel_rfl
theorem kOf151 : VC.kOf Try.prog 151 = .o := by kernel_rfl
theorem kOf154 : VC.kOf Try.prog 154 = .p := by kernel_rfl
theorem kOf155 : VC.kOf Try.prog 155 = .i .u32 := by kernel_rfl
theorem kOf156 : VC.kOf Try.prog 156 = .o := by kernel_rfl
theorem kOf158 : VC.kOf Try.prog 158 = .o := by kernel_rfl
theorem kOf161 : VC.kOf Try.prog 161 = .o := by kernel_rfl
theorem kOf164 : VC.kOf Try.prog 164 = .p := by kernel_rfl
theorem kOf165 : VC.kOf Try.prog 165 = .s := by kernel_rfl
theorem kOf166 : VC.kOf Try.prog 166 = .m := by kernel_rfl
theorem kOf168 : VC.kOf Try.prog 168 = .o := by kernel_rfl
theorem kOf170 : VC.kOf Try.prog 170 = .o := by kernel_rfl
theorem kOf172 : VC.kOf Try.prog 172 = .o := by kernel_rfl
theorem kOf174 : VC.kOf Try.prog 174 = .o := by kernel_rfl
theorem kOf176 : VC.kOf Try.prog 176 = .o := by kernel_rfl
theorem kOf177 : VC.kOf Try.prog 177 = .s := by kernel_rfl
theorem kOf179 : VC.kOf Try.prog 179 = .o := by kernel_rfl
theorem kOf183 : VC.kOf Try.prog 183 = .o := by kernel_rfl
theorem kOf185 : VC.kOf Try.prog 185 = .p := by kernel_rfl
theorem kOf186 : VC.kOf Try.prog 186 = .s := by kernel_rfl
theorem kOf187 : VC.kOf Try.prog 187 = .s := by kernel_rfl
theorem kOf188 : VC.kOf Try.prog 188 = .p := by kernel_rfl
theorem kOf189 : VC.kOf Try.prog 189 = .o := by kernel_rfl
theorem kOf191 : VC.kOf Try.prog 191 = .o := by kernel_rfl
theorem kOf193 : VC.kOf Try.prog 193 = .o := by kernel_rfl
theorem kOf195 : VC.kOf Try.prog 195 = .p := by kernel_rfl
theorem kOf197 : VC.kOf Try.prog 197 = .o := by kernel_rfl
theorem kOf199 : VC.kOf Try.prog 199 = .o := by kernel_rfl
theorem kOf2 : VC.kOf Try.prog 2 = .i .i64 := by kernel_rfl
theorem kOf200 : VC.kOf Try.prog 200 = .p := by kernel_rfl
theorem kOf201 : VC.kOf Try.prog 201 = .s := by kernel_rfl
theorem kOf202 : VC.kOf Try.prog 202 = .s := by kernel_rfl
theorem kOf204 : VC.kOf Try.prog 204 = .o := by kernel_rfl
theorem kOf205 : VC.kOf Try.prog 205 = .p := by kernel_rfl
theorem kOf208 : VC.kOf Try.prog 208 = .o := by kernel_rfl
theorem kOf210 : VC.kOf Try.prog 210 = .s := by kernel_rfl
theorem kOf211 : VC.kOf Try.prog 211 = .m := by kernel_rfl
theorem kOf213 : VC.kOf Try.prog 213 = .o := by kernel_rfl
theorem kOf215 : VC.kOf Try.prog 215 = .o := by kernel_rfl
theorem kOf216 : VC.kOf Try.prog 216 = .o := by kernel_rfl
theorem kOf219 : VC.kOf Try.prog 219 = .o := by kernel_rfl
theorem kOf22 : VC.kOf Try.prog 22 = .s := by kernel_rfl
theorem kOf220 : VC.kOf Try.prog 220 = .s := by kernel_rfl
theorem kOf222 : VC.kOf Try.prog 222 = .p := by kernel_rfl
theorem kOf224 : VC.kOf Try.prog 224 = .o := by kernel_rfl
theorem kOf226 : VC.kOf Try.prog 226 = .i .u64 := by kernel_rfl
theorem kOf23 : VC.kOf Try.prog 23 = .s := by kernel_rfl
theorem kOf231 : VC.kOf Try.prog 231 = .o := by kernel_rfl
theorem kOf232 : VC.kOf Try.prog 232 = .p := by kernel_rfl
theorem kOf235 : VC.kOf Try.prog 235 = .o := by kernel_rfl
theorem kOf237 : VC.kOf Try.prog 237 = .p := by kernel_rfl
theorem kOf24 : VC.kOf Try.prog 24 = .i .i64 := by kernel_rfl
theorem kOf242 : VC.kOf Try.prog 242 = .o := by kernel_rfl
theorem kOf251 : VC.kOf Try.prog 251 = .o := by kernel_rfl
theorem kOf253 : VC.kOf Try.prog 253 = .o := by kernel_rfl
theorem kOf254 : VC.kOf Try.prog 254 = .s := by kernel_rfl
theorem kOf263 : VC.kOf Try.prog 263 = .i .u64 := by kernel_rfl
theorem kOf3 : VC.kOf Try.prog 3 = .i .i64 := by kernel_rfl
theorem kOf31 : VC.kOf Try.prog 31 = .s := by kernel_rfl
theorem kOf33 : VC.kOf Try.prog 33 = .o := by kernel_rfl
theorem kOf34 : VC.kOf Try.prog 34 = .s := by kernel_rfl
theorem kOf36 : VC.kOf Try.prog 36 = .o := by kernel_rfl
theorem kOf39 : VC.kOf Try.prog 39 = .s := by kernel_rfl
theorem kOf4 : VC.kOf Try.prog 4 = .b := by kernel_rfl
theorem kOf46 : VC.kOf Try.prog 46 = .s := by kernel_rfl
theorem kOf52 : VC.kOf Try.prog 52 = .s := by kernel_rfl
theorem kOf53 : VC.kOf Try.prog 53 = .s := by kernel_rfl
theorem kOf54 : VC.kOf Try.prog 54 = .s := by kernel_rfl
theorem kOf55 : VC.kOf Try.prog 55 = .s := by kernel_rfl
theorem kOf57 : VC.kOf Try.prog 57 = .o := by kernel_rfl
theorem kOf66 : VC.kOf Try.prog 66 = .s := by kernel_rfl
theorem kOf71 : VC.kOf Try.prog 71 = .s := by kernel_rfl
theorem kOf72 : VC.kOf Try.prog 72 = .s := by kernel_rfl
theorem kOf74 : VC.kOf Try.prog 74 = .o := by kernel_rfl
theorem kOf82 : VC.kOf Try.prog 82 = .s := by kernel_rfl
theorem kOf84 : VC.kOf Try.prog 84 = .o := by kernel_rfl
theorem kOf90 : VC.kOf Try.prog 90 = .s := by kernel_rfl
theorem kOf91 : VC.kOf Try.prog 91 = .s := by kernel_rfl
theorem kOf93 : VC.kOf Try.prog 93 = .o := by kernel_rfl
theorem kinds101 : VC.kinds Try.prog 8 101 = [.i .i64, .b, .s] := by kernel_rfl
theorem kinds102 : VC.kinds Try.prog 8 102 = [.o] := by kernel_rfl
theorem kinds108 : VC.kinds Try.prog 8 108 = [.s, .s] := by kernel_rfl
theorem kinds110 : VC.kinds Try.prog 8 110 = [.i .i64, .i .i64, .i .i64] := by kernel_rfl
theorem kinds112 : VC.kinds Try.prog 8 112 = [.s] := by kernel_rfl
theorem kinds114 : VC.kinds Try.prog 8 114 = [.m] := by kernel_rfl
theorem kinds116 : VC.kinds Try.prog 8 116 = [.m] := by kernel_rfl
theorem kinds118 : VC.kinds Try.prog 8 118 = [.i .i64, .i .i64, .i .i64] := by kernel_rfl
theorem kinds120 : VC.kinds Try.prog 8 120 = [.p] := by kernel_rfl
theorem kinds127 : VC.kinds Try.prog 8 127 = [.i .i64, .i .i64, .i .i64] := by kernel_rfl
theorem kinds128 : VC.kinds Try.prog 8 128 = [.p] := by kernel_rfl
theorem kinds129 : VC.kinds Try.prog 8 129 = [.m] := by kernel_rfl
theorem kinds131 : VC.kinds Try.prog 8 131 = [.s, .m, .s, .s, .s, .s] := by kernel_rfl
theorem kinds133 : VC.kinds Try.prog 8 133 = [.i .i64, .i .i64, .i .i64, .i .i64] := by kernel_rfl
theorem kinds135 : VC.kinds Try.prog 8 135 = [.p] := by kernel_rfl
theorem kinds136 : VC.kinds Try.prog 8 136 = [.s] := by kernel_rfl
theorem kinds138 : VC.kinds Try.prog 8 138 = [.i .i64, .s, .s, .s, .s] := by kernel_rfl
theorem kinds143 : VC.kinds Try.prog 8 143 = [.i .i64, .i .i64] := by kernel_rfl
theorem kinds146 : VC.kinds Try.prog 8 146 = [.i .i64, .i .i64, .i .i64] := by kernel_rfl
theorem kinds151 : VC.kinds Try.prog 8 151 = [.o] := by kernel_rfl
theorem kinds154 : VC.kinds Try.prog 8 154 = [.p] := by kernel_rfl
theorem kinds155 : VC.kinds Try.prog 8 155 = [.i .u32] := by kernel_rfl
theorem kinds156 : VC.kinds Try.prog 8 156 = [.i .i64, .i .i64, .i .i64, .i .i64] := by kernel_rfl
theorem kinds158 : VC.kinds Try.prog 8 158 = [.s, .i .u32, .s, .i .i64, .i .i64, .i .i64, .i .i64] := by kernel_rfl
theorem kinds161 : VC.kinds Try.prog 8 161 = [.i .i64, .i .i64, .b, .i .i64, .i .i64, .i .i64] := by kernel_rfl
theorem kinds164 : VC.kinds Try.prog 8 164 = [.p] := by kernel_rfl
theorem kinds165 : VC.kinds Try.prog 8 165 = [.s] := by kernel_rfl
theorem kinds166 : VC.kinds Try.prog 8 166 = [.m] := by kernel_rfl
theorem kinds168 : VC.kinds Try.prog 8 168 = [.s, .m, .m, .b] := by kernel_rfl
theorem kinds170 : VC.kinds Try.prog 8 170 = [.b, .b, .i .i64, .i .i64] := by kernel_rfl
theorem kinds172 : VC.kinds Try.prog 8 172 = [.i .i64, .i .i64, .i .i64] := by kernel_rfl
theorem kinds174 : VC.kinds Try.prog 8 174 = [.m, .m] := by kernel_rfl
theorem kinds176 : VC.kinds Try.prog 8 176 = [.i .i64, .i .i64] := by kernel_rfl
theorem kinds177 : VC.kinds Try.prog 8 177 = [.s] := by kernel_rfl
theorem kinds179 : VC.kinds Try.prog 8 179 = [.b, .b, .i .i64, .i .i64] := by kernel_rfl
theorem kinds183 : VC.kinds Try.prog 8 183 = [.o] := by kernel_rfl
theorem kinds185 : VC.kinds Try.prog 8 185 = [.p] := by kernel_rfl
theorem kinds186 : VC.kinds Try.prog 8 186 = [.s] := by kernel_rfl
theorem kinds187 : VC.kinds Try.prog 8 187 = [.s] := by kernel_rfl
theorem kinds188 : VC.kinds Try.prog 8 188 = [.p] := by kernel_rfl
theorem kinds189 : VC.kinds Try.prog 8 189 = [.p, .p, .p, .p] := by kernel_rfl
theorem kinds191 : VC.kinds Try.prog 8 191 = [.s, .s, .p, .p, .p, .p] := by kernel_rfl
theorem kinds193 : VC.kinds Try.prog 8 193 = [.i .i64, .i .i64, .i .i64, .i .i64, .b, .i .i64] := by kernel_rfl
theorem kinds195 : VC.kinds Try.prog 8 195 = [.p] := by kernel_rfl
theorem kinds197 : VC.kinds Try.prog 8 197 = [.i .i64, .i .i64, .i .i64] := by kernel_rfl
theorem kinds199 : VC.kinds Try.prog 8 199 = [.p, .i .i64, .i .i64, .i .i64, .b, .i .u32, .i .i64] := by kernel_rfl
theorem kinds2 : VC.kinds Try.prog 8 2 = [.i .i64] := by kernel_rfl
theorem kinds200 : VC.kinds Try.prog 8 200 = [.p] := by kernel_rfl
theorem kinds201 : VC.kinds Try.prog 8 201 = [.s] := by kernel_rfl
theorem kinds202 : VC.kinds Try.prog 8 202 = [.s] := by kernel_rfl
theorem kinds204 : VC.kinds Try.prog 8 204 = [.s, .s, .s] := by kernel_rfl
theorem kinds205 : VC.kinds Try.prog 8 205 = [.p] := by kernel_rfl
theorem kinds208 : VC.kinds Try.prog 8 208 = [.i .i64, .i .i64, .i .i64, .i .i64] := by kernel_rfl
theorem kinds210 : VC.kinds Try.prog 8 210 = [.s] := by kernel_rfl
theorem kinds211 : VC.kinds Try.prog 8 211 = [.m] := by kernel_rfl
theorem kinds213 : VC.kinds Try.prog 8 213 = [.s, .m] := by kernel_rfl
theorem kinds215 : VC.kinds Try.prog 8 215 = [.i .i64, .i .i64] := by kernel_rfl
theorem kinds216 : VC.kinds Try.prog 8 216 = [.i .i64, .i .i64] := by kernel_rfl
theorem kinds219 : VC.kinds Try.prog 8 219 = [.s, .s, .b] := by kernel_rfl
theorem kinds22 : VC.kinds Try.prog 8 22 = [.s] := by kernel_rfl
theorem kinds220 : VC.kinds Try.prog 8 220 = [.s] := by kernel_rfl
theorem kinds222 : VC.kinds Try.prog 8 222 = [.p] := by kernel_rfl
theorem kinds224 : VC.kinds Try.prog 8 224 = [.s, .i .i64, .i .i64] := by kernel_rfl
theorem kinds226 : VC.kinds Try.prog 8 226 = [.i .u64] := by kernel_rfl
theorem kinds23 : VC.kinds Try.prog 8 23 = [.s] := by kernel_rfl
theorem kinds231 : VC.kinds Try.prog 8 231 = [.s, .s] := by kernel_rfl
theorem kinds232 : VC.kinds Try.prog 8 232 = [.p] := by kernel_rfl
theorem kinds235 : VC.kinds Try.prog 8 235 = [.i .i64, .i .i64, .i .i64, .i .i64, .b, .m] := by kernel_rfl
theorem kinds237 : VC.kinds Try.prog 8 237 = [.p] := by kernel_rfl
theorem kinds24 : VC.kinds Try.prog 8 24 = [.i .i64] := by kernel_rfl
theorem kinds242 : VC.kinds Try.prog 8 242 = [.i .i64, .i .i64, .i .i64, .i .i64] := by kernel_rfl
theorem kinds251 : VC.kinds Try.prog 8 251 = [.i .i64, .i .i64, .i .i64] := by kernel_rfl
theorem kinds253 : VC.kinds Try.prog 8 253 = [.i .i64, .i .i64, .i .i64, .i .i64, .s, .i .i64] := by kernel_rfl
theorem kinds254 : VC.kinds Try.prog 8 254 = [.s] := by kernel_rfl
theorem kinds263 : VC.kinds Try.prog 8 263 = [.i .u64] := by kernel_rfl
theorem kinds3 : VC.kinds Try.prog 8 3 = [.i .i64] := by kernel_rfl
theorem kinds31 : VC.kinds Try.prog 8 31 = [.s] := by kernel_rfl
theorem kinds33 : VC.kinds Try.prog 8 33 = [.i .i64, .i .i64, .i .i64] := by kernel_rfl
theorem kinds34 : VC.kinds Try.prog 8 34 = [.s] := by kernel_rfl
theorem kinds36 : VC.kinds Try.prog 8 36 = [.s, .i .i64, .i .i64, .i .i64, .s, .s] := by kernel_rfl
theorem kinds39 : VC.kinds Try.prog 8 39 = [.s] := by kernel_rfl
theorem kinds4 : VC.kinds Try.prog 8 4 = [.b] := by kernel_rfl
theorem kinds46 : VC.kinds Try.prog 8 46 = [.s] := by kernel_rfl
theorem kinds52 : VC.kinds Try.prog 8 52 = [.s] := by kernel_rfl
theorem kinds53 : VC.kinds Try.prog 8 53 = [.s] := by kernel_rfl
theorem kinds54 : VC.kinds Try.prog 8 54 = [.s] := by kernel_rfl
theorem kinds55 : VC.kinds Try.prog 8 55 = [.s] := by kernel_rfl
theorem kinds57 : VC.kinds Try.prog 8 57 = [.s, .s, .s, .s] := by kernel_rfl
theorem kinds66 : VC.kinds Try.prog 8 66 = [.s] := by kernel_rfl
theorem kinds71 : VC.kinds Try.prog 8 71 = [.s] := by kernel_rfl
theorem kinds72 : VC.kinds Try.prog 8 72 = [.s] := by kernel_rfl
theorem kinds74 : VC.kinds Try.prog 8 74 = [.s, .s, .s, .i .i64, .b] := by kernel_rfl
theorem kinds82 : VC.kinds Try.prog 8 82 = [.s] := by kernel_rfl
theorem kinds84 : VC.kinds Try.prog 8 84 = [.s, .s] := by kernel_rfl
theorem kinds90 : VC.kinds Try.prog 8 90 = [.s] := by kernel_rfl
theorem kinds91 : VC.kinds Try.prog 8 91 = [.s] := by kernel_rfl
theorem kinds93 : VC.kinds Try.prog 8 93 = [.s, .s, .s, .s, .b] := by kernel_rfl
theorem knownB101 : VC.knownB Try.prog 101 = true := by kernel_rfl
theorem knownB102 : VC.knownB Try.prog 102 = true := by kernel_rfl
theorem knownB108 : VC.knownB Try.prog 108 = true := by kernel_rfl
theorem knownB110 : VC.knownB Try.prog 110 = true := by kernel_rfl
theorem knownB112 : VC.knownB Try.prog 112 = true := by kernel_rfl
theorem knownB114 : VC.knownB Try.prog 114 = true := by kernel_rfl
theorem knownB116 : VC.knownB Try.prog 116 = true := by kernel_rfl
theorem knownB118 : VC.knownB Try.prog 118 = true := by kernel_rfl
theorem knownB120 : VC.knownB Try.prog 120 = true := by kernel_rfl
theorem knownB127 : VC.knownB Try.prog 127 = true := by kernel_rfl
theorem knownB128 : VC.knownB Try.prog 128 = true := by kernel_rfl
theorem knownB129 : VC.knownB Try.prog 129 = true := by kernel_rfl
theorem knownB131 : VC.knownB Try.prog 131 = true := by kernel_rfl
theorem knownB133 : VC.knownB Try.prog 133 = true := by kernel_rfl
theorem knownB135 : VC.knownB Try.prog 135 = true := by kernel_rfl
theorem knownB136 : VC.knownB Try.prog 136 = true := by kernel_rfl
theorem knownB138 : VC.knownB Try.prog 138 = true := by kernel_rfl
theorem knownB143 : VC.knownB Try.prog 143 = true := by kernel_rfl
theorem knownB146 : VC.knownB Try.prog 146 = true := by kernel_rfl
theorem knownB151 : VC.knownB Try.prog 151 = true := by kernel_rfl
theorem knownB154 : VC.knownB Try.prog 154 = true := by kernel_rfl
theorem knownB155 : VC.knownB Try.prog 155 = true := by kernel_rfl
theorem knownB156 : VC.knownB Try.prog 156 = true := by kernel_rfl
theorem knownB158 : VC.knownB Try.prog 158 = true := by kernel_rfl
theorem knownB161 : VC.knownB Try.prog 161 = true := by kernel_rfl
theorem knownB164 : VC.knownB Try.prog 164 = true := by kernel_rfl
theorem knownB165 : VC.knownB Try.prog 165 = true := by kernel_rfl
theorem knownB166 : VC.knownB Try.prog 166 = true := by kernel_rfl
theorem knownB168 : VC.knownB Try.prog 168 = true := by kernel_rfl
theorem knownB170 : VC.knownB Try.prog 170 = true := by kernel_rfl
theorem knownB172 : VC.knownB Try.prog 172 = true := by kernel_rfl
theorem knownB174 : VC.knownB Try.prog 174 = true := by kernel_rfl
theorem knownB176 : VC.knownB Try.prog 176 = true := by kernel_rfl
theorem knownB177 : VC.knownB Try.prog 177 = true := by kernel_rfl
theorem knownB179 : VC.knownB Try.prog 179 = true := by kernel_rfl
theorem knownB183 : VC.knownB Try.prog 183 = true := by kernel_rfl
theorem knownB185 : VC.knownB Try.prog 185 = true := by kernel_rfl
theorem knownB186 : VC.knownB Try.prog 186 = true := by kernel_rfl
theorem knownB187 : VC.knownB Try.prog 187 = true := by kernel_rfl
theorem knownB188 : VC.knownB Try.prog 188 = true := by kernel_rfl
theorem knownB189 : VC.knownB Try.prog 189 = true := by kernel_rfl
theorem knownB191 : VC.knownB Try.prog 191 = true := by kernel_rfl
theorem knownB193 : VC.knownB Try.prog 193 = true := by kernel_rfl
theorem knownB195 : VC.knownB Try.prog 195 = true := by kernel_rfl
theorem knownB197 : VC.knownB Try.prog 197 = true := by kernel_rfl
theorem knownB199 : VC.knownB Try.prog 199 = true := by kernel_rfl
theorem knownB2 : VC.knownB Try.prog 2 = true := by kernel_rfl
theorem knownB200 : VC.knownB Try.prog 200 = true := by kernel_rfl
theorem knownB201 : VC.knownB Try.prog 201 = true := by kernel_rfl
theorem knownB202 : VC.knownB Try.prog 202 = true := by kernel_rfl
theorem knownB204 : VC.knownB Try.prog 204 = true := by kernel_rfl
theorem knownB205 : VC.knownB Try.prog 205 = true := by kernel_rfl
theorem knownB208 : VC.knownB Try.prog 208 = true := by kernel_rfl
theorem knownB210 : VC.knownB Try.prog 210 = true := by kernel_rfl
theorem knownB211 : VC.knownB Try.prog 211 = true := by kernel_rfl
theorem knownB213 : VC.knownB Try.prog 213 = true := by kernel_rfl
theorem knownB215 : VC.knownB Try.prog 215 = true := by kernel_rfl
theorem knownB216 : VC.knownB Try.prog 216 = true := by kernel_rfl
theorem knownB219 : VC.knownB Try.prog 219 = true := by kernel_rfl
theorem knownB22 : VC.knownB Try.prog 22 = true := by kernel_rfl
theorem knownB220 : VC.knownB Try.prog 220 = true := by kernel_rfl
theorem knownB222 : VC.knownB Try.prog 222 = true := by kernel_rfl
theorem knownB224 : VC.knownB Try.prog 224 = true := by kernel_rfl
theorem knownB226 : VC.knownB Try.prog 226 = true := by kernel_rfl
theorem knownB23 : VC.knownB Try.prog 23 = true := by kernel_rfl
theorem knownB231 : VC.knownB Try.prog 231 = true := by kernel_rfl
theorem knownB232 : VC.knownB Try.prog 232 = true := by kernel_rfl
theorem knownB235 : VC.knownB Try.prog 235 = true := by kernel_rfl
theorem knownB237 : VC.knownB Try.prog 237 = true := by kernel_rfl
theorem knownB24 : VC.knownB Try.prog 24 = true := by kernel_rfl
theorem knownB242 : VC.knownB Try.prog 242 = true := by kernel_rfl
theorem knownB251 : VC.knownB Try.prog 251 = true := by kernel_rfl
theorem knownB253 : VC.knownB Try.prog 253 = true := by kernel_rfl
theorem knownB254 : VC.knownB Try.prog 254 = true := by kernel_rfl
theorem knownB263 : VC.knownB Try.prog 263 = true := by kernel_rfl
theorem knownB3 : VC.knownB Try.prog 3 = true := by kernel_rfl
theorem knownB31 : VC.knownB Try.prog 31 = true := by kernel_rfl
theorem knownB33 : VC.knownB Try.prog 33 = true := by kernel_rfl
theorem knownB34 : VC.knownB Try.prog 34 = true := by kernel_rfl
theorem knownB36 : VC.knownB Try.prog 36 = true := by kernel_rfl
theorem knownB39 : VC.knownB Try.prog 39 = true := by kernel_rfl
theorem knownB4 : VC.knownB Try.prog 4 = true := by kernel_rfl
theorem knownB46 : VC.knownB Try.prog 46 = true := by kernel_rfl
theorem knownB52 : VC.knownB Try.prog 52 = true := by kernel_rfl
theorem knownB53 : VC.knownB Try.prog 53 = true := by kernel_rfl
theorem knownB54 : VC.knownB Try.prog 54 = true := by kernel_rfl
theorem knownB55 : VC.knownB Try.prog 55 = true := by kernel_rfl
theorem knownB57 : VC.knownB Try.prog 57 = true := by kernel_rfl
theorem knownB66 : VC.knownB Try.prog 66 = true := by kernel_rfl
theorem knownB71 : VC.knownB Try.prog 71 = true := by kernel_rfl
theorem knownB72 : VC.knownB Try.prog 72 = true := by kernel_rfl
theorem knownB74 : VC.knownB Try.prog 74 = true := by kernel_rfl
theorem knownB82 : VC.knownB Try.prog 82 = true := by kernel_rfl
theorem knownB84 : VC.knownB Try.prog 84 = true := by kernel_rfl
theorem knownB90 : VC.knownB Try.prog 90 = true := by kernel_rfl
theorem knownB91 : VC.knownB Try.prog 91 = true := by kernel_rfl
theorem knownB93 : VC.knownB Try.prog 93 = true := by kernel_rfl
theorem placeo101 : VC.placeo Try.prog 101 = some [(0, 1), (1, 1), (2, 1)] := by kernel_rfl
theorem placeo108 : VC.placeo Try.prog 108 = some [(0, 1), (1, 1)] := by kernel_rfl
theorem placeo110 : VC.placeo Try.prog 110 = some [(0, 1), (1, 1), (2, 1)] := by kernel_rfl
theorem placeo118 : VC.placeo Try.prog 118 = some [(0, 1), (1, 1), (2, 1)] := by kernel_rfl
theorem placeo127 : VC.placeo Try.prog 127 = some [(0, 1), (1, 1), (2, 1)] := by kernel_rfl
theorem placeo131 : VC.placeo Try.prog 131 = some [(0, 1), (1, 1), (2, 4)] := by kernel_rfl
theorem placeo133 : VC.placeo Try.prog 133 = some [(0, 1), (1, 1), (2, 1), (3, 1)] := by kernel_rfl
theorem placeo138 : VC.placeo Try.prog 138 = some [(0, 1), (1, 1), (2, 1), (3, 1), (4, 1)] := by kernel_rfl
theorem placeo143 : VC.placeo Try.prog 143 = some [(0, 1), (1, 1)] := by kernel_rfl
theorem placeo146 : VC.placeo Try.prog 146 = some [(0, 1), (1, 2)] := by kernel_rfl
theorem placeo156 : VC.placeo Try.prog 156 = some [(0, 1), (1, 1), (2, 1), (3, 1)] := by kernel_rfl
theorem placeo158 : VC.placeo Try.prog 158 = some [(0, 1), (1, 1), (2, 1), (3, 4)] := by kernel_rfl
theorem placeo161 : VC.placeo Try.prog 161 = some [(0, 1), (1, 1), (2, 1), (3, 1), (4, 1), (5, 1)] := by kernel_rfl
theorem placeo168 : VC.placeo Try.prog 168 = some [(0, 1), (1, 1), (2, 1), (3, 1)] := by kernel_rfl
theorem placeo170 : VC.placeo Try.prog 170 = some [(0, 1), (1, 1), (2, 1), (3, 1)] := by kernel_rfl
theorem placeo172 : VC.placeo Try.prog 172 = some [(0, 1), (1, 1), (2, 1)] := by kernel_rfl
theorem placeo174 : VC.placeo Try.prog 174 = some [(0, 1), (1, 1)] := by kernel_rfl
theorem placeo176 : VC.placeo Try.prog 176 = some [(0, 1), (1, 1)] := by kernel_rfl
theorem placeo179 : VC.placeo Try.prog 179 = some [(0, 1), (1, 1), (2, 1), (3, 1)] := by kernel_rfl
theorem placeo189 : VC.placeo Try.prog 189 = some [(0, 1), (1, 1), (2, 1), (3, 1)] := by kernel_rfl
theorem placeo191 : VC.placeo Try.prog 191 = some [(0, 1), (1, 1), (2, 4)] := by kernel_rfl
theorem placeo193 : VC.placeo Try.prog 193 = some [(0, 1), (1, 1), (2, 1), (3, 1), (4, 1), (5, 1)] := by kernel_rfl
theorem placeo197 : VC.placeo Try.prog 197 = some [(0, 1), (1, 1), (2, 1)] := by kernel_rfl
theorem placeo199 : VC.placeo Try.prog 199 = some [(0, 1), (1, 3), (4, 1), (5, 1), (6, 1)] := by kernel_rfl
theorem placeo204 : VC.placeo Try.prog 204 = some [(0, 1), (1, 1), (2, 1)] := by kernel_rfl
theorem placeo208 : VC.placeo Try.prog 208 = some [(0, 1), (1, 1), (2, 1), (3, 1)] := by kernel_rfl
theorem placeo213 : VC.placeo Try.prog 213 = some [(0, 1), (1, 1)] := by kernel_rfl
theorem placeo215 : VC.placeo Try.prog 215 = some [(0, 1), (1, 1)] := by kernel_rfl
theorem placeo216 : VC.placeo Try.prog 216 = some [(0, 1), (1, 1)] := by kernel_rfl
theorem placeo219 : VC.placeo Try.prog 219 = some [(0, 1), (1, 1), (2, 1)] := by kernel_rfl
theorem placeo224 : VC.placeo Try.prog 224 = some [(0, 1), (1, 1), (2, 1)] := by kernel_rfl
theorem placeo231 : VC.placeo Try.prog 231 = some [(0, 1), (1, 1)] := by kernel_rfl
theorem placeo235 : VC.placeo Try.prog 235 = some [(0, 1), (1, 2), (3, 1), (4, 1), (5, 1)] := by kernel_rfl
theorem placeo242 : VC.placeo Try.prog 242 = some [(0, 1), (1, 1), (2, 2)] := by kernel_rfl
theorem placeo251 : VC.placeo Try.prog 251 = some [(0, 1), (1, 1), (2, 1)] := by kernel_rfl
theorem placeo253 : VC.placeo Try.prog 253 = some [(0, 3), (3, 1), (4, 1), (5, 1)] := by kernel_rfl
theorem placeo33 : VC.placeo Try.prog 33 = some [(0, 1), (1, 1), (2, 1)] := by kernel_rfl
theorem placeo36 : VC.placeo Try.prog 36 = some [(0, 1), (1, 3), (4, 1), (5, 1)] := by kernel_rfl
theorem placeo57 : VC.placeo Try.prog 57 = some [(0, 1), (1, 1), (2, 1), (3, 1)] := by kernel_rfl
theorem placeo74 : VC.placeo Try.prog 74 = some [(0, 1), (1, 1), (2, 1), (3, 1), (4, 1)] := by kernel_rfl
theorem placeo84 : VC.placeo Try.prog 84 = some [(0, 1), (1, 1)] := by kernel_rfl
theorem placeo93 : VC.placeo Try.prog 93 = some [(0, 1), (1, 1), (2, 1), (3, 1), (4, 1)] := by kernel_rfl
theorem szo101 : VC.szo Try.prog 101 = some 3 := by kernel_rfl
theorem szo102 : VC.szo Try.prog 102 = some 1 := by kernel_rfl
theorem szo108 : VC.szo Try.prog 108 = some 2 := by kernel_rfl
theorem szo110 : VC.szo Try.prog 110 = some 3 := by kernel_rfl
theorem szo112 : VC.szo Try.prog 112 = some 1 := by kernel_rfl
theorem szo114 : VC.szo Try.prog 114 = some 1 := by kernel_rfl
theorem szo116 : VC.szo Try.prog 116 = some 1 := by kernel_rfl
theorem szo118 : VC.szo Try.prog 118 = some 3 := by kernel_rfl
theorem szo120 : VC.szo Try.prog 120 = some 1 := by kernel_rfl
theorem szo127 : VC.szo Try.prog 127 = some 3 := by kernel_rfl
theorem szo128 : VC.szo Try.prog 128 = some 1 := by kernel_rfl
theorem szo129 : VC.szo Try.prog 129 = some 1 := by kernel_rfl
theorem szo131 : VC.szo Try.prog 131 = some 6 := by kernel_rfl
theorem szo133 : VC.szo Try.prog 133 = some 4 := by kernel_rfl
theorem szo135 : VC.szo Try.prog 135 = some 1 := by kernel_rfl
theorem szo136 : VC.szo Try.prog 136 = some 1 := by kernel_rfl
theorem szo138 : VC.szo Try.prog 138 = some 5 := by kernel_rfl
theorem szo143 : VC.szo Try.prog 143 = some 2 := by kernel_rfl
theorem szo146 : VC.szo Try.prog 146 = some 3 := by kernel_rfl
theorem szo151 : VC.szo Try.prog 151 = some 1 := by kernel_rfl
theorem szo154 : VC.szo Try.prog 154 = some 1 := by kernel_rfl
theorem szo155 : VC.szo Try.prog 155 = some 1 := by kernel_rfl
theorem szo156 : VC.szo Try.prog 156 = some 4 := by kernel_rfl
theorem szo158 : VC.szo Try.prog 158 = some 7 := by kernel_rfl
theorem szo161 : VC.szo Try.prog 161 = some 6 := by kernel_rfl
theorem szo164 : VC.szo Try.prog 164 = some 1 := by kernel_rfl
theorem szo165 : VC.szo Try.prog 165 = some 1 := by kernel_rfl
theorem szo166 : VC.szo Try.prog 166 = some 1 := by kernel_rfl
theorem szo168 : VC.szo Try.prog 168 = some 4 := by kernel_rfl
theorem szo170 : VC.szo Try.prog 170 = some 4 := by kernel_rfl
theorem szo172 : VC.szo Try.prog 172 = some 3 := by kernel_rfl
theorem szo174 : VC.szo Try.prog 174 = some 2 := by kernel_rfl
theorem szo176 : VC.szo Try.prog 176 = some 2 := by kernel_rfl
theorem szo177 : VC.szo Try.prog 177 = some 1 := by kernel_rfl
theorem szo179 : VC.szo Try.prog 179 = some 4 := by kernel_rfl
theorem szo183 : VC.szo Try.prog 183 = some 1 := by kernel_rfl
theorem szo185 : VC.szo Try.prog 185 = some 1 := by kernel_rfl
theorem szo186 : VC.szo Try.prog 186 = some 1 := by kernel_rfl
theorem szo187 : VC.szo Try.prog 187 = some 1 := by kernel_rfl
theorem szo188 : VC.szo Try.prog 188 = some 1 := by kernel_rfl
theorem szo189 : VC.szo Try.prog 189 = some 4 := by kernel_rfl
theorem szo191 : VC.szo Try.prog 191 = some 6 := by kernel_rfl
theorem szo193 : VC.szo Try.prog 193 = some 6 := by kernel_rfl
theorem szo195 : VC.szo Try.prog 195 = some 1 := by kernel_rfl
theorem szo197 : VC.szo Try.prog 197 = some 3 := by kernel_rfl
theorem szo199 : VC.szo Try.prog 199 = some 7 := by kernel_rfl
theorem szo2 : VC.szo Try.prog 2 = some 1 := by kernel_rfl
theorem szo200 : VC.szo Try.prog 200 = some 1 := by kernel_rfl
theorem szo201 : VC.szo Try.prog 201 = some 1 := by kernel_rfl
theorem szo202 : VC.szo Try.prog 202 = some 1 := by kernel_rfl
theorem szo204 : VC.szo Try.prog 204 = some 3 := by kernel_rfl
theorem szo205 : VC.szo Try.prog 205 = some 1 := by kernel_rfl
theorem szo208 : VC.szo Try.prog 208 = some 4 := by kernel_rfl
theorem szo210 : VC.szo Try.prog 210 = some 1 := by kernel_rfl
theorem szo211 : VC.szo Try.prog 211 = some 1 := by kernel_rfl
theorem szo213 : VC.szo Try.prog 213 = some 2 := by kernel_rfl
theorem szo215 : VC.szo Try.prog 215 = some 2 := by kernel_rfl
theorem szo216 : VC.szo Try.prog 216 = some 2 := by kernel_rfl
theorem szo219 : VC.szo Try.prog 219 = some 3 := by kernel_rfl
theorem szo22 : VC.szo Try.prog 22 = some 1 := by kernel_rfl
theorem szo220 : VC.szo Try.prog 220 = some 1 := by kernel_rfl
theorem szo222 : VC.szo Try.prog 222 = some 1 := by kernel_rfl
theorem szo224 : VC.szo Try.prog 224 = some 3 := by kernel_rfl
theorem szo226 : VC.szo Try.prog 226 = some 1 := by kernel_rfl
theorem szo23 : VC.szo Try.prog 23 = some 1 := by kernel_rfl
theorem szo231 : VC.szo Try.prog 231 = some 2 := by kernel_rfl
theorem szo232 : VC.szo Try.prog 232 = some 1 := by kernel_rfl
theorem szo235 : VC.szo Try.prog 235 = some 6 := by kernel_rfl
theorem szo237 : VC.szo Try.prog 237 = some 1 := by kernel_rfl
theorem szo24 : VC.szo Try.prog 24 = some 1 := by kernel_rfl
theorem szo242 : VC.szo Try.prog 242 = some 4 := by kernel_rfl
theorem szo251 : VC.szo Try.prog 251 = some 3 := by kernel_rfl
theorem szo253 : VC.szo Try.prog 253 = some 6 := by kernel_rfl
theorem szo254 : VC.szo Try.prog 254 = some 1 := by kernel_rfl
theorem szo263 : VC.szo Try.prog 263 = some 1 := by kernel_rfl
theorem szo3 : VC.szo Try.prog 3 = some 1 := by kernel_rfl
theorem szo31 : VC.szo Try.prog 31 = some 1 := by kernel_rfl
theorem szo33 : VC.szo Try.prog 33 = some 3 := by kernel_rfl
theorem szo34 : VC.szo Try.prog 34 = some 1 := by kernel_rfl
theorem szo36 : VC.szo Try.prog 36 = some 6 := by kernel_rfl
theorem szo39 : VC.szo Try.prog 39 = some 1 := by kernel_rfl
theorem szo4 : VC.szo Try.prog 4 = some 1 := by kernel_rfl
theorem szo46 : VC.szo Try.prog 46 = some 1 := by kernel_rfl
theorem szo52 : VC.szo Try.prog 52 = some 1 := by kernel_rfl
theorem szo53 : VC.szo Try.prog 53 = some 1 := by kernel_rfl
theorem szo54 : VC.szo Try.prog 54 = some 1 := by kernel_rfl
theorem szo55 : VC.szo Try.prog 55 = some 1 := by kernel_rfl
theorem szo57 : VC.szo Try.prog 57 = some 4 := by kernel_rfl
theorem szo66 : VC.szo Try.prog 66 = some 1 := by kernel_rfl
theorem szo71 : VC.szo Try.prog 71 = some 1 := by kernel_rfl
theorem szo72 : VC.szo Try.prog 72 = some 1 := by kernel_rfl
theorem szo74 : VC.szo Try.prog 74 = some 5 := by kernel_rfl
theorem szo82 : VC.szo Try.prog 82 = some 1 := by kernel_rfl
theorem szo84 : VC.szo Try.prog 84 = some 2 := by kernel_rfl
theorem szo90 : VC.szo Try.prog 90 = some 1 := by kernel_rfl
theorem szo91 : VC.szo Try.prog 91 = some 1 := by kernel_rfl
theorem szo93 : VC.szo Try.prog 93 = some 5 := by kernel_rfl
theorem zco101 : VC.zco Try.prog 101 = some [.int .i64 0, .bool false, .slice none 0 0] := by kernel_rfl
theorem zco102 : VC.zco Try.prog 102 = some [.nilFunc] := by kernel_rfl
theorem zco108 : VC.zco Try.prog 108 = some [.slice none 0 0, .slice none 0 0] := by kernel_rfl
theorem zco110 : VC.zco Try.prog 110 = some [.int .i64 0, .int .i64 0, .int .i64 0] := by kernel_rfl
theorem zco112 : VC.zco Try.prog 112 = some [.slice none 0 0] := by kernel_rfl
theorem zco114 : VC.zco Try.prog 114 = some [.map none] := by kernel_rfl
theorem zco116 : VC.zco Try.prog 116 = some [.map none] := by kernel_rfl
theorem zco118 : VC.zco Try.prog 118 = some [.int .i64 0, .int .i64 0, .int .i64 0] := by kernel_rfl
theorem zco120 : VC.zco Try.prog 120 = some [.pointer none] := by kernel_rfl
theorem zco127 : VC.zco Try.prog 127 = some [.int .i64 0, .int .i64 0, .int .i64 0] := by kernel_rfl
theorem zco128 : VC.zco Try.prog 128 = some [.pointer none] := by kernel_rfl
theorem zco129 : VC.zco Try.prog 129 = some [.map none] := by kernel_rfl
theorem zco131 : VC.zco Try.prog 131 = some [.slice none 0 0, .map none, .slice none 0 0, .slice none 0 0, .slice none 0 0, .slice none 0 0] := by kernel_rfl
theorem zco133 : VC.zco Try.prog 133 = some [.int .i64 0, .int .i64 0, .int .i64 0, .int .i64 0] := by kernel_rfl
theorem zco135 : VC.zco Try.prog 135 = some [.pointer none] := by kernel_rfl
theorem zco136 : VC.zco Try.prog 136 = some [.slice none 0 0] := by kernel_rfl
theorem zco138 : VC.zco Try.prog 138 = some [.int .i64 0, .slice none 0 0, .slice none 0 0, .slice none 0 0, .slice none 0 0] := by kernel_rfl
theorem zco143 : VC.zco Try.prog 143 = some [.int .i64 0, .int .i64 0] := by kernel_rfl
theorem zco146 : VC.zco Try.prog 146 = some [.int .i64 0, .int .i64 0, .int .i64 0] := by kernel_rfl
theorem zco151 : VC.zco Try.prog 151 = some [.nilFunc] := by kernel_rfl
theorem zco154 : VC.zco Try.prog 154 = some [.pointer none] := by kernel_rfl
theorem zco155 : VC.zco Try.prog 155 = some [.int .u32 0] := by kernel_rfl
theorem zco156 : VC.zco Try.prog 156 = some [.int .i64 0, .int .i64 0, .int .i64 0, .int .i64 0] := by kernel_rfl
theorem zco158 : VC.zco Try.prog 158 = some [.slice none 0 0, .int .u32 0, .slice none 0 0, .int .i64 0, .int .i64 0, .int .i64 0, .int .i64 0] := by kernel_rfl
theorem zco161 : VC.zco Try.prog 161 = some [.int .i64 0, .int .i64 0, .bool false, .int .i64 0, .int .i64 0, .int .i64 0] := by kernel_rfl
theorem zco164 : VC.zco Try.prog 164 = some [.pointer none] := by kernel_rfl
theorem zco165 : VC.zco Try.prog 165 = some [.slice none 0 0] := by kernel_rfl
theorem zco166 : VC.zco Try.prog 166 = some [.map none] := by kernel_rfl
theorem zco168 : VC.zco Try.prog 168 = some [.slice none 0 0, .map none, .map none, .bool false] := by kernel_rfl
theorem zco170 : VC.zco Try.prog 170 = some [.bool false, .bool false, .int .i64 0, .int .i64 0] := by kernel_rfl
theorem zco172 : VC.zco Try.prog 172 = some [.int .i64 0, .int .i64 0, .int .i64 0] := by kernel_rfl
theorem zco174 : VC.zco Try.prog 174 = some [.map none, .map none] := by kernel_rfl
theorem zco176 : VC.zco Try.prog 176 = some [.int .i64 0, .int .i64 0] := by kernel_rfl
theorem zco177 : VC.zco Try.prog 177 = some [.slice none 0 0] := by kernel_rfl
theorem zco179 : VC.zco Try.prog 179 = some [.bool false, .bool false, .int .i64 0, .int .i64 0] := by kernel_rfl
theorem zco183 : VC.zco Try.prog 183 = some [.nilFunc] := by kernel_rfl
theorem zco185 : VC.zco Try.prog 185 = some [.pointer none] := by kernel_rfl
theorem zco186 : VC.zco Try.prog 186 = some [.slice none 0 0] := by kernel_rfl
theorem zco187 : VC.zco Try.prog 187 = some [.slice none 0 0] := by kernel_rfl
theorem zco188 : VC.zco Try.prog 188 = some [.pointer none] := by kernel_rfl
theorem zco189 : VC.zco Try.prog 189 = some [.pointer none, .pointer none, .pointer none, .pointer none] := by kernel_rfl
theorem zco191 : VC.zco Try.prog 191 = some [.slice none 0 0, .slice none 0 0, .pointer none, .pointer none, .pointer none, .pointer none] := by kernel_rfl
theorem zco193 : VC.zco Try.prog 193 = some [.int .i64 0, .int .i64 0, .int .i64 0, .int .i64 0, .bool false, .int .i64 0] := by kernel_rfl
theorem zco195 : VC.zco Try.prog 195 = some [.pointer none] := by kernel_rfl
theorem zco197 : VC.zco Try.prog 197 = some [.int .i64 0, .int .i64 0, .int .i64 0] := by kernel_rfl
theorem zco199 : VC.zco Try.prog 199 = some [.pointer none, .int .i64 0, .int .i64 0, .int .i64 0, .bool false, .int .u32 0, .int .i64 0] := by kernel_rfl
theorem zco2 : VC.zco Try.prog 2 = some [.int .i64 0] := by kernel_rfl
theorem zco200 : VC.zco Try.prog 200 = some [.pointer none] := by kernel_rfl
theorem zco201 : VC.zco Try.prog 201 = some [.slice none 0 0] := by kernel_rfl
theorem zco202 : VC.zco Try.prog 202 = some [.slice none 0 0] := by kernel_rfl
theorem zco204 : VC.zco Try.prog 204 = some [.slice none 0 0, .slice none 0 0, .slice none 0 0] := by kernel_rfl
theorem zco205 : VC.zco Try.prog 205 = some [.pointer none] := by kernel_rfl
theorem zco208 : VC.zco Try.prog 208 = some [.int .i64 0, .int .i64 0, .int .i64 0, .int .i64 0] := by kernel_rfl
theorem zco210 : VC.zco Try.prog 210 = some [.slice none 0 0] := by kernel_rfl
theorem zco211 : VC.zco Try.prog 211 = some [.map none] := by kernel_rfl
theorem zco213 : VC.zco Try.prog 213 = some [.slice none 0 0, .map none] := by kernel_rfl
theorem zco215 : VC.zco Try.prog 215 = some [.int .i64 0, .int .i64 0] := by kernel_rfl
theorem zco216 : VC.zco Try.prog 216 = some [.int .i64 0, .int .i64 0] := by kernel_rfl
theorem zco219 : VC.zco Try.prog 219 = some [.slice none 0 0, .slice none 0 0, .bool false] := by kernel_rfl
theorem zco22 : VC.zco Try.prog 22 = some [.slice none 0 0] := by kernel_rfl
theorem zco220 : VC.zco Try.prog 220 = some [.slice none 0 0] := by kernel_rfl
theorem zco222 : VC.zco Try.prog 222 = some [.pointer none] := by kernel_rfl
theorem zco224 : VC.zco Try.prog 224 = some [.slice none 0 0, .int .i64 0, .int .i64 0] := by kernel_rfl
theorem zco226 : VC.zco Try.prog 226 = some [.int .u64 0] := by kernel_rfl
theorem zco23 : VC.zco Try.prog 23 = some [.slice none 0 0] := by kernel_rfl
theorem zco231 : VC.zco Try.prog 231 = some [.slice none 0 0, .slice none 0 0] := by kernel_rfl
theorem zco232 : VC.zco Try.prog 232 = some [.pointer none] := by kernel_rfl
theorem zco235 : VC.zco Try.prog 235 = some [.int .i64 0, .int .i64 0, .int .i64 0, .int .i64 0, .bool false, .map none] := by kernel_rfl
theorem zco237 : VC.zco Try.prog 237 = some [.pointer none] := by kernel_rfl
theorem zco24 : VC.zco Try.prog 24 = some [.int .i64 0] := by kernel_rfl
theorem zco242 : VC.zco Try.prog 242 = some [.int .i64 0, .int .i64 0, .int .i64 0, .int .i64 0] := by kernel_rfl
theorem zco251 : VC.zco Try.prog 251 = some [.int .i64 0, .int .i64 0, .int .i64 0] := by kernel_rfl
theorem zco253 : VC.zco Try.prog 253 = some [.int .i64 0, .int .i64 0, .int .i64 0, .int .i64 0, .slice none 0 0, .int .i64 0] := by kernel_rfl
theorem zco254 : VC.zco Try.prog 254 = some [.slice none 0 0] := by kernel_rfl
theorem zco263 : VC.zco Try.prog 263 = some [.int .u64 0] := by kernel_rfl
theorem zco3 : VC.zco Try.prog 3 = some [.int .i64 0] := by kernel_rfl
theorem zco31 : VC.zco Try.prog 31 = some [.slice none 0 0] := by kernel_rfl
theorem zco33 : VC.zco Try.prog 33 = some [.int .i64 0, .int .i64 0, .int .i64 0] := by kernel_rfl
theorem zco34 : VC.zco Try.prog 34 = some [.slice none 0 0] := by kernel_rfl
theorem zco36 : VC.zco Try.prog 36 = some [.slice none 0 0, .int .i64 0, .int .i64 0, .int .i64 0, .slice none 0 0, .slice none 0 0] := by kernel_rfl
theorem zco39 : VC.zco Try.prog 39 = some [.slice none 0 0] := by kernel_rfl
theorem zco4 : VC.zco Try.prog 4 = some [.bool false] := by kernel_rfl
theorem zco46 : VC.zco Try.prog 46 = some [.slice none 0 0] := by kernel_rfl
theorem zco52 : VC.zco Try.prog 52 = some [.slice none 0 0] := by kernel_rfl
theorem zco53 : VC.zco Try.prog 53 = some [.slice none 0 0] := by kernel_rfl
theorem zco54 : VC.zco Try.prog 54 = some [.slice none 0 0] := by kernel_rfl
theorem zco55 : VC.zco Try.prog 55 = some [.slice none 0 0] := by kernel_rfl
theorem zco57 : VC.zco Try.prog 57 = some [.slice none 0 0, .slice none 0 0, .slice none 0 0, .slice none 0 0] := by kernel_rfl
theorem zco66 : VC.zco Try.prog 66 = some [.slice none 0 0] := by kernel_rfl
theorem zco71 : VC.zco Try.prog 71 = some [.slice none 0 0] := by kernel_rfl
theorem zco72 : VC.zco Try.prog 72 = some [.slice none 0 0] := by kernel_rfl
theorem zco74 : VC.zco Try.prog 74 = some [.slice none 0 0, .slice none 0 0, .slice none 0 0, .int .i64 0, .bool false] := by kernel_rfl
theorem zco82 : VC.zco Try.prog 82 = some [.slice none 0 0] := by kernel_rfl
theorem zco84 : VC.zco Try.prog 84 = some [.slice none 0 0, .slice none 0 0] := by kernel_rfl
theorem zco90 : VC.zco Try.prog 90 = some [.slice none 0 0] := by kernel_rfl
theorem zco91 : VC.zco Try.prog 91 = some [.slice none 0 0] := by kernel_rfl
theorem zco93 : VC.zco Try.prog 93 = some [.slice none 0 0, .slice none 0 0, .slice none 0 0, .slice none 0 0, .bool false] := by kernel_rfl
end Go.Proofs.Ytdcjacloejhmlaa.Fa
