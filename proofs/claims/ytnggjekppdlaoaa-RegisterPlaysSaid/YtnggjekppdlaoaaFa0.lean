/- Closed facts on the types of this seat: each is what the loaded program says, by the kernel. -/
import Derived.Test.YtnggjekppdlaoaaRows
import Derived.Test.YtnggjekppdlaoaaVC
import Derived.KernelRfl
namespace Go.Proofs.Ytnggjekppdlaoaa.Fa
open Go
theorem mix : Try.prog.follows .mixedOrders = true := by kernel_rfl
theorem apI106 : VC.apI Try.prog 106 = some (178, 5, 40, [.int .i64 0, .int .i64 0, .int .i64 0, .int .i64 0, .bool false]) := by kernel_rfl
theorem apI117 : VC.apI Try.prog 117 = some (33, 1, 4, [.int .u32 0]) := by kernel_rfl
theorem apI118 : VC.apI Try.prog 118 = some (210, 2, 16, [.int .i64 0, .int .i64 0]) := by kernel_rfl
theorem apI130 : VC.apI Try.prog 130 = some (218, 3, 24, [.int .i64 0, .int .i64 0, .int .i64 0]) := by kernel_rfl
theorem apI135 : VC.apI Try.prog 135 = some (148, 3, 24, [.int .i64 0, .int .i64 0, .int .i64 0]) := by kernel_rfl
theorem apI136 : VC.apI Try.prog 136 = some (137, 1, 8, [.pointer none]) := by kernel_rfl
theorem apI152 : VC.apI Try.prog 152 = some (190, 1, 24, [.slice none 0 0]) := by kernel_rfl
theorem apI153 : VC.apI Try.prog 153 = some (189, 6, 64, [.int .i64 0, .int .i64 0, .int .i64 0, .int .i64 0, .slice none 0 0, .int .i64 0]) := by kernel_rfl
theorem apI157 : VC.apI Try.prog 157 = some (196, 2, 32, [.int .i64 0, .slice none 0 0]) := by kernel_rfl
theorem apI158 : VC.apI Try.prog 158 = some (161, 1, 8, [.pointer none]) := by kernel_rfl
theorem apI190 : VC.apI Try.prog 190 = some (187, 3, 24, [.int .i64 0, .int .i64 0, .int .i64 0]) := by kernel_rfl
theorem apI22 : VC.apI Try.prog 22 = some (3, 1, 8, [.int .i64 0]) := by kernel_rfl
theorem apI23 : VC.apI Try.prog 23 = some (27, 1, 8, [.int .i64 0]) := by kernel_rfl
theorem apI24 : VC.apI Try.prog 24 = some (4, 1, 1, [.bool false]) := by kernel_rfl
theorem apI34 : VC.apI Try.prog 34 = some (97, 6, 48, [.int .i64 0, .int .i64 0, .int .i64 0, .int .i64 0, .int .i64 0, .int .i64 0]) := by kernel_rfl
theorem apI35 : VC.apI Try.prog 35 = some (2, 1, 8, [.int .i64 0]) := by kernel_rfl
theorem apI44 : VC.apI Try.prog 44 = some (124, 5, 40, [.int .i64 0, .int .i64 0, .int .i64 0, .int .i64 0, .int .i64 0]) := by kernel_rfl
theorem apI45 : VC.apI Try.prog 45 = some (116, 2, 16, [.int .i64 0, .int .i64 0]) := by kernel_rfl
theorem apI54 : VC.apI Try.prog 54 = some (142, 6, 48, [.int .i64 0, .int .i64 0, .int .i64 0, .int .i64 0, .bool false, .int .i64 0]) := by kernel_rfl
theorem apI55 : VC.apI Try.prog 55 = some (145, 6, 48, [.int .i64 0, .int .i64 0, .bool false, .int .i64 0, .int .i64 0, .int .i64 0]) := by kernel_rfl
theorem apI64 : VC.apI Try.prog 64 = some (166, 3, 24, [.int .i64 0, .int .i64 0, .int .i64 0]) := by kernel_rfl
theorem apI65 : VC.apI Try.prog 65 = some (22, 1, 24, [.slice none 0 0]) := by kernel_rfl
theorem apI77 : VC.apI Try.prog 77 = some (81, 5, 40, [.int .i64 0, .int .i64 0, .int .i64 0, .int .i64 0, .bool false]) := by kernel_rfl
theorem apI89 : VC.apI Try.prog 89 = some (100, 5, 40, [.int .i64 0, .int .i64 0, .int .i64 0, .int .i64 0, .bool false]) := by kernel_rfl
theorem apI90 : VC.apI Try.prog 90 = some (95, 5, 24, [.map none, .bool false, .bool false, .bool false, .int .i64 0]) := by kernel_rfl
theorem arN138 : VC.arN Try.prog 138 = some 4 := by kernel_rfl
theorem arN213 : VC.arN Try.prog 213 = some 2 := by kernel_rfl
theorem arN75 : VC.arN Try.prog 75 = some 6 := by kernel_rfl
theorem callB10 : VC.callB Try.prog 10 = true := by kernel_rfl
theorem callB100 : VC.callB Try.prog 100 = true := by kernel_rfl
theorem callB101 : VC.callB Try.prog 101 = true := by kernel_rfl
theorem callB102 : VC.callB Try.prog 102 = true := by kernel_rfl
theorem callB103 : VC.callB Try.prog 103 = true := by kernel_rfl
theorem callB104 : VC.callB Try.prog 104 = true := by kernel_rfl
theorem callB105 : VC.callB Try.prog 105 = true := by kernel_rfl
theorem callB106 : VC.callB Try.prog 106 = true := by kernel_rfl
theorem callB107 : VC.callB Try.prog 107 = true := by kernel_rfl
theorem callB108 : VC.callB Try.prog 108 = true := by kernel_rfl
theorem callB11 : VC.callB Try.prog 11 = true := by kernel_rfl
theorem callB12 : VC.callB Try.prog 12 = true := by kernel_rfl
theorem callB13 : VC.callB Try.prog 13 = true := by kernel_rfl
theorem callB14 : VC.callB Try.prog 14 = true := by kernel_rfl
theorem callB15 : VC.callB Try.prog 15 = true := by kernel_rfl
theorem callB16 : VC.callB Try.prog 16 = true := by kernel_rfl
theorem callB17 : VC.callB Try.prog 17 = true := by kernel_rfl
theorem callB18 : VC.callB Try.prog 18 = true := by kernel_rfl
theorem callB19 : VC.callB Try.prog 19 = true := by kernel_rfl
theorem callB20 : VC.callB Try.prog 20 = true := by kernel_rfl
theorem callB21 : VC.callB Try.prog 21 = true := by kernel_rfl
theorem callB22 : VC.callB Try.prog 22 = true := by kernel_rfl
theorem callB23 : VC.callB Try.prog 23 = true := by kernel_rfl
theorem callB24 : VC.callB Try.prog 24 = true := by kernel_rfl
theorem callB25 : VC.callB Try.prog 25 = true := by kernel_rfl
theorem callB26 : VC.callB Try.prog 26 = true := by kernel_rfl
theorem callB33 : VC.callB Try.prog 33 = true := by kernel_rfl
theorem callB34 : VC.callB Try.prog 34 = true := by kernel_rfl
theorem callB35 : VC.callB Try.prog 35 = true := by kernel_rfl
theorem callB36 : VC.callB Try.prog 36 = true := by kernel_rfl
theorem callB37 : VC.callB Try.prog 37 = true := by kernel_rfl
theorem callB39 : VC.callB Try.prog 39 = true := by kernel_rfl
theorem callB40 : VC.callB Try.prog 40 = true := by kernel_rfl
theorem callB41 : VC.callB Try.prog 41 = true := by kernel_rfl
theorem callB42 : VC.callB Try.prog 42 = true := by kernel_rfl
theorem callB43 : VC.callB Try.prog 43 = true := by kernel_rfl
theorem callB44 : VC.callB Try.prog 44 = true := by kernel_rfl
theorem callB45 : VC.callB Try.prog 45 = true := by kernel_rfl
theorem callB46 : VC.callB Try.prog 46 = true := by kernel_rfl
theorem callB47 : VC.callB Try.prog 47 = true := by kernel_rfl
theorem callB48 : VC.callB Try.prog 48 = true := by kernel_rfl
theorem callB49 : VC.callB Try.prog 49 = true := by kernel_rfl
theorem callB50 : VC.callB Try.prog 50 = true := by kernel_rfl
theorem callB51 : VC.callB Try.prog 51 = true := by kernel_rfl
theorem callB52 : VC.callB Try.prog 52 = true := by kernel_rfl
theorem callB53 : VC.callB Try.prog 53 = true := by kernel_rfl
theorem callB54 : VC.callB Try.prog 54 = true := by kernel_rfl
theorem callB55 : VC.callB Try.prog 55 = true := by kernel_rfl
theorem callB56 : VC.callB Try.prog 56 = true := by kernel_rfl
theorem callB57 : VC.callB Try.prog 57 = true := by kernel_rfl
theorem callB58 : VC.callB Try.prog 58 = true := by kernel_rfl
theorem callB59 : VC.callB Try.prog 59 = true := by kernel_rfl
theorem callB60 : VC.callB Try.prog 60 = true := by kernel_rfl
theorem callB61 : VC.callB Try.prog 61 = true := by kernel_rfl
theorem callB62 : VC.callB Try.prog 62 = true := by kernel_rfl
theorem callB63 : VC.callB Try.prog 63 = true := by kernel_rfl
theorem callB64 : VC.callB Try.prog 64 = true := by kernel_rfl
theorem callB65 : VC.callB Try.prog 65 = true := by kernel_rfl
theorem callB66 : VC.callB Try.prog 66 = true := by kernel_rfl
theorem callB67 : VC.callB Try.prog 67 = true := by kernel_rfl
theorem callB68 : VC.callB Try.prog 68 = true := by kernel_rfl
theorem callB69 : VC.callB Try.prog 69 = true := by kernel_rfl
theorem callB70 : VC.callB Try.prog 70 = true := by kernel_rfl
theorem callB71 : VC.callB Try.prog 71 = true := by kernel_rfl
theorem callB72 : VC.callB Try.prog 72 = true := by kernel_rfl
theorem callB73 : VC.callB Try.prog 73 = true := by kernel_rfl
theorem callB74 : VC.callB Try.prog 74 = true := by kernel_rfl
theorem callB75 : VC.callB Try.prog 75 = true := by kernel_rfl
theorem callB76 : VC.callB Try.prog 76 = true := by kernel_rfl
theorem callB77 : VC.callB Try.prog 77 = true := by kernel_rfl
theorem callB78 : VC.callB Try.prog 78 = true := by kernel_rfl
theorem callB79 : VC.callB Try.prog 79 = true := by kernel_rfl
theorem callB8 : VC.callB Try.prog 8 = true := by kernel_rfl
theorem callB80 : VC.callB Try.prog 80 = true := by kernel_rfl
theorem callB81 : VC.callB Try.prog 81 = true := by kernel_rfl
theorem callB82 : VC.callB Try.prog 82 = true := by kernel_rfl
theorem callB83 : VC.callB Try.prog 83 = true := by kernel_rfl
theorem callB84 : VC.callB Try.prog 84 = true := by kernel_rfl
theorem callB85 : VC.callB Try.prog 85 = true := by kernel_rfl
theorem callB86 : VC.callB Try.prog 86 = true := by kernel_rfl
theorem callB87 : VC.callB Try.prog 87 = true := by kernel_rfl
theorem callB88 : VC.callB Try.prog 88 = true := by kernel_rfl
theorem callB89 : VC.callB Try.prog 89 = true := by kernel_rfl
theorem callB9 : VC.callB Try.prog 9 = true := by kernel_rfl
theorem callB90 : VC.callB Try.prog 90 = true := by kernel_rfl
theorem callB91 : VC.callB Try.prog 91 = true := by kernel_rfl
theorem callB92 : VC.callB Try.prog 92 = true := by kernel_rfl
theorem callB93 : VC.callB Try.prog 93 = true := by kernel_rfl
theorem callB94 : VC.callB Try.prog 94 = true := by kernel_rfl
theorem callB95 : VC.callB Try.prog 95 = true := by kernel_rfl
theorem callB96 : VC.callB Try.prog 96 = true := by kernel_rfl
theorem callB97 : VC.callB Try.prog 97 = true := by kernel_rfl
theorem callB98 : VC.callB Try.prog 98 = true := by kernel_rfl
theorem elo106 : VC.elo Try.prog 106 = some (5, 178) := by kernel_rfl
theorem elo117 : VC.elo Try.prog 117 = some (1, 33) := by kernel_rfl
theorem elo118 : VC.elo Try.prog 118 = some (2, 210) := by kernel_rfl
theorem elo130 : VC.elo Try.prog 130 = some (3, 218) := by kernel_rfl
theorem elo135 : VC.elo Try.prog 135 = some (3, 148) := by kernel_rfl
theorem elo136 : VC.elo Try.prog 136 = some (1, 137) := by kernel_rfl
theorem elo138 : VC.elo Try.prog 138 = some (1, 137) := by kernel_rfl
theorem elo152 : VC.elo Try.prog 152 = some (1, 190) := by kernel_rfl
theorem elo153 : VC.elo Try.prog 153 = some (6, 189) := by kernel_rfl
theorem elo157 : VC.elo Try.prog 157 = some (2, 196) := by kernel_rfl
theorem elo158 : VC.elo Try.prog 158 = some (1, 161) := by kernel_rfl
theorem elo190 : VC.elo Try.prog 190 = some (3, 187) := by kernel_rfl
theorem elo213 : VC.elo Try.prog 213 = some (1, 3) := by kernel_rfl
theorem elo22 : VC.elo Try.prog 22 = some (1, 3) := by kernel_rfl
theorem elo23 : VC.elo Try.prog 23 = some (1, 27) := by kernel_rfl
theorem elo24 : VC.elo Try.prog 24 = some (1, 4) := by kernel_rfl
theorem elo34 : VC.elo Try.prog 34 = some (6, 97) := by kernel_rfl
theorem elo35 : VC.elo Try.prog 35 = some (1, 2) := by kernel_rfl
theorem elo44 : VC.elo Try.prog 44 = some (5, 124) := by kernel_rfl
theorem elo45 : VC.elo Try.prog 45 = some (2, 116) := by kernel_rfl
theorem elo54 : VC.elo Try.prog 54 = some (6, 142) := by kernel_rfl
theorem elo55 : VC.elo Try.prog 55 = some (6, 145) := by kernel_rfl
theorem elo64 : VC.elo Try.prog 64 = some (3, 166) := by kernel_rfl
theorem elo65 : VC.elo Try.prog 65 = some (1, 22) := by kernel_rfl
theorem elo75 : VC.elo Try.prog 75 = some (1, 74) := by kernel_rfl
theorem elo77 : VC.elo Try.prog 77 = some (5, 81) := by kernel_rfl
theorem elo89 : VC.elo Try.prog 89 = some (5, 100) := by kernel_rfl
theorem elo90 : VC.elo Try.prog 90 = some (5, 95) := by kernel_rfl
theorem flatK100 : VC.flatK Try.prog 100 = some [.i .i64, .i .i64, .i .i64, .i .i64, .b] := by kernel_rfl
theorem flatK110 : VC.flatK Try.prog 110 = some [.b, .b, .b, .i .i64, .i .i64] := by kernel_rfl
theorem flatK116 : VC.flatK Try.prog 116 = some [.i .i64, .i .i64] := by kernel_rfl
theorem flatK124 : VC.flatK Try.prog 124 = some [.i .i64, .i .i64, .i .i64, .i .i64, .i .i64] := by kernel_rfl
theorem flatK142 : VC.flatK Try.prog 142 = some [.i .i64, .i .i64, .i .i64, .i .i64, .b, .i .i64] := by kernel_rfl
theorem flatK145 : VC.flatK Try.prog 145 = some [.i .i64, .i .i64, .b, .i .i64, .i .i64, .i .i64] := by kernel_rfl
theorem flatK148 : VC.flatK Try.prog 148 = some [.i .i64, .i .i64, .i .i64] := by kernel_rfl
theorem flatK166 : VC.flatK Try.prog 166 = some [.i .i64, .i .i64, .i .i64] := by kernel_rfl
theorem flatK178 : VC.flatK Try.prog 178 = some [.i .i64, .i .i64, .i .i64, .i .i64, .b] := by kernel_rfl
theorem flatK187 : VC.flatK Try.prog 187 = some [.i .i64, .i .i64, .i .i64] := by kernel_rfl
theorem flatK204 : VC.flatK Try.prog 204 = some [.i .i64, .i .i64] := by kernel_rfl
theorem flatK210 : VC.flatK Try.prog 210 = some [.i .i64, .i .i64] := by kernel_rfl
theorem flatK212 : VC.flatK Try.prog 212 = some [.i .i64, .i .i64, .i .i64] := by kernel_rfl
theorem flatK218 : VC.flatK Try.prog 218 = some [.i .i64, .i .i64, .i .i64] := by kernel_rfl
theorem flatK81 : VC.flatK Try.prog 81 = some [.i .i64, .i .i64, .i .i64, .i .i64, .b] := by kernel_rfl
theorem flatK84 : VC.flatK Try.prog 84 = some [.i .i64, .i .i64] := by kernel_rfl
theorem flatK97 : VC.flatK Try.prog 97 = some [.i .i64, .i .i64, .i .i64, .i .i64, .i .i64, .i .i64] := by kernel_rfl
theorem fldo100_0 : VC.fldo Try.prog 100 0 = some (0, 1, 3) := by kernel_rfl
theorem fldo100_1 : VC.fldo Try.prog 100 1 = some (1, 1, 3) := by kernel_rfl
theorem fldo100_2 : VC.fldo Try.prog 100 2 = some (2, 1, 3) := by kernel_rfl
theorem fldo100_3 : VC.fldo Try.prog 100 3 = some (3, 1, 2) := by kernel_rfl
theorem fldo100_4 : VC.fldo Try.prog 100 4 = some (4, 1, 4) := by kernel_rfl
theorem fldo108_0 : VC.fldo Try.prog 108 0 = some (0, 1, 3) := by kernel_rfl
theorem fldo108_1 : VC.fldo Try.prog 108 1 = some (1, 1, 3) := by kernel_rfl
theorem fldo108_2 : VC.fldo Try.prog 108 2 = some (2, 1, 3) := by kernel_rfl
theorem fldo108_3 : VC.fldo Try.prog 108 3 = some (3, 1, 33) := by kernel_rfl
theorem fldo108_4 : VC.fldo Try.prog 108 4 = some (4, 1, 106) := by kernel_rfl
theorem fldo108_5 : VC.fldo Try.prog 108 5 = some (5, 1, 22) := by kernel_rfl
theorem fldo108_6 : VC.fldo Try.prog 108 6 = some (6, 1, 4) := by kernel_rfl
theorem fldo110_0 : VC.fldo Try.prog 110 0 = some (0, 1, 4) := by kernel_rfl
theorem fldo110_1 : VC.fldo Try.prog 110 1 = some (1, 1, 4) := by kernel_rfl
theorem fldo110_2 : VC.fldo Try.prog 110 2 = some (2, 1, 4) := by kernel_rfl
theorem fldo110_3 : VC.fldo Try.prog 110 3 = some (3, 1, 2) := by kernel_rfl
theorem fldo110_4 : VC.fldo Try.prog 110 4 = some (4, 1, 2) := by kernel_rfl
theorem fldo116_0 : VC.fldo Try.prog 116 0 = some (0, 1, 3) := by kernel_rfl
theorem fldo116_1 : VC.fldo Try.prog 116 1 = some (1, 1, 3) := by kernel_rfl
theorem fldo122_0 : VC.fldo Try.prog 122 0 = some (0, 1, 3) := by kernel_rfl
theorem fldo122_1 : VC.fldo Try.prog 122 1 = some (1, 1, 3) := by kernel_rfl
theorem fldo122_2 : VC.fldo Try.prog 122 2 = some (2, 1, 33) := by kernel_rfl
theorem fldo122_3 : VC.fldo Try.prog 122 3 = some (3, 1, 45) := by kernel_rfl
theorem fldo122_4 : VC.fldo Try.prog 122 4 = some (4, 1, 117) := by kernel_rfl
theorem fldo122_5 : VC.fldo Try.prog 122 5 = some (5, 1, 118) := by kernel_rfl
theorem fldo122_6 : VC.fldo Try.prog 122 6 = some (6, 1, 119) := by kernel_rfl
theorem fldo122_7 : VC.fldo Try.prog 122 7 = some (7, 1, 120) := by kernel_rfl
theorem fldo124_0 : VC.fldo Try.prog 124 0 = some (0, 1, 3) := by kernel_rfl
theorem fldo124_1 : VC.fldo Try.prog 124 1 = some (1, 1, 3) := by kernel_rfl
theorem fldo124_2 : VC.fldo Try.prog 124 2 = some (2, 1, 3) := by kernel_rfl
theorem fldo124_3 : VC.fldo Try.prog 124 3 = some (3, 1, 3) := by kernel_rfl
theorem fldo124_4 : VC.fldo Try.prog 124 4 = some (4, 1, 3) := by kernel_rfl
theorem fldo132_0 : VC.fldo Try.prog 132 0 = some (0, 1, 3) := by kernel_rfl
theorem fldo132_1 : VC.fldo Try.prog 132 1 = some (1, 1, 3) := by kernel_rfl
theorem fldo132_2 : VC.fldo Try.prog 132 2 = some (2, 1, 33) := by kernel_rfl
theorem fldo132_3 : VC.fldo Try.prog 132 3 = some (3, 1, 45) := by kernel_rfl
theorem fldo132_4 : VC.fldo Try.prog 132 4 = some (4, 1, 130) := by kernel_rfl
theorem fldo132_5 : VC.fldo Try.prog 132 5 = some (5, 1, 130) := by kernel_rfl
theorem fldo132_6 : VC.fldo Try.prog 132 6 = some (6, 1, 22) := by kernel_rfl
theorem fldo132_7 : VC.fldo Try.prog 132 7 = some (7, 1, 22) := by kernel_rfl
theorem fldo140_0 : VC.fldo Try.prog 140 0 = some (0, 1, 135) := by kernel_rfl
theorem fldo140_1 : VC.fldo Try.prog 140 1 = some (1, 1, 136) := by kernel_rfl
theorem fldo140_2 : VC.fldo Try.prog 140 2 = some (2, 4, 138) := by kernel_rfl
theorem fldo142_0 : VC.fldo Try.prog 142 0 = some (0, 1, 3) := by kernel_rfl
theorem fldo142_1 : VC.fldo Try.prog 142 1 = some (1, 1, 3) := by kernel_rfl
theorem fldo142_2 : VC.fldo Try.prog 142 2 = some (2, 1, 3) := by kernel_rfl
theorem fldo142_3 : VC.fldo Try.prog 142 3 = some (3, 1, 3) := by kernel_rfl
theorem fldo142_4 : VC.fldo Try.prog 142 4 = some (4, 1, 4) := by kernel_rfl
theorem fldo142_5 : VC.fldo Try.prog 142 5 = some (5, 1, 2) := by kernel_rfl
theorem fldo145_0 : VC.fldo Try.prog 145 0 = some (0, 1, 3) := by kernel_rfl
theorem fldo145_2 : VC.fldo Try.prog 145 2 = some (2, 1, 4) := by kernel_rfl
theorem fldo145_3 : VC.fldo Try.prog 145 3 = some (3, 1, 2) := by kernel_rfl
theorem fldo145_5 : VC.fldo Try.prog 145 5 = some (5, 1, 3) := by kernel_rfl
theorem fldo148_0 : VC.fldo Try.prog 148 0 = some (0, 1, 3) := by kernel_rfl
theorem fldo148_1 : VC.fldo Try.prog 148 1 = some (1, 1, 3) := by kernel_rfl
theorem fldo148_2 : VC.fldo Try.prog 148 2 = some (2, 1, 2) := by kernel_rfl
theorem fldo150_0 : VC.fldo Try.prog 150 0 = some (0, 1, 146) := by kernel_rfl
theorem fldo150_1 : VC.fldo Try.prog 150 1 = some (1, 3, 148) := by kernel_rfl
theorem fldo150_2 : VC.fldo Try.prog 150 2 = some (4, 1, 4) := by kernel_rfl
theorem fldo150_3 : VC.fldo Try.prog 150 3 = some (5, 1, 33) := by kernel_rfl
theorem fldo150_4 : VC.fldo Try.prog 150 4 = some (6, 1, 3) := by kernel_rfl
theorem fldo155_0 : VC.fldo Try.prog 155 0 = some (0, 1, 152) := by kernel_rfl
theorem fldo155_1 : VC.fldo Try.prog 155 1 = some (1, 1, 55) := by kernel_rfl
theorem fldo155_2 : VC.fldo Try.prog 155 2 = some (2, 1, 153) := by kernel_rfl
theorem fldo160_0 : VC.fldo Try.prog 160 0 = some (0, 1, 157) := by kernel_rfl
theorem fldo160_1 : VC.fldo Try.prog 160 1 = some (1, 1, 158) := by kernel_rfl
theorem fldo164_0 : VC.fldo Try.prog 164 0 = some (0, 1, 22) := by kernel_rfl
theorem fldo164_1 : VC.fldo Try.prog 164 1 = some (1, 1, 22) := by kernel_rfl
theorem fldo164_2 : VC.fldo Try.prog 164 2 = some (2, 1, 162) := by kernel_rfl
theorem fldo164_3 : VC.fldo Try.prog 164 3 = some (3, 1, 22) := by kernel_rfl
theorem fldo166_0 : VC.fldo Try.prog 166 0 = some (0, 1, 3) := by kernel_rfl
theorem fldo166_1 : VC.fldo Try.prog 166 1 = some (1, 1, 3) := by kernel_rfl
theorem fldo166_2 : VC.fldo Try.prog 166 2 = some (2, 1, 3) := by kernel_rfl
theorem fldo178_0 : VC.fldo Try.prog 178 0 = some (0, 1, 3) := by kernel_rfl
theorem fldo178_1 : VC.fldo Try.prog 178 1 = some (1, 1, 3) := by kernel_rfl
theorem fldo178_2 : VC.fldo Try.prog 178 2 = some (2, 1, 3) := by kernel_rfl
theorem fldo178_3 : VC.fldo Try.prog 178 3 = some (3, 1, 2) := by kernel_rfl
theorem fldo178_4 : VC.fldo Try.prog 178 4 = some (4, 1, 4) := by kernel_rfl
theorem fldo187_0 : VC.fldo Try.prog 187 0 = some (0, 1, 3) := by kernel_rfl
theorem fldo187_1 : VC.fldo Try.prog 187 1 = some (1, 1, 3) := by kernel_rfl
theorem fldo187_2 : VC.fldo Try.prog 187 2 = some (2, 1, 2) := by kernel_rfl
theorem fldo189_0 : VC.fldo Try.prog 189 0 = some (0, 3, 187) := by kernel_rfl
theorem fldo189_1 : VC.fldo Try.prog 189 1 = some (3, 1, 3) := by kernel_rfl
theorem fldo189_2 : VC.fldo Try.prog 189 2 = some (4, 1, 22) := by kernel_rfl
theorem fldo196_0 : VC.fldo Try.prog 196 0 = some (0, 1, 3) := by kernel_rfl
theorem fldo196_1 : VC.fldo Try.prog 196 1 = some (1, 1, 22) := by kernel_rfl
theorem fldo204_1 : VC.fldo Try.prog 204 1 = some (1, 1, 3) := by kernel_rfl
theorem fldo210_0 : VC.fldo Try.prog 210 0 = some (0, 1, 3) := by kernel_rfl
theorem fldo210_1 : VC.fldo Try.prog 210 1 = some (1, 1, 3) := by kernel_rfl
theorem fldo212_0 : VC.fldo Try.prog 212 0 = some (0, 1, 3) := by kernel_rfl
theorem fldo212_1 : VC.fldo Try.prog 212 1 = some (1, 1, 3) := by kernel_rfl
theorem fldo212_2 : VC.fldo Try.prog 212 2 = some (2, 1, 3) := by kernel_rfl
theorem fldo218_0 : VC.fldo Try.prog 218 0 = some (0, 1, 3) := by kernel_rfl
theorem fldo218_1 : VC.fldo Try.prog 218 1 = some (1, 1, 3) := by kernel_rfl
theorem fldo218_2 : VC.fldo Try.prog 218 2 = some (2, 1, 3) := by kernel_rfl
theorem fldo26_0 : VC.fldo Try.prog 26 0 = some (0, 1, 23) := by kernel_rfl
theorem fldo26_1 : VC.fldo Try.prog 26 1 = some (1, 1, 22) := by kernel_rfl
theorem fldo26_2 : VC.fldo Try.prog 26 2 = some (2, 1, 22) := by kernel_rfl
theorem fldo26_3 : VC.fldo Try.prog 26 3 = some (3, 1, 24) := by kernel_rfl
theorem fldo26_4 : VC.fldo Try.prog 26 4 = some (4, 1, 22) := by kernel_rfl
theorem fldo37_0 : VC.fldo Try.prog 37 0 = some (0, 1, 23) := by kernel_rfl
theorem fldo37_1 : VC.fldo Try.prog 37 1 = some (1, 1, 24) := by kernel_rfl
theorem fldo37_2 : VC.fldo Try.prog 37 2 = some (2, 1, 35) := by kernel_rfl
theorem fldo37_3 : VC.fldo Try.prog 37 3 = some (3, 1, 3) := by kernel_rfl
theorem fldo37_4 : VC.fldo Try.prog 37 4 = some (4, 1, 3) := by kernel_rfl
theorem fldo47_0 : VC.fldo Try.prog 47 0 = some (0, 1, 23) := by kernel_rfl
theorem fldo47_1 : VC.fldo Try.prog 47 1 = some (1, 1, 45) := by kernel_rfl
theorem fldo47_2 : VC.fldo Try.prog 47 2 = some (2, 1, 24) := by kernel_rfl
theorem fldo47_3 : VC.fldo Try.prog 47 3 = some (3, 1, 24) := by kernel_rfl
theorem fldo57_0 : VC.fldo Try.prog 57 0 = some (0, 1, 23) := by kernel_rfl
theorem fldo57_1 : VC.fldo Try.prog 57 1 = some (1, 1, 55) := by kernel_rfl
theorem fldo67_0 : VC.fldo Try.prog 67 0 = some (0, 1, 23) := by kernel_rfl
theorem fldo67_1 : VC.fldo Try.prog 67 1 = some (1, 1, 65) := by kernel_rfl
theorem fldo79_0 : VC.fldo Try.prog 79 0 = some (0, 1, 77) := by kernel_rfl
theorem fldo79_1 : VC.fldo Try.prog 79 1 = some (1, 1, 22) := by kernel_rfl
theorem fldo81_0 : VC.fldo Try.prog 81 0 = some (0, 1, 3) := by kernel_rfl
theorem fldo81_1 : VC.fldo Try.prog 81 1 = some (1, 1, 3) := by kernel_rfl
theorem fldo81_2 : VC.fldo Try.prog 81 2 = some (2, 1, 3) := by kernel_rfl
theorem fldo81_3 : VC.fldo Try.prog 81 3 = some (3, 1, 3) := by kernel_rfl
theorem fldo81_4 : VC.fldo Try.prog 81 4 = some (4, 1, 4) := by kernel_rfl
theorem fldo84_0 : VC.fldo Try.prog 84 0 = some (0, 1, 3) := by kernel_rfl
theorem fldo84_1 : VC.fldo Try.prog 84 1 = some (1, 1, 3) := by kernel_rfl
theorem fldo92_0 : VC.fldo Try.prog 92 0 = some (0, 1, 3) := by kernel_rfl
theorem fldo92_1 : VC.fldo Try.prog 92 1 = some (1, 1, 3) := by kernel_rfl
theorem fldo92_2 : VC.fldo Try.prog 92 2 = some (2, 1, 33) := by kernel_rfl
theorem fldo92_3 : VC.fldo Try.prog 92 3 = some (3, 1, 3) := by kernel_rfl
theorem fldo92_4 : VC.fldo Try.prog 92 4 = some (4, 1, 89) := by kernel_rfl
theorem fldo92_5 : VC.fldo Try.prog 92 5 = some (5, 1, 90) := by kernel_rfl
theorem fldo92_6 : VC.fldo Try.prog 92 6 = some (6, 1, 4) := by kernel_rfl
theorem fldo95_0 : VC.fldo Try.prog 95 0 = some (0, 1, 93) := by kernel_rfl
theorem fldo95_1 : VC.fldo Try.prog 95 1 = some (1, 1, 4) := by kernel_rfl
theorem fldo95_2 : VC.fldo Try.prog 95 2 = some (2, 1, 4) := by kernel_rfl
theorem fldo95_3 : VC.fldo Try.prog 95 3 = some (3, 1, 4) := by kernel_rfl
theorem fldo95_4 : VC.fldo Try.prog 95 4 = some (4, 1, 2) := by kernel_rfl
theorem fldo97_0 : VC.fldo Try.prog 97 0 = some (0, 1, 3) := by kernel_rfl
theorem fldo97_1 : VC.fldo Try.prog 97 1 = some (1, 1, 3) := by kernel_rfl
theorem fldo97_2 : VC.fldo Try.prog 97 2 = some (2, 1, 3) := by kernel_rfl
theorem fldo97_3 : VC.fldo Try.prog 97 3 = some (3, 1, 3) := by kernel_rfl
theorem fldo97_4 : VC.fldo Try.prog 97 4 = some (4, 1, 3) := by kernel_rfl
theorem fldo97_5 : VC.fldo Try.prog 97 5 = some (5, 1, 2) := by kernel_rfl
theorem isAggB100 : VC.isAggB Try.prog 100 = true := by kernel_rfl
theorem isAggB101 : VC.isAggB Try.prog 101 = false := by kernel_rfl
theorem isAggB105 : VC.isAggB Try.prog 105 = false := by kernel_rfl
theorem isAggB106 : VC.isAggB Try.prog 106 = false := by kernel_rfl
theorem isAggB108 : VC.isAggB Try.prog 108 = true := by kernel_rfl
theorem isAggB110 : VC.isAggB Try.prog 110 = true := by kernel_rfl
theorem isAggB114 : VC.isAggB Try.prog 114 = false := by kernel_rfl
theorem isAggB116 : VC.isAggB Try.prog 116 = true := by kernel_rfl
theorem isAggB117 : VC.isAggB Try.prog 117 = false := by kernel_rfl
theorem isAggB118 : VC.isAggB Try.prog 118 = false := by kernel_rfl
theorem isAggB119 : VC.isAggB Try.prog 119 = false := by kernel_rfl
theorem isAggB120 : VC.isAggB Try.prog 120 = false := by kernel_rfl
theorem isAggB122 : VC.isAggB Try.prog 122 = true := by kernel_rfl
theorem isAggB124 : VC.isAggB Try.prog 124 = true := by kernel_rfl
theorem isAggB126 : VC.isAggB Try.prog 126 = false := by kernel_rfl
theorem isAggB129 : VC.isAggB Try.prog 129 = false := by kernel_rfl
theorem isAggB130 : VC.isAggB Try.prog 130 = false := by kernel_rfl
theorem isAggB132 : VC.isAggB Try.prog 132 = true := by kernel_rfl
theorem isAggB134 : VC.isAggB Try.prog 134 = false := by kernel_rfl
theorem isAggB135 : VC.isAggB Try.prog 135 = false := by kernel_rfl
theorem isAggB136 : VC.isAggB Try.prog 136 = false := by kernel_rfl
theorem isAggB137 : VC.isAggB Try.prog 137 = false := by kernel_rfl
theorem isAggB138 : VC.isAggB Try.prog 138 = true := by kernel_rfl
theorem isAggB140 : VC.isAggB Try.prog 140 = true := by kernel_rfl
theorem isAggB142 : VC.isAggB Try.prog 142 = true := by kernel_rfl
theorem isAggB145 : VC.isAggB Try.prog 145 = true := by kernel_rfl
theorem isAggB146 : VC.isAggB Try.prog 146 = false := by kernel_rfl
theorem isAggB148 : VC.isAggB Try.prog 148 = true := by kernel_rfl
theorem isAggB150 : VC.isAggB Try.prog 150 = true := by kernel_rfl
theorem isAggB151 : VC.isAggB Try.prog 151 = false := by kernel_rfl
theorem isAggB152 : VC.isAggB Try.prog 152 = false := by kernel_rfl
theorem isAggB153 : VC.isAggB Try.prog 153 = false := by kernel_rfl
theorem isAggB155 : VC.isAggB Try.prog 155 = true := by kernel_rfl
theorem isAggB156 : VC.isAggB Try.prog 156 = false := by kernel_rfl
theorem isAggB157 : VC.isAggB Try.prog 157 = false := by kernel_rfl
theorem isAggB158 : VC.isAggB Try.prog 158 = false := by kernel_rfl
theorem isAggB160 : VC.isAggB Try.prog 160 = true := by kernel_rfl
theorem isAggB161 : VC.isAggB Try.prog 161 = false := by kernel_rfl
theorem isAggB162 : VC.isAggB Try.prog 162 = false := by kernel_rfl
theorem isAggB164 : VC.isAggB Try.prog 164 = true := by kernel_rfl
theorem isAggB166 : VC.isAggB Try.prog 166 = true := by kernel_rfl
theorem isAggB178 : VC.isAggB Try.prog 178 = true := by kernel_rfl
theorem isAggB179 : VC.isAggB Try.prog 179 = false := by kernel_rfl
theorem isAggB187 : VC.isAggB Try.prog 187 = true := by kernel_rfl
theorem isAggB189 : VC.isAggB Try.prog 189 = true := by kernel_rfl
theorem isAggB190 : VC.isAggB Try.prog 190 = false := by kernel_rfl
theorem isAggB196 : VC.isAggB Try.prog 196 = true := by kernel_rfl
theorem isAggB2 : VC.isAggB Try.prog 2 = false := by kernel_rfl
theorem isAggB202 : VC.isAggB Try.prog 202 = false := by kernel_rfl
theorem isAggB204 : VC.isAggB Try.prog 204 = true := by kernel_rfl
theorem isAggB210 : VC.isAggB Try.prog 210 = true := by kernel_rfl
theorem isAggB212 : VC.isAggB Try.prog 212 = true := by kernel_rfl
theorem isAggB213 : VC.isAggB Try.prog 213 = true := by kernel_rfl
theorem isAggB215 : VC.isAggB Try.prog 215 = false := by kernel_rfl
theorem isAggB218 : VC.isAggB Try.prog 218 = true := by kernel_rfl
theorem isAggB22 : VC.isAggB Try.prog 22 = false := by kernel_rfl
theorem isAggB23 : VC.isAggB Try.prog 23 = false := by kernel_rfl
theorem isAggB24 : VC.isAggB Try.prog 24 = false := by kernel_rfl
theorem isAggB26 : VC.isAggB Try.prog 26 = true := by kernel_rfl
theorem isAggB27 : VC.isAggB Try.prog 27 = false := by kernel_rfl
theorem isAggB3 : VC.isAggB Try.prog 3 = false := by kernel_rfl
theorem isAggB33 : VC.isAggB Try.prog 33 = false := by kernel_rfl
theorem isAggB34 : VC.isAggB Try.prog 34 = false := by kernel_rfl
theorem isAggB35 : VC.isAggB Try.prog 35 = false := by kernel_rfl
theorem isAggB37 : VC.isAggB Try.prog 37 = true := by kernel_rfl
theorem isAggB4 : VC.isAggB Try.prog 4 = false := by kernel_rfl
theorem isAggB44 : VC.isAggB Try.prog 44 = false := by kernel_rfl
theorem isAggB45 : VC.isAggB Try.prog 45 = false := by kernel_rfl
theorem isAggB47 : VC.isAggB Try.prog 47 = true := by kernel_rfl
theorem isAggB5 : VC.isAggB Try.prog 5 = false := by kernel_rfl
theorem isAggB54 : VC.isAggB Try.prog 54 = false := by kernel_rfl
theorem isAggB55 : VC.isAggB Try.prog 55 = false := by kernel_rfl
theorem isAggB57 : VC.isAggB Try.prog 57 = true := by kernel_rfl
theorem isAggB64 : VC.isAggB Try.prog 64 = false := by kernel_rfl
theorem isAggB65 : VC.isAggB Try.prog 65 = false := by kernel_rfl
theorem isAggB67 : VC.isAggB Try.prog 67 = true := by kernel_rfl
theorem isAggB74 : VC.isAggB Try.prog 74 = false := by kernel_rfl
theorem isAggB75 : VC.isAggB Try.prog 75 = true := by kernel_rfl
theorem isAggB76 : VC.isAggB Try.prog 76 = false := by kernel_rfl
theorem isAggB77 : VC.isAggB Try.prog 77 = false := by kernel_rfl
theorem isAggB79 : VC.isAggB Try.prog 79 = true := by kernel_rfl
theorem isAggB81 : VC.isAggB Try.prog 81 = true := by kernel_rfl
theorem isAggB84 : VC.isAggB Try.prog 84 = true := by kernel_rfl
theorem isAggB88 : VC.isAggB Try.prog 88 = false := by kernel_rfl
theorem isAggB89 : VC.isAggB Try.prog 89 = false := by kernel_rfl
theorem isAggB9 : VC.isAggB Try.prog 9 = false := by kernel_rfl
theorem isAggB90 : VC.isAggB Try.prog 90 = false := by kernel_rfl
theorem isAggB92 : VC.isAggB Try.prog 92 = true := by kernel_rfl
theorem isAggB93 : VC.isAggB Try.prog 93 = false := by kernel_rfl
theorem isAggB95 : VC.isAggB Try.prog 95 = true := by kernel_rfl
theorem isAggB97 : VC.isAggB Try.prog 97 = true := by kernel_rfl
theorem kOf100 : VC.kOf Try.prog 100 = .o := by kernel_rfl
theorem kOf101 : VC.kOf Try.prog 101 = .o := by kernel_rfl
theorem kOf105 : VC.kOf Try.prog 105 = .p := by kernel_rfl
theorem kOf106 : VC.kOf Try.prog 106 = .s := by kernel_rfl
theorem kOf108 : VC.kOf Try.prog 108 = .o := by kernel_rfl
theorem kOf110 : VC.kOf Try.prog 110 = .o := by kernel_rfl
theorem kOf114 : VC.kOf Try.prog 114 = .p := by kernel_rfl
theorem kOf116 : VC.kOf Try.prog 116 = .o := by kernel_rfl
theorem kOf117 : VC.kOf Try.prog 117 = .s := by kernel_rfl
theorem kOf118 : VC.kOf Try.prog 118 = .s := by kernel_rfl
theorem kOf119 : VC.kOf Try.prog 119 = .m := by kernel_rfl
theorem kOf120 : VC.kOf Try.prog 120 = .m := by kernel_rfl
theorem kOf122 : VC.kOf Try.prog 122 = .o := by kernel_rfl
theorem kOf124 : VC.kOf Try.prog 124 = .o := by kernel_rfl
theorem kOf126 : VC.kOf Try.prog 126 = .o := by kernel_rfl
theorem kOf129 : VC.kOf Try.prog 129 = .p := by kernel_rfl
theorem kOf130 : VC.kOf Try.prog 130 = .s := by kernel_rfl
theorem kOf132 : VC.kOf Try.prog 132 = .o := by kernel_rfl
theorem kOf134 : VC.kOf Try.prog 134 = .p := by kernel_rfl
theorem kOf135 : VC.kOf Try.prog 135 = .s := by kernel_rfl
theorem kOf136 : VC.kOf Try.prog 136 = .s := by kernel_rfl
theorem kOf137 : VC.kOf Try.prog 137 = .p := by kernel_rfl
theorem kOf138 : VC.kOf Try.prog 138 = .o := by kernel_rfl
theorem kOf140 : VC.kOf Try.prog 140 = .o := by kernel_rfl
theorem kOf142 : VC.kOf Try.prog 142 = .o := by kernel_rfl
theorem kOf145 : VC.kOf Try.prog 145 = .o := by kernel_rfl
theorem kOf146 : VC.kOf Try.prog 146 = .p := by kernel_rfl
theorem kOf148 : VC.kOf Try.prog 148 = .o := by kernel_rfl
theorem kOf150 : VC.kOf Try.prog 150 = .o := by kernel_rfl
theorem kOf151 : VC.kOf Try.prog 151 = .p := by kernel_rfl
theorem kOf152 : VC.kOf Try.prog 152 = .s := by kernel_rfl
theorem kOf153 : VC.kOf Try.prog 153 = .s := by kernel_rfl
theorem kOf155 : VC.kOf Try.prog 155 = .o := by kernel_rfl
theorem kOf156 : VC.kOf Try.prog 156 = .p := by kernel_rfl
theorem kOf157 : VC.kOf Try.prog 157 = .s := by kernel_rfl
theorem kOf158 : VC.kOf Try.prog 158 = .s := by kernel_rfl
theorem kOf160 : VC.kOf Try.prog 160 = .o := by kernel_rfl
theorem kOf161 : VC.kOf Try.prog 161 = .p := by kernel_rfl
theorem kOf162 : VC.kOf Try.prog 162 = .m := by kernel_rfl
theorem kOf164 : VC.kOf Try.prog 164 = .o := by kernel_rfl
theorem kOf166 : VC.kOf Try.prog 166 = .o := by kernel_rfl
theorem kOf178 : VC.kOf Try.prog 178 = .o := by kernel_rfl
theorem kOf179 : VC.kOf Try.prog 179 = .i .u64 := by kernel_rfl
theorem kOf187 : VC.kOf Try.prog 187 = .o := by kernel_rfl
theorem kOf189 : VC.kOf Try.prog 189 = .o := by kernel_rfl
theorem kOf190 : VC.kOf Try.prog 190 = .s := by kernel_rfl
theorem kOf196 : VC.kOf Try.prog 196 = .o := by kernel_rfl
theorem kOf2 : VC.kOf Try.prog 2 = .i .i64 := by kernel_rfl
theorem kOf202 : VC.kOf Try.prog 202 = .p := by kernel_rfl
theorem kOf204 : VC.kOf Try.prog 204 = .o := by kernel_rfl
theorem kOf210 : VC.kOf Try.prog 210 = .o := by kernel_rfl
theorem kOf212 : VC.kOf Try.prog 212 = .o := by kernel_rfl
theorem kOf213 : VC.kOf Try.prog 213 = .o := by kernel_rfl
theorem kOf215 : VC.kOf Try.prog 215 = .o := by kernel_rfl
theorem kOf218 : VC.kOf Try.prog 218 = .o := by kernel_rfl
theorem kOf22 : VC.kOf Try.prog 22 = .s := by kernel_rfl
theorem kOf23 : VC.kOf Try.prog 23 = .s := by kernel_rfl
theorem kOf24 : VC.kOf Try.prog 24 = .s := by kernel_rfl
theorem kOf26 : VC.kOf Try.prog 26 = .o := by kernel_rfl
theorem kOf27 : VC.kOf Try.prog 27 = .i .i64 := by kernel_rfl
theorem kOf3 : VC.kOf Try.prog 3 = .i .i64 := by kernel_rfl
theorem kOf33 : VC.kOf Try.prog 33 = .i .u32 := by kernel_rfl
theorem kOf34 : VC.kOf Try.prog 34 = .s := by kernel_rfl
theorem kOf35 : VC.kOf Try.prog 35 = .s := by kernel_rfl
theorem kOf37 : VC.kOf Try.prog 37 = .o := by kernel_rfl
theorem kOf4 : VC.kOf Try.prog 4 = .b := by kernel_rfl
theorem kOf44 : VC.kOf Try.prog 44 = .s := by kernel_rfl
theorem kOf45 : VC.kOf Try.prog 45 = .s := by kernel_rfl
theorem kOf47 : VC.kOf Try.prog 47 = .o := by kernel_rfl
theorem kOf5 : VC.kOf Try.prog 5 = .i .u8 := by kernel_rfl
theorem kOf54 : VC.kOf Try.prog 54 = .s := by kernel_rfl
theorem kOf55 : VC.kOf Try.prog 55 = .s := by kernel_rfl
theorem kOf57 : VC.kOf Try.prog 57 = .o := by kernel_rfl
theorem kOf64 : VC.kOf Try.prog 64 = .s := by kernel_rfl
theorem kOf65 : VC.kOf Try.prog 65 = .s := by kernel_rfl
theorem kOf67 : VC.kOf Try.prog 67 = .o := by kernel_rfl
theorem kOf74 : VC.kOf Try.prog 74 = .o := by kernel_rfl
theorem kOf75 : VC.kOf Try.prog 75 = .o := by kernel_rfl
theorem kOf76 : VC.kOf Try.prog 76 = .p := by kernel_rfl
theorem kOf77 : VC.kOf Try.prog 77 = .s := by kernel_rfl
theorem kOf79 : VC.kOf Try.prog 79 = .o := by kernel_rfl
theorem kOf81 : VC.kOf Try.prog 81 = .o := by kernel_rfl
theorem kOf84 : VC.kOf Try.prog 84 = .o := by kernel_rfl
theorem kOf88 : VC.kOf Try.prog 88 = .p := by kernel_rfl
theorem kOf89 : VC.kOf Try.prog 89 = .s := by kernel_rfl
theorem kOf9 : VC.kOf Try.prog 9 = .o := by kernel_rfl
theorem kOf90 : VC.kOf Try.prog 90 = .s := by kernel_rfl
theorem kOf92 : VC.kOf Try.prog 92 = .o := by kernel_rfl
theorem kOf93 : VC.kOf Try.prog 93 = .m := by kernel_rfl
theorem kOf95 : VC.kOf Try.prog 95 = .o := by kernel_rfl
theorem kOf97 : VC.kOf Try.prog 97 = .o := by kernel_rfl
theorem kinds100 : VC.kinds Try.prog 8 100 = [.i .i64, .i .i64, .i .i64, .i .i64, .b] := by kernel_rfl
theorem kinds101 : VC.kinds Try.prog 8 101 = [.o] := by kernel_rfl
theorem kinds105 : VC.kinds Try.prog 8 105 = [.p] := by kernel_rfl
theorem kinds106 : VC.kinds Try.prog 8 106 = [.s] := by kernel_rfl
theorem kinds108 : VC.kinds Try.prog 8 108 = [.i .i64, .i .i64, .i .i64, .i .u32, .s, .s, .b] := by kernel_rfl
theorem kinds110 : VC.kinds Try.prog 8 110 = [.b, .b, .b, .i .i64, .i .i64] := by kernel_rfl
theorem kinds114 : VC.kinds Try.prog 8 114 = [.p] := by kernel_rfl
theorem kinds116 : VC.kinds Try.prog 8 116 = [.i .i64, .i .i64] := by kernel_rfl
theorem kinds117 : VC.kinds Try.prog 8 117 = [.s] := by kernel_rfl
theorem kinds118 : VC.kinds Try.prog 8 118 = [.s] := by kernel_rfl
theorem kinds119 : VC.kinds Try.prog 8 119 = [.m] := by kernel_rfl
theorem kinds120 : VC.kinds Try.prog 8 120 = [.m] := by kernel_rfl
theorem kinds122 : VC.kinds Try.prog 8 122 = [.i .i64, .i .i64, .i .u32, .s, .s, .s, .m, .m] := by kernel_rfl
theorem kinds124 : VC.kinds Try.prog 8 124 = [.i .i64, .i .i64, .i .i64, .i .i64, .i .i64] := by kernel_rfl
theorem kinds126 : VC.kinds Try.prog 8 126 = [.o] := by kernel_rfl
theorem kinds129 : VC.kinds Try.prog 8 129 = [.p] := by kernel_rfl
theorem kinds130 : VC.kinds Try.prog 8 130 = [.s] := by kernel_rfl
theorem kinds132 : VC.kinds Try.prog 8 132 = [.i .i64, .i .i64, .i .u32, .s, .s, .s, .s, .s] := by kernel_rfl
theorem kinds134 : VC.kinds Try.prog 8 134 = [.p] := by kernel_rfl
theorem kinds135 : VC.kinds Try.prog 8 135 = [.s] := by kernel_rfl
theorem kinds136 : VC.kinds Try.prog 8 136 = [.s] := by kernel_rfl
theorem kinds137 : VC.kinds Try.prog 8 137 = [.p] := by kernel_rfl
theorem kinds138 : VC.kinds Try.prog 8 138 = [.p, .p, .p, .p] := by kernel_rfl
theorem kinds140 : VC.kinds Try.prog 8 140 = [.s, .s, .p, .p, .p, .p] := by kernel_rfl
theorem kinds142 : VC.kinds Try.prog 8 142 = [.i .i64, .i .i64, .i .i64, .i .i64, .b, .i .i64] := by kernel_rfl
theorem kinds145 : VC.kinds Try.prog 8 145 = [.i .i64, .i .i64, .b, .i .i64, .i .i64, .i .i64] := by kernel_rfl
theorem kinds146 : VC.kinds Try.prog 8 146 = [.p] := by kernel_rfl
theorem kinds148 : VC.kinds Try.prog 8 148 = [.i .i64, .i .i64, .i .i64] := by kernel_rfl
theorem kinds150 : VC.kinds Try.prog 8 150 = [.p, .i .i64, .i .i64, .i .i64, .b, .i .u32, .i .i64] := by kernel_rfl
theorem kinds151 : VC.kinds Try.prog 8 151 = [.p] := by kernel_rfl
theorem kinds152 : VC.kinds Try.prog 8 152 = [.s] := by kernel_rfl
theorem kinds153 : VC.kinds Try.prog 8 153 = [.s] := by kernel_rfl
theorem kinds155 : VC.kinds Try.prog 8 155 = [.s, .s, .s] := by kernel_rfl
theorem kinds156 : VC.kinds Try.prog 8 156 = [.p] := by kernel_rfl
theorem kinds157 : VC.kinds Try.prog 8 157 = [.s] := by kernel_rfl
theorem kinds158 : VC.kinds Try.prog 8 158 = [.s] := by kernel_rfl
theorem kinds160 : VC.kinds Try.prog 8 160 = [.s, .s] := by kernel_rfl
theorem kinds161 : VC.kinds Try.prog 8 161 = [.p] := by kernel_rfl
theorem kinds162 : VC.kinds Try.prog 8 162 = [.m] := by kernel_rfl
theorem kinds164 : VC.kinds Try.prog 8 164 = [.s, .s, .m, .s] := by kernel_rfl
theorem kinds166 : VC.kinds Try.prog 8 166 = [.i .i64, .i .i64, .i .i64] := by kernel_rfl
theorem kinds178 : VC.kinds Try.prog 8 178 = [.i .i64, .i .i64, .i .i64, .i .i64, .b] := by kernel_rfl
theorem kinds179 : VC.kinds Try.prog 8 179 = [.i .u64] := by kernel_rfl
theorem kinds187 : VC.kinds Try.prog 8 187 = [.i .i64, .i .i64, .i .i64] := by kernel_rfl
theorem kinds189 : VC.kinds Try.prog 8 189 = [.i .i64, .i .i64, .i .i64, .i .i64, .s, .i .i64] := by kernel_rfl
theorem kinds190 : VC.kinds Try.prog 8 190 = [.s] := by kernel_rfl
theorem kinds196 : VC.kinds Try.prog 8 196 = [.i .i64, .s] := by kernel_rfl
theorem kinds2 : VC.kinds Try.prog 8 2 = [.i .i64] := by kernel_rfl
theorem kinds202 : VC.kinds Try.prog 8 202 = [.p] := by kernel_rfl
theorem kinds204 : VC.kinds Try.prog 8 204 = [.i .i64, .i .i64] := by kernel_rfl
theorem kinds210 : VC.kinds Try.prog 8 210 = [.i .i64, .i .i64] := by kernel_rfl
theorem kinds212 : VC.kinds Try.prog 8 212 = [.i .i64, .i .i64, .i .i64] := by kernel_rfl
theorem kinds213 : VC.kinds Try.prog 8 213 = [.i .i64, .i .i64] := by kernel_rfl
theorem kinds215 : VC.kinds Try.prog 8 215 = [.o] := by kernel_rfl
theorem kinds218 : VC.kinds Try.prog 8 218 = [.i .i64, .i .i64, .i .i64] := by kernel_rfl
theorem kinds22 : VC.kinds Try.prog 8 22 = [.s] := by kernel_rfl
theorem kinds23 : VC.kinds Try.prog 8 23 = [.s] := by kernel_rfl
theorem kinds24 : VC.kinds Try.prog 8 24 = [.s] := by kernel_rfl
theorem kinds26 : VC.kinds Try.prog 8 26 = [.s, .s, .s, .s, .s] := by kernel_rfl
theorem kinds27 : VC.kinds Try.prog 8 27 = [.i .i64] := by kernel_rfl
theorem kinds3 : VC.kinds Try.prog 8 3 = [.i .i64] := by kernel_rfl
theorem kinds33 : VC.kinds Try.prog 8 33 = [.i .u32] := by kernel_rfl
theorem kinds34 : VC.kinds Try.prog 8 34 = [.s] := by kernel_rfl
theorem kinds35 : VC.kinds Try.prog 8 35 = [.s] := by kernel_rfl
theorem kinds37 : VC.kinds Try.prog 8 37 = [.s, .s, .s, .i .i64, .i .i64] := by kernel_rfl
theorem kinds4 : VC.kinds Try.prog 8 4 = [.b] := by kernel_rfl
theorem kinds44 : VC.kinds Try.prog 8 44 = [.s] := by kernel_rfl
theorem kinds45 : VC.kinds Try.prog 8 45 = [.s] := by kernel_rfl
theorem kinds47 : VC.kinds Try.prog 8 47 = [.s, .s, .s, .s] := by kernel_rfl
theorem kinds5 : VC.kinds Try.prog 8 5 = [.i .u8] := by kernel_rfl
theorem kinds54 : VC.kinds Try.prog 8 54 = [.s] := by kernel_rfl
theorem kinds55 : VC.kinds Try.prog 8 55 = [.s] := by kernel_rfl
theorem kinds57 : VC.kinds Try.prog 8 57 = [.s, .s] := by kernel_rfl
theorem kinds64 : VC.kinds Try.prog 8 64 = [.s] := by kernel_rfl
theorem kinds65 : VC.kinds Try.prog 8 65 = [.s] := by kernel_rfl
theorem kinds67 : VC.kinds Try.prog 8 67 = [.s, .s] := by kernel_rfl
theorem kinds74 : VC.kinds Try.prog 8 74 = [.o] := by kernel_rfl
theorem kinds75 : VC.kinds Try.prog 8 75 = [.o, .o, .o, .o, .o, .o] := by kernel_rfl
theorem kinds76 : VC.kinds Try.prog 8 76 = [.p] := by kernel_rfl
theorem kinds77 : VC.kinds Try.prog 8 77 = [.s] := by kernel_rfl
theorem kinds79 : VC.kinds Try.prog 8 79 = [.s, .s] := by kernel_rfl
theorem kinds81 : VC.kinds Try.prog 8 81 = [.i .i64, .i .i64, .i .i64, .i .i64, .b] := by kernel_rfl
theorem kinds84 : VC.kinds Try.prog 8 84 = [.i .i64, .i .i64] := by kernel_rfl
theorem kinds88 : VC.kinds Try.prog 8 88 = [.p] := by kernel_rfl
theorem kinds89 : VC.kinds Try.prog 8 89 = [.s] := by kernel_rfl
theorem kinds9 : VC.kinds Try.prog 8 9 = [.o] := by kernel_rfl
theorem kinds90 : VC.kinds Try.prog 8 90 = [.s] := by kernel_rfl
theorem kinds92 : VC.kinds Try.prog 8 92 = [.i .i64, .i .i64, .i .u32, .i .i64, .s, .s, .b] := by kernel_rfl
theorem kinds93 : VC.kinds Try.prog 8 93 = [.m] := by kernel_rfl
theorem kinds95 : VC.kinds Try.prog 8 95 = [.m, .b, .b, .b, .i .i64] := by kernel_rfl
theorem kinds97 : VC.kinds Try.prog 8 97 = [.i .i64, .i .i64, .i .i64, .i .i64, .i .i64, .i .i64] := by kernel_rfl
theorem knownB100 : VC.knownB Try.prog 100 = true := by kernel_rfl
theorem knownB101 : VC.knownB Try.prog 101 = true := by kernel_rfl
theorem knownB105 : VC.knownB Try.prog 105 = true := by kernel_rfl
theorem knownB106 : VC.knownB Try.prog 106 = true := by kernel_rfl
theorem knownB108 : VC.knownB Try.prog 108 = true := by kernel_rfl
theorem knownB110 : VC.knownB Try.prog 110 = true := by kernel_rfl
theorem knownB114 : VC.knownB Try.prog 114 = true := by kernel_rfl
theorem knownB116 : VC.knownB Try.prog 116 = true := by kernel_rfl
theorem knownB117 : VC.knownB Try.prog 117 = true := by kernel_rfl
theorem knownB118 : VC.knownB Try.prog 118 = true := by kernel_rfl
theorem knownB119 : VC.knownB Try.prog 119 = true := by kernel_rfl
theorem knownB120 : VC.knownB Try.prog 120 = true := by kernel_rfl
theorem knownB122 : VC.knownB Try.prog 122 = true := by kernel_rfl
theorem knownB124 : VC.knownB Try.prog 124 = true := by kernel_rfl
theorem knownB126 : VC.knownB Try.prog 126 = true := by kernel_rfl
theorem knownB129 : VC.knownB Try.prog 129 = true := by kernel_rfl
theorem knownB130 : VC.knownB Try.prog 130 = true := by kernel_rfl
theorem knownB132 : VC.knownB Try.prog 132 = true := by kernel_rfl
theorem knownB134 : VC.knownB Try.prog 134 = true := by kernel_rfl
theorem knownB135 : VC.knownB Try.prog 135 = true := by kernel_rfl
theorem knownB136 : VC.knownB Try.prog 136 = true := by kernel_rfl
theorem knownB137 : VC.knownB Try.prog 137 = true := by kernel_rfl
theorem knownB138 : VC.knownB Try.prog 138 = true := by kernel_rfl
theorem knownB140 : VC.knownB Try.prog 140 = true := by kernel_rfl
theorem knownB142 : VC.knownB Try.prog 142 = true := by kernel_rfl
theorem knownB145 : VC.knownB Try.prog 145 = true := by kernel_rfl
theorem knownB146 : VC.knownB Try.prog 146 = true := by kernel_rfl
theorem knownB148 : VC.knownB Try.prog 148 = true := by kernel_rfl
theorem knownB150 : VC.knownB Try.prog 150 = true := by kernel_rfl
theorem knownB151 : VC.knownB Try.prog 151 = true := by kernel_rfl
theorem knownB152 : VC.knownB Try.prog 152 = true := by kernel_rfl
theorem knownB153 : VC.knownB Try.prog 153 = true := by kernel_rfl
theorem knownB155 : VC.knownB Try.prog 155 = true := by kernel_rfl
theorem knownB156 : VC.knownB Try.prog 156 = true := by kernel_rfl
theorem knownB157 : VC.knownB Try.prog 157 = true := by kernel_rfl
theorem knownB158 : VC.knownB Try.prog 158 = true := by kernel_rfl
theorem knownB160 : VC.knownB Try.prog 160 = true := by kernel_rfl
theorem knownB161 : VC.knownB Try.prog 161 = true := by kernel_rfl
theorem knownB162 : VC.knownB Try.prog 162 = true := by kernel_rfl
theorem knownB164 : VC.knownB Try.prog 164 = true := by kernel_rfl
theorem knownB166 : VC.knownB Try.prog 166 = true := by kernel_rfl
theorem knownB178 : VC.knownB Try.prog 178 = true := by kernel_rfl
theorem knownB179 : VC.knownB Try.prog 179 = true := by kernel_rfl
theorem knownB187 : VC.knownB Try.prog 187 = true := by kernel_rfl
theorem knownB189 : VC.knownB Try.prog 189 = true := by kernel_rfl
theorem knownB190 : VC.knownB Try.prog 190 = true := by kernel_rfl
theorem knownB196 : VC.knownB Try.prog 196 = true := by kernel_rfl
theorem knownB2 : VC.knownB Try.prog 2 = true := by kernel_rfl
theorem knownB202 : VC.knownB Try.prog 202 = true := by kernel_rfl
theorem knownB204 : VC.knownB Try.prog 204 = true := by kernel_rfl
theorem knownB210 : VC.knownB Try.prog 210 = true := by kernel_rfl
theorem knownB212 : VC.knownB Try.prog 212 = true := by kernel_rfl
theorem knownB213 : VC.knownB Try.prog 213 = true := by kernel_rfl
theorem knownB215 : VC.knownB Try.prog 215 = true := by kernel_rfl
theorem knownB218 : VC.knownB Try.prog 218 = true := by kernel_rfl
theorem knownB22 : VC.knownB Try.prog 22 = true := by kernel_rfl
theorem knownB23 : VC.knownB Try.prog 23 = true := by kernel_rfl
theorem knownB24 : VC.knownB Try.prog 24 = true := by kernel_rfl
theorem knownB26 : VC.knownB Try.prog 26 = true := by kernel_rfl
theorem knownB27 : VC.knownB Try.prog 27 = true := by kernel_rfl
theorem knownB3 : VC.knownB Try.prog 3 = true := by kernel_rfl
theorem knownB33 : VC.knownB Try.prog 33 = true := by kernel_rfl
theorem knownB34 : VC.knownB Try.prog 34 = true := by kernel_rfl
theorem knownB35 : VC.knownB Try.prog 35 = true := by kernel_rfl
theorem knownB37 : VC.knownB Try.prog 37 = true := by kernel_rfl
theorem knownB4 : VC.knownB Try.prog 4 = true := by kernel_rfl
theorem knownB44 : VC.knownB Try.prog 44 = true := by kernel_rfl
theorem knownB45 : VC.knownB Try.prog 45 = true := by kernel_rfl
theorem knownB47 : VC.knownB Try.prog 47 = true := by kernel_rfl
theorem knownB5 : VC.knownB Try.prog 5 = true := by kernel_rfl
theorem knownB54 : VC.knownB Try.prog 54 = true := by kernel_rfl
theorem knownB55 : VC.knownB Try.prog 55 = true := by kernel_rfl
theorem knownB57 : VC.knownB Try.prog 57 = true := by kernel_rfl
theorem knownB64 : VC.knownB Try.prog 64 = true := by kernel_rfl
theorem knownB65 : VC.knownB Try.prog 65 = true := by kernel_rfl
theorem knownB67 : VC.knownB Try.prog 67 = true := by kernel_rfl
theorem knownB74 : VC.knownB Try.prog 74 = true := by kernel_rfl
theorem knownB75 : VC.knownB Try.prog 75 = true := by kernel_rfl
theorem knownB76 : VC.knownB Try.prog 76 = true := by kernel_rfl
theorem knownB77 : VC.knownB Try.prog 77 = true := by kernel_rfl
theorem knownB79 : VC.knownB Try.prog 79 = true := by kernel_rfl
theorem knownB81 : VC.knownB Try.prog 81 = true := by kernel_rfl
theorem knownB84 : VC.knownB Try.prog 84 = true := by kernel_rfl
theorem knownB88 : VC.knownB Try.prog 88 = true := by kernel_rfl
theorem knownB89 : VC.knownB Try.prog 89 = true := by kernel_rfl
theorem knownB9 : VC.knownB Try.prog 9 = true := by kernel_rfl
theorem knownB90 : VC.knownB Try.prog 90 = true := by kernel_rfl
theorem knownB92 : VC.knownB Try.prog 92 = true := by kernel_rfl
theorem knownB93 : VC.knownB Try.prog 93 = true := by kernel_rfl
theorem knownB95 : VC.knownB Try.prog 95 = true := by kernel_rfl
theorem knownB97 : VC.knownB Try.prog 97 = true := by kernel_rfl
theorem placeo100 : VC.placeo Try.prog 100 = some [(0, 1), (1, 1), (2, 1), (3, 1), (4, 1)] := by kernel_rfl
theorem placeo108 : VC.placeo Try.prog 108 = some [(0, 1), (1, 1), (2, 1), (3, 1), (4, 1), (5, 1), (6, 1)] := by kernel_rfl
theorem placeo110 : VC.placeo Try.prog 110 = some [(0, 1), (1, 1), (2, 1), (3, 1), (4, 1)] := by kernel_rfl
theorem placeo116 : VC.placeo Try.prog 116 = some [(0, 1), (1, 1)] := by kernel_rfl
theorem placeo122 : VC.placeo Try.prog 122 = some [(0, 1), (1, 1), (2, 1), (3, 1), (4, 1), (5, 1), (6, 1), (7, 1)] := by kernel_rfl
theorem placeo124 : VC.placeo Try.prog 124 = some [(0, 1), (1, 1), (2, 1), (3, 1), (4, 1)] := by kernel_rfl
theorem placeo132 : VC.placeo Try.prog 132 = some [(0, 1), (1, 1), (2, 1), (3, 1), (4, 1), (5, 1), (6, 1), (7, 1)] := by kernel_rfl
theorem placeo138 : VC.placeo Try.prog 138 = some [(0, 1), (1, 1), (2, 1), (3, 1)] := by kernel_rfl
theorem placeo140 : VC.placeo Try.prog 140 = some [(0, 1), (1, 1), (2, 4)] := by kernel_rfl
theorem placeo142 : VC.placeo Try.prog 142 = some [(0, 1), (1, 1), (2, 1), (3, 1), (4, 1), (5, 1)] := by kernel_rfl
theorem placeo145 : VC.placeo Try.prog 145 = some [(0, 1), (1, 1), (2, 1), (3, 1), (4, 1), (5, 1)] := by kernel_rfl
theorem placeo148 : VC.placeo Try.prog 148 = some [(0, 1), (1, 1), (2, 1)] := by kernel_rfl
theorem placeo150 : VC.placeo Try.prog 150 = some [(0, 1), (1, 3), (4, 1), (5, 1), (6, 1)] := by kernel_rfl
theorem placeo155 : VC.placeo Try.prog 155 = some [(0, 1), (1, 1), (2, 1)] := by kernel_rfl
theorem placeo160 : VC.placeo Try.prog 160 = some [(0, 1), (1, 1)] := by kernel_rfl
theorem placeo164 : VC.placeo Try.prog 164 = some [(0, 1), (1, 1), (2, 1), (3, 1)] := by kernel_rfl
theorem placeo166 : VC.placeo Try.prog 166 = some [(0, 1), (1, 1), (2, 1)] := by kernel_rfl
theorem placeo178 : VC.placeo Try.prog 178 = some [(0, 1), (1, 1), (2, 1), (3, 1), (4, 1)] := by kernel_rfl
theorem placeo187 : VC.placeo Try.prog 187 = some [(0, 1), (1, 1), (2, 1)] := by kernel_rfl
theorem placeo189 : VC.placeo Try.prog 189 = some [(0, 3), (3, 1), (4, 1), (5, 1)] := by kernel_rfl
theorem placeo196 : VC.placeo Try.prog 196 = some [(0, 1), (1, 1)] := by kernel_rfl
theorem placeo204 : VC.placeo Try.prog 204 = some [(0, 1), (1, 1)] := by kernel_rfl
theorem placeo210 : VC.placeo Try.prog 210 = some [(0, 1), (1, 1)] := by kernel_rfl
theorem placeo212 : VC.placeo Try.prog 212 = some [(0, 1), (1, 1), (2, 1)] := by kernel_rfl
theorem placeo213 : VC.placeo Try.prog 213 = some [(0, 1), (1, 1)] := by kernel_rfl
theorem placeo218 : VC.placeo Try.prog 218 = some [(0, 1), (1, 1), (2, 1)] := by kernel_rfl
theorem placeo26 : VC.placeo Try.prog 26 = some [(0, 1), (1, 1), (2, 1), (3, 1), (4, 1)] := by kernel_rfl
theorem placeo37 : VC.placeo Try.prog 37 = some [(0, 1), (1, 1), (2, 1), (3, 1), (4, 1)] := by kernel_rfl
theorem placeo47 : VC.placeo Try.prog 47 = some [(0, 1), (1, 1), (2, 1), (3, 1)] := by kernel_rfl
theorem placeo57 : VC.placeo Try.prog 57 = some [(0, 1), (1, 1)] := by kernel_rfl
theorem placeo67 : VC.placeo Try.prog 67 = some [(0, 1), (1, 1)] := by kernel_rfl
theorem placeo75 : VC.placeo Try.prog 75 = some [(0, 1), (1, 1), (2, 1), (3, 1), (4, 1), (5, 1)] := by kernel_rfl
theorem placeo79 : VC.placeo Try.prog 79 = some [(0, 1), (1, 1)] := by kernel_rfl
theorem placeo81 : VC.placeo Try.prog 81 = some [(0, 1), (1, 1), (2, 1), (3, 1), (4, 1)] := by kernel_rfl
theorem placeo84 : VC.placeo Try.prog 84 = some [(0, 1), (1, 1)] := by kernel_rfl
theorem placeo92 : VC.placeo Try.prog 92 = some [(0, 1), (1, 1), (2, 1), (3, 1), (4, 1), (5, 1), (6, 1)] := by kernel_rfl
theorem placeo95 : VC.placeo Try.prog 95 = some [(0, 1), (1, 1), (2, 1), (3, 1), (4, 1)] := by kernel_rfl
theorem placeo97 : VC.placeo Try.prog 97 = some [(0, 1), (1, 1), (2, 1), (3, 1), (4, 1), (5, 1)] := by kernel_rfl
theorem strB9 : VC.strB Try.prog 9 = true := by kernel_rfl
theorem szo100 : VC.szo Try.prog 100 = some 5 := by kernel_rfl
theorem szo101 : VC.szo Try.prog 101 = some 1 := by kernel_rfl
theorem szo105 : VC.szo Try.prog 105 = some 1 := by kernel_rfl
theorem szo106 : VC.szo Try.prog 106 = some 1 := by kernel_rfl
theorem szo108 : VC.szo Try.prog 108 = some 7 := by kernel_rfl
theorem szo110 : VC.szo Try.prog 110 = some 5 := by kernel_rfl
theorem szo114 : VC.szo Try.prog 114 = some 1 := by kernel_rfl
theorem szo116 : VC.szo Try.prog 116 = some 2 := by kernel_rfl
theorem szo117 : VC.szo Try.prog 117 = some 1 := by kernel_rfl
theorem szo118 : VC.szo Try.prog 118 = some 1 := by kernel_rfl
theorem szo119 : VC.szo Try.prog 119 = some 1 := by kernel_rfl
theorem szo120 : VC.szo Try.prog 120 = some 1 := by kernel_rfl
theorem szo122 : VC.szo Try.prog 122 = some 8 := by kernel_rfl
theorem szo124 : VC.szo Try.prog 124 = some 5 := by kernel_rfl
theorem szo126 : VC.szo Try.prog 126 = some 1 := by kernel_rfl
theorem szo129 : VC.szo Try.prog 129 = some 1 := by kernel_rfl
theorem szo130 : VC.szo Try.prog 130 = some 1 := by kernel_rfl
theorem szo132 : VC.szo Try.prog 132 = some 8 := by kernel_rfl
theorem szo134 : VC.szo Try.prog 134 = some 1 := by kernel_rfl
theorem szo135 : VC.szo Try.prog 135 = some 1 := by kernel_rfl
theorem szo136 : VC.szo Try.prog 136 = some 1 := by kernel_rfl
theorem szo137 : VC.szo Try.prog 137 = some 1 := by kernel_rfl
theorem szo138 : VC.szo Try.prog 138 = some 4 := by kernel_rfl
theorem szo140 : VC.szo Try.prog 140 = some 6 := by kernel_rfl
theorem szo142 : VC.szo Try.prog 142 = some 6 := by kernel_rfl
theorem szo145 : VC.szo Try.prog 145 = some 6 := by kernel_rfl
theorem szo146 : VC.szo Try.prog 146 = some 1 := by kernel_rfl
theorem szo148 : VC.szo Try.prog 148 = some 3 := by kernel_rfl
theorem szo150 : VC.szo Try.prog 150 = some 7 := by kernel_rfl
theorem szo151 : VC.szo Try.prog 151 = some 1 := by kernel_rfl
theorem szo152 : VC.szo Try.prog 152 = some 1 := by kernel_rfl
theorem szo153 : VC.szo Try.prog 153 = some 1 := by kernel_rfl
theorem szo155 : VC.szo Try.prog 155 = some 3 := by kernel_rfl
theorem szo156 : VC.szo Try.prog 156 = some 1 := by kernel_rfl
theorem szo157 : VC.szo Try.prog 157 = some 1 := by kernel_rfl
theorem szo158 : VC.szo Try.prog 158 = some 1 := by kernel_rfl
theorem szo160 : VC.szo Try.prog 160 = some 2 := by kernel_rfl
theorem szo161 : VC.szo Try.prog 161 = some 1 := by kernel_rfl
theorem szo162 : VC.szo Try.prog 162 = some 1 := by kernel_rfl
theorem szo164 : VC.szo Try.prog 164 = some 4 := by kernel_rfl
theorem szo166 : VC.szo Try.prog 166 = some 3 := by kernel_rfl
theorem szo178 : VC.szo Try.prog 178 = some 5 := by kernel_rfl
theorem szo179 : VC.szo Try.prog 179 = some 1 := by kernel_rfl
theorem szo187 : VC.szo Try.prog 187 = some 3 := by kernel_rfl
theorem szo189 : VC.szo Try.prog 189 = some 6 := by kernel_rfl
theorem szo190 : VC.szo Try.prog 190 = some 1 := by kernel_rfl
theorem szo196 : VC.szo Try.prog 196 = some 2 := by kernel_rfl
theorem szo2 : VC.szo Try.prog 2 = some 1 := by kernel_rfl
theorem szo202 : VC.szo Try.prog 202 = some 1 := by kernel_rfl
theorem szo204 : VC.szo Try.prog 204 = some 2 := by kernel_rfl
theorem szo210 : VC.szo Try.prog 210 = some 2 := by kernel_rfl
theorem szo212 : VC.szo Try.prog 212 = some 3 := by kernel_rfl
theorem szo213 : VC.szo Try.prog 213 = some 2 := by kernel_rfl
theorem szo215 : VC.szo Try.prog 215 = some 1 := by kernel_rfl
theorem szo218 : VC.szo Try.prog 218 = some 3 := by kernel_rfl
theorem szo22 : VC.szo Try.prog 22 = some 1 := by kernel_rfl
theorem szo23 : VC.szo Try.prog 23 = some 1 := by kernel_rfl
theorem szo24 : VC.szo Try.prog 24 = some 1 := by kernel_rfl
theorem szo26 : VC.szo Try.prog 26 = some 5 := by kernel_rfl
theorem szo27 : VC.szo Try.prog 27 = some 1 := by kernel_rfl
theorem szo3 : VC.szo Try.prog 3 = some 1 := by kernel_rfl
theorem szo33 : VC.szo Try.prog 33 = some 1 := by kernel_rfl
theorem szo34 : VC.szo Try.prog 34 = some 1 := by kernel_rfl
theorem szo35 : VC.szo Try.prog 35 = some 1 := by kernel_rfl
theorem szo37 : VC.szo Try.prog 37 = some 5 := by kernel_rfl
theorem szo4 : VC.szo Try.prog 4 = some 1 := by kernel_rfl
theorem szo44 : VC.szo Try.prog 44 = some 1 := by kernel_rfl
theorem szo45 : VC.szo Try.prog 45 = some 1 := by kernel_rfl
theorem szo47 : VC.szo Try.prog 47 = some 4 := by kernel_rfl
theorem szo5 : VC.szo Try.prog 5 = some 1 := by kernel_rfl
theorem szo54 : VC.szo Try.prog 54 = some 1 := by kernel_rfl
theorem szo55 : VC.szo Try.prog 55 = some 1 := by kernel_rfl
theorem szo57 : VC.szo Try.prog 57 = some 2 := by kernel_rfl
theorem szo64 : VC.szo Try.prog 64 = some 1 := by kernel_rfl
theorem szo65 : VC.szo Try.prog 65 = some 1 := by kernel_rfl
theorem szo67 : VC.szo Try.prog 67 = some 2 := by kernel_rfl
theorem szo74 : VC.szo Try.prog 74 = some 1 := by kernel_rfl
theorem szo75 : VC.szo Try.prog 75 = some 6 := by kernel_rfl
theorem szo76 : VC.szo Try.prog 76 = some 1 := by kernel_rfl
theorem szo77 : VC.szo Try.prog 77 = some 1 := by kernel_rfl
theorem szo79 : VC.szo Try.prog 79 = some 2 := by kernel_rfl
theorem szo81 : VC.szo Try.prog 81 = some 5 := by kernel_rfl
theorem szo84 : VC.szo Try.prog 84 = some 2 := by kernel_rfl
theorem szo88 : VC.szo Try.prog 88 = some 1 := by kernel_rfl
theorem szo89 : VC.szo Try.prog 89 = some 1 := by kernel_rfl
theorem szo9 : VC.szo Try.prog 9 = some 1 := by kernel_rfl
theorem szo90 : VC.szo Try.prog 90 = some 1 := by kernel_rfl
theorem szo92 : VC.szo Try.prog 92 = some 7 := by kernel_rfl
theorem szo93 : VC.szo Try.prog 93 = some 1 := by kernel_rfl
theorem szo95 : VC.szo Try.prog 95 = some 5 := by kernel_rfl
theorem szo97 : VC.szo Try.prog 97 = some 6 := by kernel_rfl
theorem zco100 : VC.zco Try.prog 100 = some [.int .i64 0, .int .i64 0, .int .i64 0, .int .i64 0, .bool false] := by kernel_rfl
theorem zco101 : VC.zco Try.prog 101 = some [.nilFunc] := by kernel_rfl
theorem zco105 : VC.zco Try.prog 105 = some [.pointer none] := by kernel_rfl
theorem zco106 : VC.zco Try.prog 106 = some [.slice none 0 0] := by kernel_rfl
theorem zco108 : VC.zco Try.prog 108 = some [.int .i64 0, .int .i64 0, .int .i64 0, .int .u32 0, .slice none 0 0, .slice none 0 0, .bool false] := by kernel_rfl
theorem zco110 : VC.zco Try.prog 110 = some [.bool false, .bool false, .bool false, .int .i64 0, .int .i64 0] := by kernel_rfl
theorem zco114 : VC.zco Try.prog 114 = some [.pointer none] := by kernel_rfl
theorem zco116 : VC.zco Try.prog 116 = some [.int .i64 0, .int .i64 0] := by kernel_rfl
theorem zco117 : VC.zco Try.prog 117 = some [.slice none 0 0] := by kernel_rfl
theorem zco118 : VC.zco Try.prog 118 = some [.slice none 0 0] := by kernel_rfl
theorem zco119 : VC.zco Try.prog 119 = some [.map none] := by kernel_rfl
theorem zco120 : VC.zco Try.prog 120 = some [.map none] := by kernel_rfl
theorem zco122 : VC.zco Try.prog 122 = some [.int .i64 0, .int .i64 0, .int .u32 0, .slice none 0 0, .slice none 0 0, .slice none 0 0, .map none, .map none] := by kernel_rfl
theorem zco124 : VC.zco Try.prog 124 = some [.int .i64 0, .int .i64 0, .int .i64 0, .int .i64 0, .int .i64 0] := by kernel_rfl
theorem zco126 : VC.zco Try.prog 126 = some [.nilFunc] := by kernel_rfl
theorem zco129 : VC.zco Try.prog 129 = some [.pointer none] := by kernel_rfl
theorem zco130 : VC.zco Try.prog 130 = some [.slice none 0 0] := by kernel_rfl
theorem zco132 : VC.zco Try.prog 132 = some [.int .i64 0, .int .i64 0, .int .u32 0, .slice none 0 0, .slice none 0 0, .slice none 0 0, .slice none 0 0, .slice none 0 0] := by kernel_rfl
theorem zco134 : VC.zco Try.prog 134 = some [.pointer none] := by kernel_rfl
theorem zco135 : VC.zco Try.prog 135 = some [.slice none 0 0] := by kernel_rfl
theorem zco136 : VC.zco Try.prog 136 = some [.slice none 0 0] := by kernel_rfl
theorem zco137 : VC.zco Try.prog 137 = some [.pointer none] := by kernel_rfl
theorem zco138 : VC.zco Try.prog 138 = some [.pointer none, .pointer none, .pointer none, .pointer none] := by kernel_rfl
theorem zco140 : VC.zco Try.prog 140 = some [.slice none 0 0, .slice none 0 0, .pointer none, .pointer none, .pointer none, .pointer none] := by kernel_rfl
theorem zco142 : VC.zco Try.prog 142 = some [.int .i64 0, .int .i64 0, .int .i64 0, .int .i64 0, .bool false, .int .i64 0] := by kernel_rfl
theorem zco145 : VC.zco Try.prog 145 = some [.int .i64 0, .int .i64 0, .bool false, .int .i64 0, .int .i64 0, .int .i64 0] := by kernel_rfl
theorem zco146 : VC.zco Try.prog 146 = some [.pointer none] := by kernel_rfl
theorem zco148 : VC.zco Try.prog 148 = some [.int .i64 0, .int .i64 0, .int .i64 0] := by kernel_rfl
theorem zco150 : VC.zco Try.prog 150 = some [.pointer none, .int .i64 0, .int .i64 0, .int .i64 0, .bool false, .int .u32 0, .int .i64 0] := by kernel_rfl
theorem zco151 : VC.zco Try.prog 151 = some [.pointer none] := by kernel_rfl
theorem zco152 : VC.zco Try.prog 152 = some [.slice none 0 0] := by kernel_rfl
theorem zco153 : VC.zco Try.prog 153 = some [.slice none 0 0] := by kernel_rfl
theorem zco155 : VC.zco Try.prog 155 = some [.slice none 0 0, .slice none 0 0, .slice none 0 0] := by kernel_rfl
theorem zco156 : VC.zco Try.prog 156 = some [.pointer none] := by kernel_rfl
theorem zco157 : VC.zco Try.prog 157 = some [.slice none 0 0] := by kernel_rfl
theorem zco158 : VC.zco Try.prog 158 = some [.slice none 0 0] := by kernel_rfl
theorem zco160 : VC.zco Try.prog 160 = some [.slice none 0 0, .slice none 0 0] := by kernel_rfl
theorem zco161 : VC.zco Try.prog 161 = some [.pointer none] := by kernel_rfl
theorem zco162 : VC.zco Try.prog 162 = some [.map none] := by kernel_rfl
theorem zco164 : VC.zco Try.prog 164 = some [.slice none 0 0, .slice none 0 0, .map none, .slice none 0 0] := by kernel_rfl
theorem zco166 : VC.zco Try.prog 166 = some [.int .i64 0, .int .i64 0, .int .i64 0] := by kernel_rfl
theorem zco178 : VC.zco Try.prog 178 = some [.int .i64 0, .int .i64 0, .int .i64 0, .int .i64 0, .bool false] := by kernel_rfl
theorem zco179 : VC.zco Try.prog 179 = some [.int .u64 0] := by kernel_rfl
theorem zco187 : VC.zco Try.prog 187 = some [.int .i64 0, .int .i64 0, .int .i64 0] := by kernel_rfl
theorem zco189 : VC.zco Try.prog 189 = some [.int .i64 0, .int .i64 0, .int .i64 0, .int .i64 0, .slice none 0 0, .int .i64 0] := by kernel_rfl
theorem zco190 : VC.zco Try.prog 190 = some [.slice none 0 0] := by kernel_rfl
theorem zco196 : VC.zco Try.prog 196 = some [.int .i64 0, .slice none 0 0] := by kernel_rfl
theorem zco2 : VC.zco Try.prog 2 = some [.int .i64 0] := by kernel_rfl
theorem zco202 : VC.zco Try.prog 202 = some [.pointer none] := by kernel_rfl
theorem zco204 : VC.zco Try.prog 204 = some [.int .i64 0, .int .i64 0] := by kernel_rfl
theorem zco210 : VC.zco Try.prog 210 = some [.int .i64 0, .int .i64 0] := by kernel_rfl
theorem zco212 : VC.zco Try.prog 212 = some [.int .i64 0, .int .i64 0, .int .i64 0] := by kernel_rfl
theorem zco213 : VC.zco Try.prog 213 = some [.int .i64 0, .int .i64 0] := by kernel_rfl
theorem zco215 : VC.zco Try.prog 215 = some [.nilFunc] := by kernel_rfl
theorem zco218 : VC.zco Try.prog 218 = some [.int .i64 0, .int .i64 0, .int .i64 0] := by kernel_rfl
theorem zco22 : VC.zco Try.prog 22 = some [.slice none 0 0] := by kernel_rfl
theorem zco23 : VC.zco Try.prog 23 = some [.slice none 0 0] := by kernel_rfl
theorem zco24 : VC.zco Try.prog 24 = some [.slice none 0 0] := by kernel_rfl
theorem zco26 : VC.zco Try.prog 26 = some [.slice none 0 0, .slice none 0 0, .slice none 0 0, .slice none 0 0, .slice none 0 0] := by kernel_rfl
theorem zco27 : VC.zco Try.prog 27 = some [.int .i64 0] := by kernel_rfl
theorem zco3 : VC.zco Try.prog 3 = some [.int .i64 0] := by kernel_rfl
theorem zco33 : VC.zco Try.prog 33 = some [.int .u32 0] := by kernel_rfl
theorem zco34 : VC.zco Try.prog 34 = some [.slice none 0 0] := by kernel_rfl
theorem zco35 : VC.zco Try.prog 35 = some [.slice none 0 0] := by kernel_rfl
theorem zco37 : VC.zco Try.prog 37 = some [.slice none 0 0, .slice none 0 0, .slice none 0 0, .int .i64 0, .int .i64 0] := by kernel_rfl
theorem zco4 : VC.zco Try.prog 4 = some [.bool false] := by kernel_rfl
theorem zco44 : VC.zco Try.prog 44 = some [.slice none 0 0] := by kernel_rfl
theorem zco45 : VC.zco Try.prog 45 = some [.slice none 0 0] := by kernel_rfl
theorem zco47 : VC.zco Try.prog 47 = some [.slice none 0 0, .slice none 0 0, .slice none 0 0, .slice none 0 0] := by kernel_rfl
theorem zco5 : VC.zco Try.prog 5 = some [.int .u8 0] := by kernel_rfl
theorem zco54 : VC.zco Try.prog 54 = some [.slice none 0 0] := by kernel_rfl
theorem zco55 : VC.zco Try.prog 55 = some [.slice none 0 0] := by kernel_rfl
theorem zco57 : VC.zco Try.prog 57 = some [.slice none 0 0, .slice none 0 0] := by kernel_rfl
theorem zco64 : VC.zco Try.prog 64 = some [.slice none 0 0] := by kernel_rfl
theorem zco65 : VC.zco Try.prog 65 = some [.slice none 0 0] := by kernel_rfl
theorem zco67 : VC.zco Try.prog 67 = some [.slice none 0 0, .slice none 0 0] := by kernel_rfl
theorem zco74 : VC.zco Try.prog 74 = some [.nilFunc] := by kernel_rfl
theorem zco75 : VC.zco Try.prog 75 = some [.nilFunc, .nilFunc, .nilFunc, .nilFunc, .nilFunc, .nilFunc] := by kernel_rfl
theorem zco76 : VC.zco Try.prog 76 = some [.pointer none] := by kernel_rfl
theorem zco77 : VC.zco Try.prog 77 = some [.slice none 0 0] := by kernel_rfl
theorem zco79 : VC.zco Try.prog 79 = some [.slice none 0 0, .slice none 0 0] := by kernel_rfl
theorem zco81 : VC.zco Try.prog 81 = some [.int .i64 0, .int .i64 0, .int .i64 0, .int .i64 0, .bool false] := by kernel_rfl
theorem zco84 : VC.zco Try.prog 84 = some [.int .i64 0, .int .i64 0] := by kernel_rfl
theorem zco88 : VC.zco Try.prog 88 = some [.pointer none] := by kernel_rfl
theorem zco89 : VC.zco Try.prog 89 = some [.slice none 0 0] := by kernel_rfl
theorem zco9 : VC.zco Try.prog 9 = some [.string { data := { toList := [] } }] := by kernel_rfl
theorem zco90 : VC.zco Try.prog 90 = some [.slice none 0 0] := by kernel_rfl
theorem zco92 : VC.zco Try.prog 92 = some [.int .i64 0, .int .i64 0, .int .u32 0, .int .i64 0, .slice none 0 0, .slice none 0 0, .bool false] := by kernel_rfl
theorem zco93 : VC.zco Try.prog 93 = some [.map none] := by kernel_rfl
theorem zco95 : VC.zco Try.prog 95 = some [.map none, .bool false, .bool false, .bool false, .int .i64 0] := by kernel_rfl
theorem zco97 : VC.zco Try.prog 97 = some [.int .i64 0, .int .i64 0, .int .i64 0, .int .i64 0, .int .i64 0, .int .i64 0] := by kernel_rfl
end Go.Proofs.Ytnggjekppdlaoaa.Fa
