/- Closed facts on the types of this seat: each is what the loaded program says, by the kernel. -/
import Derived.Test.YtelfmhiaafkimaaDoorRows
import Derived.Test.YtelfmhiaafkimaaDoorVC
import Derived.KernelRfl
namespace Go.Proofs.YtelfmhiaafkimaaDoor.Fa
open Go
theorem mix : Tryd.prog.follows .mixedOrders = true := by kernel_rfl
theorem apI104 : VC.apI Tryd.prog 104 = some (60, 1, 16, [.nilIface]) := by kernel_rfl
theorem apI24 : VC.apI Tryd.prog 24 = some (4, 1, 1, [.bool false]) := by kernel_rfl
theorem apI34 : VC.apI Tryd.prog 34 = some (2, 1, 8, [.int .i64 0]) := by kernel_rfl
theorem apI35 : VC.apI Tryd.prog 35 = some (57, 4, 32, [.int .i64 0, .int .i64 0, .int .i64 0, .int .i64 0]) := by kernel_rfl
theorem apI36 : VC.apI Tryd.prog 36 = some (55, 2, 16, [.int .i64 0, .int .i64 0]) := by kernel_rfl
theorem apI37 : VC.apI Tryd.prog 37 = some (25, 1, 8, [.int .i64 0]) := by kernel_rfl
theorem apI50 : VC.apI Tryd.prog 50 = some (3, 1, 8, [.int .i64 0]) := by kernel_rfl
theorem arN77 : VC.arN Tryd.prog 77 = some 32 := by kernel_rfl
theorem callB10 : VC.callB Tryd.prog 10 = true := by kernel_rfl
theorem callB11 : VC.callB Tryd.prog 11 = true := by kernel_rfl
theorem callB12 : VC.callB Tryd.prog 12 = true := by kernel_rfl
theorem callB13 : VC.callB Tryd.prog 13 = true := by kernel_rfl
theorem callB14 : VC.callB Tryd.prog 14 = true := by kernel_rfl
theorem callB15 : VC.callB Tryd.prog 15 = true := by kernel_rfl
theorem callB16 : VC.callB Tryd.prog 16 = true := by kernel_rfl
theorem callB17 : VC.callB Tryd.prog 17 = true := by kernel_rfl
theorem callB18 : VC.callB Tryd.prog 18 = true := by kernel_rfl
theorem callB19 : VC.callB Tryd.prog 19 = true := by kernel_rfl
theorem callB20 : VC.callB Tryd.prog 20 = true := by kernel_rfl
theorem callB21 : VC.callB Tryd.prog 21 = true := by kernel_rfl
theorem callB22 : VC.callB Tryd.prog 22 = true := by kernel_rfl
theorem callB23 : VC.callB Tryd.prog 23 = true := by kernel_rfl
theorem callB24 : VC.callB Tryd.prog 24 = true := by kernel_rfl
theorem callB25 : VC.callB Tryd.prog 25 = true := by kernel_rfl
theorem callB26 : VC.callB Tryd.prog 26 = true := by kernel_rfl
theorem callB27 : VC.callB Tryd.prog 27 = true := by kernel_rfl
theorem callB28 : VC.callB Tryd.prog 28 = true := by kernel_rfl
theorem callB29 : VC.callB Tryd.prog 29 = true := by kernel_rfl
theorem callB30 : VC.callB Tryd.prog 30 = true := by kernel_rfl
theorem callB31 : VC.callB Tryd.prog 31 = true := by kernel_rfl
theorem callB35 : VC.callB Tryd.prog 35 = true := by kernel_rfl
theorem callB5 : VC.callB Tryd.prog 5 = true := by kernel_rfl
theorem callB6 : VC.callB Tryd.prog 6 = true := by kernel_rfl
theorem callB7 : VC.callB Tryd.prog 7 = true := by kernel_rfl
theorem callB8 : VC.callB Tryd.prog 8 = true := by kernel_rfl
theorem callB9 : VC.callB Tryd.prog 9 = true := by kernel_rfl
theorem elo104 : VC.elo Tryd.prog 104 = some (1, 60) := by kernel_rfl
theorem elo24 : VC.elo Tryd.prog 24 = some (1, 4) := by kernel_rfl
theorem elo34 : VC.elo Tryd.prog 34 = some (1, 2) := by kernel_rfl
theorem elo35 : VC.elo Tryd.prog 35 = some (4, 57) := by kernel_rfl
theorem elo36 : VC.elo Tryd.prog 36 = some (2, 55) := by kernel_rfl
theorem elo37 : VC.elo Tryd.prog 37 = some (1, 25) := by kernel_rfl
theorem elo50 : VC.elo Tryd.prog 50 = some (1, 3) := by kernel_rfl
theorem elo77 : VC.elo Tryd.prog 77 = some (1, 5) := by kernel_rfl
theorem flatK32 : VC.flatK Tryd.prog 32 = some [.i .u32, .i .u64] := by kernel_rfl
theorem flatK47 : VC.flatK Tryd.prog 47 = some [.i .u32, .i .u64] := by kernel_rfl
theorem flatK55 : VC.flatK Tryd.prog 55 = some [.i .i64, .i .i64] := by kernel_rfl
theorem flatK57 : VC.flatK Tryd.prog 57 = some [.i .i64, .i .i64, .i .i64, .i .i64] := by kernel_rfl
theorem flatK71 : VC.flatK Tryd.prog 71 = some [.i .i64] := by kernel_rfl
theorem fldo32_0 : VC.fldo Tryd.prog 32 0 = some (0, 1, 22) := by kernel_rfl
theorem fldo32_1 : VC.fldo Tryd.prog 32 1 = some (1, 1, 23) := by kernel_rfl
theorem fldo47_0 : VC.fldo Tryd.prog 47 0 = some (0, 1, 22) := by kernel_rfl
theorem fldo47_1 : VC.fldo Tryd.prog 47 1 = some (1, 1, 23) := by kernel_rfl
theorem fldo55_0 : VC.fldo Tryd.prog 55 0 = some (0, 1, 2) := by kernel_rfl
theorem fldo55_1 : VC.fldo Tryd.prog 55 1 = some (1, 1, 3) := by kernel_rfl
theorem fldo57_0 : VC.fldo Tryd.prog 57 0 = some (0, 1, 3) := by kernel_rfl
theorem fldo57_1 : VC.fldo Tryd.prog 57 1 = some (1, 1, 3) := by kernel_rfl
theorem fldo57_2 : VC.fldo Tryd.prog 57 2 = some (2, 1, 3) := by kernel_rfl
theorem fldo57_3 : VC.fldo Tryd.prog 57 3 = some (3, 1, 2) := by kernel_rfl
theorem fldo71_0 : VC.fldo Tryd.prog 71 0 = some (0, 1, 25) := by kernel_rfl
theorem isAggB104 : VC.isAggB Tryd.prog 104 = false := by kernel_rfl
theorem isAggB2 : VC.isAggB Tryd.prog 2 = false := by kernel_rfl
theorem isAggB20 : VC.isAggB Tryd.prog 20 = false := by kernel_rfl
theorem isAggB22 : VC.isAggB Tryd.prog 22 = false := by kernel_rfl
theorem isAggB23 : VC.isAggB Tryd.prog 23 = false := by kernel_rfl
theorem isAggB24 : VC.isAggB Tryd.prog 24 = false := by kernel_rfl
theorem isAggB25 : VC.isAggB Tryd.prog 25 = false := by kernel_rfl
theorem isAggB3 : VC.isAggB Tryd.prog 3 = false := by kernel_rfl
theorem isAggB32 : VC.isAggB Tryd.prog 32 = true := by kernel_rfl
theorem isAggB34 : VC.isAggB Tryd.prog 34 = false := by kernel_rfl
theorem isAggB35 : VC.isAggB Tryd.prog 35 = false := by kernel_rfl
theorem isAggB36 : VC.isAggB Tryd.prog 36 = false := by kernel_rfl
theorem isAggB37 : VC.isAggB Tryd.prog 37 = false := by kernel_rfl
theorem isAggB4 : VC.isAggB Tryd.prog 4 = false := by kernel_rfl
theorem isAggB47 : VC.isAggB Tryd.prog 47 = true := by kernel_rfl
theorem isAggB48 : VC.isAggB Tryd.prog 48 = false := by kernel_rfl
theorem isAggB5 : VC.isAggB Tryd.prog 5 = false := by kernel_rfl
theorem isAggB50 : VC.isAggB Tryd.prog 50 = false := by kernel_rfl
theorem isAggB53 : VC.isAggB Tryd.prog 53 = false := by kernel_rfl
theorem isAggB55 : VC.isAggB Tryd.prog 55 = true := by kernel_rfl
theorem isAggB57 : VC.isAggB Tryd.prog 57 = true := by kernel_rfl
theorem isAggB60 : VC.isAggB Tryd.prog 60 = false := by kernel_rfl
theorem isAggB64 : VC.isAggB Tryd.prog 64 = false := by kernel_rfl
theorem isAggB67 : VC.isAggB Tryd.prog 67 = false := by kernel_rfl
theorem isAggB71 : VC.isAggB Tryd.prog 71 = true := by kernel_rfl
theorem isAggB76 : VC.isAggB Tryd.prog 76 = false := by kernel_rfl
theorem isAggB77 : VC.isAggB Tryd.prog 77 = true := by kernel_rfl
theorem isAggB82 : VC.isAggB Tryd.prog 82 = true := by kernel_rfl
theorem isAggB85 : VC.isAggB Tryd.prog 85 = false := by kernel_rfl
theorem isAggB87 : VC.isAggB Tryd.prog 87 = false := by kernel_rfl
theorem isAggB9 : VC.isAggB Tryd.prog 9 = false := by kernel_rfl
theorem kOf104 : VC.kOf Tryd.prog 104 = .s := by kernel_rfl
theorem kOf2 : VC.kOf Tryd.prog 2 = .i .i64 := by kernel_rfl
theorem kOf20 : VC.kOf Tryd.prog 20 = .o := by kernel_rfl
theorem kOf22 : VC.kOf Tryd.prog 22 = .i .u32 := by kernel_rfl
theorem kOf23 : VC.kOf Tryd.prog 23 = .i .u64 := by kernel_rfl
theorem kOf24 : VC.kOf Tryd.prog 24 = .s := by kernel_rfl
theorem kOf25 : VC.kOf Tryd.prog 25 = .i .i64 := by kernel_rfl
theorem kOf3 : VC.kOf Tryd.prog 3 = .i .i64 := by kernel_rfl
theorem kOf32 : VC.kOf Tryd.prog 32 = .o := by kernel_rfl
theorem kOf34 : VC.kOf Tryd.prog 34 = .s := by kernel_rfl
theorem kOf35 : VC.kOf Tryd.prog 35 = .s := by kernel_rfl
theorem kOf36 : VC.kOf Tryd.prog 36 = .s := by kernel_rfl
theorem kOf37 : VC.kOf Tryd.prog 37 = .s := by kernel_rfl
theorem kOf4 : VC.kOf Tryd.prog 4 = .b := by kernel_rfl
theorem kOf47 : VC.kOf Tryd.prog 47 = .o := by kernel_rfl
theorem kOf48 : VC.kOf Tryd.prog 48 = .m := by kernel_rfl
theorem kOf5 : VC.kOf Tryd.prog 5 = .i .u8 := by kernel_rfl
theorem kOf50 : VC.kOf Tryd.prog 50 = .s := by kernel_rfl
theorem kOf53 : VC.kOf Tryd.prog 53 = .o := by kernel_rfl
theorem kOf55 : VC.kOf Tryd.prog 55 = .o := by kernel_rfl
theorem kOf57 : VC.kOf Tryd.prog 57 = .o := by kernel_rfl
theorem kOf60 : VC.kOf Tryd.prog 60 = .o := by kernel_rfl
theorem kOf64 : VC.kOf Tryd.prog 64 = .m := by kernel_rfl
theorem kOf67 : VC.kOf Tryd.prog 67 = .i .u64 := by kernel_rfl
theorem kOf71 : VC.kOf Tryd.prog 71 = .o := by kernel_rfl
theorem kOf76 : VC.kOf Tryd.prog 76 = .p := by kernel_rfl
theorem kOf77 : VC.kOf Tryd.prog 77 = .o := by kernel_rfl
theorem kOf82 : VC.kOf Tryd.prog 82 = .o := by kernel_rfl
theorem kOf85 : VC.kOf Tryd.prog 85 = .o := by kernel_rfl
theorem kOf87 : VC.kOf Tryd.prog 87 = .i .u8 := by kernel_rfl
theorem kOf9 : VC.kOf Tryd.prog 9 = .o := by kernel_rfl
theorem kinds104 : VC.kinds Tryd.prog 8 104 = [.s] := by kernel_rfl
theorem kinds2 : VC.kinds Tryd.prog 8 2 = [.i .i64] := by kernel_rfl
theorem kinds20 : VC.kinds Tryd.prog 8 20 = [.o] := by kernel_rfl
theorem kinds22 : VC.kinds Tryd.prog 8 22 = [.i .u32] := by kernel_rfl
theorem kinds23 : VC.kinds Tryd.prog 8 23 = [.i .u64] := by kernel_rfl
theorem kinds24 : VC.kinds Tryd.prog 8 24 = [.s] := by kernel_rfl
theorem kinds25 : VC.kinds Tryd.prog 8 25 = [.i .i64] := by kernel_rfl
theorem kinds3 : VC.kinds Tryd.prog 8 3 = [.i .i64] := by kernel_rfl
theorem kinds32 : VC.kinds Tryd.prog 8 32 = [.i .u32, .i .u64] := by kernel_rfl
theorem kinds34 : VC.kinds Tryd.prog 8 34 = [.s] := by kernel_rfl
theorem kinds35 : VC.kinds Tryd.prog 8 35 = [.s] := by kernel_rfl
theorem kinds36 : VC.kinds Tryd.prog 8 36 = [.s] := by kernel_rfl
theorem kinds37 : VC.kinds Tryd.prog 8 37 = [.s] := by kernel_rfl
theorem kinds4 : VC.kinds Tryd.prog 8 4 = [.b] := by kernel_rfl
theorem kinds47 : VC.kinds Tryd.prog 8 47 = [.i .u32, .i .u64] := by kernel_rfl
theorem kinds48 : VC.kinds Tryd.prog 8 48 = [.m] := by kernel_rfl
theorem kinds5 : VC.kinds Tryd.prog 8 5 = [.i .u8] := by kernel_rfl
theorem kinds50 : VC.kinds Tryd.prog 8 50 = [.s] := by kernel_rfl
theorem kinds53 : VC.kinds Tryd.prog 8 53 = [.o] := by kernel_rfl
theorem kinds55 : VC.kinds Tryd.prog 8 55 = [.i .i64, .i .i64] := by kernel_rfl
theorem kinds57 : VC.kinds Tryd.prog 8 57 = [.i .i64, .i .i64, .i .i64, .i .i64] := by kernel_rfl
theorem kinds60 : VC.kinds Tryd.prog 8 60 = [.o] := by kernel_rfl
theorem kinds64 : VC.kinds Tryd.prog 8 64 = [.m] := by kernel_rfl
theorem kinds67 : VC.kinds Tryd.prog 8 67 = [.i .u64] := by kernel_rfl
theorem kinds71 : VC.kinds Tryd.prog 8 71 = [.i .i64] := by kernel_rfl
theorem kinds76 : VC.kinds Tryd.prog 8 76 = [.p] := by kernel_rfl
theorem kinds77 : VC.kinds Tryd.prog 8 77 = [.i .u8, .i .u8, .i .u8, .i .u8, .i .u8, .i .u8, .i .u8, .i .u8, .i .u8, .i .u8, .i .u8, .i .u8, .i .u8, .i .u8, .i .u8, .i .u8, .i .u8, .i .u8, .i .u8, .i .u8, .i .u8, .i .u8, .i .u8, .i .u8, .i .u8, .i .u8, .i .u8, .i .u8, .i .u8, .i .u8, .i .u8, .i .u8] := by kernel_rfl
theorem kinds82 : VC.kinds Tryd.prog 8 82 = [.p, .o, .i .u64] := by kernel_rfl
theorem kinds85 : VC.kinds Tryd.prog 8 85 = [.o] := by kernel_rfl
theorem kinds87 : VC.kinds Tryd.prog 8 87 = [.i .u8] := by kernel_rfl
theorem kinds9 : VC.kinds Tryd.prog 8 9 = [.o] := by kernel_rfl
theorem knownB104 : VC.knownB Tryd.prog 104 = true := by kernel_rfl
theorem knownB2 : VC.knownB Tryd.prog 2 = true := by kernel_rfl
theorem knownB20 : VC.knownB Tryd.prog 20 = true := by kernel_rfl
theorem knownB22 : VC.knownB Tryd.prog 22 = true := by kernel_rfl
theorem knownB23 : VC.knownB Tryd.prog 23 = true := by kernel_rfl
theorem knownB24 : VC.knownB Tryd.prog 24 = true := by kernel_rfl
theorem knownB25 : VC.knownB Tryd.prog 25 = true := by kernel_rfl
theorem knownB3 : VC.knownB Tryd.prog 3 = true := by kernel_rfl
theorem knownB32 : VC.knownB Tryd.prog 32 = true := by kernel_rfl
theorem knownB34 : VC.knownB Tryd.prog 34 = true := by kernel_rfl
theorem knownB35 : VC.knownB Tryd.prog 35 = true := by kernel_rfl
theorem knownB36 : VC.knownB Tryd.prog 36 = true := by kernel_rfl
theorem knownB37 : VC.knownB Tryd.prog 37 = true := by kernel_rfl
theorem knownB4 : VC.knownB Tryd.prog 4 = true := by kernel_rfl
theorem knownB47 : VC.knownB Tryd.prog 47 = true := by kernel_rfl
theorem knownB48 : VC.knownB Tryd.prog 48 = true := by kernel_rfl
theorem knownB5 : VC.knownB Tryd.prog 5 = true := by kernel_rfl
theorem knownB50 : VC.knownB Tryd.prog 50 = true := by kernel_rfl
theorem knownB53 : VC.knownB Tryd.prog 53 = true := by kernel_rfl
theorem knownB55 : VC.knownB Tryd.prog 55 = true := by kernel_rfl
theorem knownB57 : VC.knownB Tryd.prog 57 = true := by kernel_rfl
theorem knownB60 : VC.knownB Tryd.prog 60 = true := by kernel_rfl
theorem knownB64 : VC.knownB Tryd.prog 64 = true := by kernel_rfl
theorem knownB67 : VC.knownB Tryd.prog 67 = true := by kernel_rfl
theorem knownB71 : VC.knownB Tryd.prog 71 = true := by kernel_rfl
theorem knownB76 : VC.knownB Tryd.prog 76 = true := by kernel_rfl
theorem knownB77 : VC.knownB Tryd.prog 77 = true := by kernel_rfl
theorem knownB82 : VC.knownB Tryd.prog 82 = true := by kernel_rfl
theorem knownB85 : VC.knownB Tryd.prog 85 = true := by kernel_rfl
theorem knownB87 : VC.knownB Tryd.prog 87 = true := by kernel_rfl
theorem knownB9 : VC.knownB Tryd.prog 9 = true := by kernel_rfl
theorem placeo32 : VC.placeo Tryd.prog 32 = some [(0, 1), (1, 1)] := by kernel_rfl
theorem placeo47 : VC.placeo Tryd.prog 47 = some [(0, 1), (1, 1)] := by kernel_rfl
theorem placeo55 : VC.placeo Tryd.prog 55 = some [(0, 1), (1, 1)] := by kernel_rfl
theorem placeo57 : VC.placeo Tryd.prog 57 = some [(0, 1), (1, 1), (2, 1), (3, 1)] := by kernel_rfl
theorem placeo71 : VC.placeo Tryd.prog 71 = some [(0, 1)] := by kernel_rfl
theorem placeo77 : VC.placeo Tryd.prog 77 = some [(0, 1), (1, 1), (2, 1), (3, 1), (4, 1), (5, 1), (6, 1), (7, 1), (8, 1), (9, 1), (10, 1), (11, 1), (12, 1), (13, 1), (14, 1), (15, 1), (16, 1), (17, 1), (18, 1), (19, 1), (20, 1), (21, 1), (22, 1), (23, 1), (24, 1), (25, 1), (26, 1), (27, 1), (28, 1), (29, 1), (30, 1), (31, 1)] := by kernel_rfl
theorem placeo82 : VC.placeo Tryd.prog 82 = some [(0, 1), (1, 1), (2, 1)] := by kernel_rfl
theorem strB9 : VC.strB Tryd.prog 9 = true := by kernel_rfl
theorem szo104 : VC.szo Tryd.prog 104 = some 1 := by kernel_rfl
theorem szo2 : VC.szo Tryd.prog 2 = some 1 := by kernel_rfl
theorem szo20 : VC.szo Tryd.prog 20 = some 1 := by kernel_rfl
theorem szo22 : VC.szo Tryd.prog 22 = some 1 := by kernel_rfl
theorem szo23 : VC.szo Tryd.prog 23 = some 1 := by kernel_rfl
theorem szo24 : VC.szo Tryd.prog 24 = some 1 := by kernel_rfl
theorem szo25 : VC.szo Tryd.prog 25 = some 1 := by kernel_rfl
theorem szo3 : VC.szo Tryd.prog 3 = some 1 := by kernel_rfl
theorem szo32 : VC.szo Tryd.prog 32 = some 2 := by kernel_rfl
theorem szo34 : VC.szo Tryd.prog 34 = some 1 := by kernel_rfl
theorem szo35 : VC.szo Tryd.prog 35 = some 1 := by kernel_rfl
theorem szo36 : VC.szo Tryd.prog 36 = some 1 := by kernel_rfl
theorem szo37 : VC.szo Tryd.prog 37 = some 1 := by kernel_rfl
theorem szo4 : VC.szo Tryd.prog 4 = some 1 := by kernel_rfl
theorem szo47 : VC.szo Tryd.prog 47 = some 2 := by kernel_rfl
theorem szo48 : VC.szo Tryd.prog 48 = some 1 := by kernel_rfl
theorem szo5 : VC.szo Tryd.prog 5 = some 1 := by kernel_rfl
theorem szo50 : VC.szo Tryd.prog 50 = some 1 := by kernel_rfl
theorem szo53 : VC.szo Tryd.prog 53 = some 1 := by kernel_rfl
theorem szo55 : VC.szo Tryd.prog 55 = some 2 := by kernel_rfl
theorem szo57 : VC.szo Tryd.prog 57 = some 4 := by kernel_rfl
theorem szo60 : VC.szo Tryd.prog 60 = some 1 := by kernel_rfl
theorem szo64 : VC.szo Tryd.prog 64 = some 1 := by kernel_rfl
theorem szo67 : VC.szo Tryd.prog 67 = some 1 := by kernel_rfl
theorem szo71 : VC.szo Tryd.prog 71 = some 1 := by kernel_rfl
theorem szo76 : VC.szo Tryd.prog 76 = some 1 := by kernel_rfl
theorem szo77 : VC.szo Tryd.prog 77 = some 32 := by kernel_rfl
theorem szo82 : VC.szo Tryd.prog 82 = some 3 := by kernel_rfl
theorem szo85 : VC.szo Tryd.prog 85 = some 1 := by kernel_rfl
theorem szo87 : VC.szo Tryd.prog 87 = some 1 := by kernel_rfl
theorem szo9 : VC.szo Tryd.prog 9 = some 1 := by kernel_rfl
theorem zco104 : VC.zco Tryd.prog 104 = some [.slice none 0 0] := by kernel_rfl
theorem zco2 : VC.zco Tryd.prog 2 = some [.int .i64 0] := by kernel_rfl
theorem zco20 : VC.zco Tryd.prog 20 = some [.nilIface] := by kernel_rfl
theorem zco22 : VC.zco Tryd.prog 22 = some [.int .u32 0] := by kernel_rfl
theorem zco23 : VC.zco Tryd.prog 23 = some [.int .u64 0] := by kernel_rfl
theorem zco24 : VC.zco Tryd.prog 24 = some [.slice none 0 0] := by kernel_rfl
theorem zco25 : VC.zco Tryd.prog 25 = some [.int .i64 0] := by kernel_rfl
theorem zco3 : VC.zco Tryd.prog 3 = some [.int .i64 0] := by kernel_rfl
theorem zco32 : VC.zco Tryd.prog 32 = some [.int .u32 0, .int .u64 0] := by kernel_rfl
theorem zco34 : VC.zco Tryd.prog 34 = some [.slice none 0 0] := by kernel_rfl
theorem zco35 : VC.zco Tryd.prog 35 = some [.slice none 0 0] := by kernel_rfl
theorem zco36 : VC.zco Tryd.prog 36 = some [.slice none 0 0] := by kernel_rfl
theorem zco37 : VC.zco Tryd.prog 37 = some [.slice none 0 0] := by kernel_rfl
theorem zco4 : VC.zco Tryd.prog 4 = some [.bool false] := by kernel_rfl
theorem zco47 : VC.zco Tryd.prog 47 = some [.int .u32 0, .int .u64 0] := by kernel_rfl
theorem zco48 : VC.zco Tryd.prog 48 = some [.map none] := by kernel_rfl
theorem zco5 : VC.zco Tryd.prog 5 = some [.int .u8 0] := by kernel_rfl
theorem zco50 : VC.zco Tryd.prog 50 = some [.slice none 0 0] := by kernel_rfl
theorem zco53 : VC.zco Tryd.prog 53 = some [.nilFunc] := by kernel_rfl
theorem zco55 : VC.zco Tryd.prog 55 = some [.int .i64 0, .int .i64 0] := by kernel_rfl
theorem zco57 : VC.zco Tryd.prog 57 = some [.int .i64 0, .int .i64 0, .int .i64 0, .int .i64 0] := by kernel_rfl
theorem zco60 : VC.zco Tryd.prog 60 = some [.nilIface] := by kernel_rfl
theorem zco64 : VC.zco Tryd.prog 64 = some [.map none] := by kernel_rfl
theorem zco67 : VC.zco Tryd.prog 67 = some [.int .u64 0] := by kernel_rfl
theorem zco71 : VC.zco Tryd.prog 71 = some [.int .i64 0] := by kernel_rfl
theorem zco76 : VC.zco Tryd.prog 76 = some [.pointer none] := by kernel_rfl
theorem zco77 : VC.zco Tryd.prog 77 = some [.int .u8 0, .int .u8 0, .int .u8 0, .int .u8 0, .int .u8 0, .int .u8 0, .int .u8 0, .int .u8 0, .int .u8 0, .int .u8 0, .int .u8 0, .int .u8 0, .int .u8 0, .int .u8 0, .int .u8 0, .int .u8 0, .int .u8 0, .int .u8 0, .int .u8 0, .int .u8 0, .int .u8 0, .int .u8 0, .int .u8 0, .int .u8 0, .int .u8 0, .int .u8 0, .int .u8 0, .int .u8 0, .int .u8 0, .int .u8 0, .int .u8 0, .int .u8 0] := by kernel_rfl
theorem zco82 : VC.zco Tryd.prog 82 = some [.pointer none, .pointer none, .int .u64 0] := by kernel_rfl
theorem zco85 : VC.zco Tryd.prog 85 = some [.nilIface] := by kernel_rfl
theorem zco87 : VC.zco Tryd.prog 87 = some [.int .u8 0] := by kernel_rfl
theorem zco9 : VC.zco Tryd.prog 9 = some [.string { data := { toList := [] } }] := by kernel_rfl
end Go.Proofs.YtelfmhiaafkimaaDoor.Fa
