/- A part of the proof that plaittop.CoreLanes returns true. -/
import Derived.Test.YtebpijlmeemfaaaGreatDoorProg
import Derived.Test.YtebpijlmeemfaaaGreatDoorB01
import Derived.Test.YtebpijlmeemfaaaGreatDoorB08
set_option linter.all false
set_option linter.unusedSectionVars false
set_option linter.unusedSimpArgs false
set_option linter.unusedVariables false
section
set_option maxRecDepth 100000
namespace Ev
open Go Go.Proofs
noncomputable def i64c (n : Nat) : CV := .int .i64 (.ofNat n)
noncomputable def tyL : List (Nat × TI) := [
 (2, (.mk 1 8 (.int .i64) [(.int .i64 0)])),
 (3, (.mk 1 8 (.int .i64) [(.int .i64 0)])),
 (4, (.mk 1 1 .bool [(.bool false)])),
 (5, (.mk 1 1 (.int .u8) [(.int .u8 0)])),
 (9, (.mk 1 16 .str [(.str [])])),
 (12, (.mk 1 8 (.int .u64) [(.int .u64 0)])),
 (21, (.mk 1 4 (.int .i32) [(.int .i32 0)])),
 (23, (.mk 16 16 (.arr 16 5) [(.int .u8 0), (.int .u8 0), (.int .u8 0), (.int .u8 0), (.int .u8 0), (.int .u8 0), (.int .u8 0), (.int .u8 0), (.int .u8 0), (.int .u8 0), (.int .u8 0), (.int .u8 0), (.int .u8 0), (.int .u8 0), (.int .u8 0), (.int .u8 0)])),
 (25, (.mk 1 8 (.int .u64) [(.int .u64 0)])),
 (26, (.mk 1 8 (.int .u64) [(.int .u64 0)])),
 (28, (.mk 2 16 (.struct [(0, 1, false), (1, 1, false)]) [(.int .u64 0), (.int .u64 0)])),
 (30, (.mk 1 24 (.slice 26) [.snil])),
 (31, (.mk 1 8 (.int .i64) [(.int .i64 0)])),
 (34, (.mk 1 24 (.slice 3) [.snil])),
 (36, (.mk 6 64 (.struct [(0, 1, false), (1, 1, false), (2, 1, false), (3, 1, false), (4, 1, false), (5, 1, false)]) [(.int .i64 0), (.int .i64 0), (.int .i64 0), (.int .u64 0), (.int .u64 0), .snil])),
 (37, (.mk 1 24 (.slice 36) [.snil])),
 (39, (.mk 2 48 (.struct [(0, 1, false), (1, 1, false)]) [.snil, .snil])),
 (40, (.mk 1 24 (.slice 39) [.snil])),
 (42, (.mk 2 16 (.struct [(0, 1, false), (1, 1, false)]) [(.int .i64 0), (.int .i64 0)])),
 (43, (.mk 1 24 (.slice 42) [.snil])),
 (45, (.mk 2 48 (.struct [(0, 1, false), (1, 1, false)]) [.snil, .snil])),
 (46, (.mk 1 24 (.slice 45) [.snil])),
 (47, (.mk 1 24 (.slice 98) [.snil])),
 (48, (.mk 1 24 (.slice 111) [.snil])),
 (49, (.mk 1 24 (.slice 226) [.snil])),
 (50, (.mk 1 24 (.slice 117) [.snil])),
 (51, (.mk 1 24 (.slice 120) [.snil])),
 (53, (.mk 11 248 (.struct [(0, 1, false), (1, 1, false), (2, 1, false), (3, 1, false), (4, 1, false), (5, 1, false), (6, 1, false), (7, 1, false), (8, 1, false), (9, 1, false), (10, 1, false)]) [.snil, .snil, .snil, .snil, .snil, .snil, .snil, (.int .i64 0), .snil, .snil, .snil])),
 (54, (.mk 1 24 (.slice 100) [.snil])),
 (56, (.mk 2 48 (.struct [(0, 1, false), (1, 1, false)]) [.snil, .snil])),
 (59, (.mk 1 8 (.ptr 109) [.nilp])),
 (62, (.mk 1 8 (.ptr 123) [.nilp])),
 (65, (.mk 1 24 (.slice 5) [.snil])),
 (66, (.mk 1 4 (.int .u32) [(.int .u32 0)])),
 (77, (.mk 1 24 (.slice 133) [.snil])),
 (86, (.mk 5 72 (.struct [(0, 1, false), (1, 1, false), (2, 1, false), (3, 1, false), (4, 1, false)]) [(.int .i64 0), (.int .i64 0), (.bool false), .snil, .snil])),
 (89, (.mk 1 24 (.slice 23) [.snil])),
 (98, (.mk 3 40 (.struct [(0, 1, false), (1, 1, false), (2, 1, false)]) [(.str []), (.str []), (.int .i64 0)])),
 (100, (.mk 7 88 (.struct [(0, 1, false), (1, 1, false), (2, 1, false), (3, 1, false), (4, 1, false), (5, 1, false), (6, 1, false)]) [(.int .i64 0), (.int .i64 0), (.int .i64 0), (.int .i64 0), (.int .i64 0), .snil, .snil])),
 (105, (.mk 3 72 (.struct [(0, 1, false), (1, 1, false), (2, 1, false)]) [.snil, .snil, .snil])),
 (107, (.mk 1 24 (.struct [(0, 1, false)]) [.snil])),
 (109, (.mk 16 352 (.struct [(0, 3, true), (3, 1, true), (4, 11, true), (15, 1, false)]) [.snil, .snil, .snil, .snil, .snil, .snil, .snil, .snil, .snil, .snil, .snil, (.int .i64 0), .snil, .snil, .snil, .nilp])),
 (111, (.mk 3 40 (.struct [(0, 1, false), (1, 1, false), (2, 1, false)]) [(.int .i64 0), (.bool false), .snil])),
 (117, (.mk 2 48 (.struct [(0, 1, false), (1, 1, false)]) [.snil, .snil])),
 (120, (.mk 2 48 (.struct [(0, 1, false), (1, 1, false)]) [.snil, .snil])),
 (123, (.mk 2 32 (.struct [(0, 1, false), (1, 1, false)]) [.snil, (.int .i64 0)])),
 (127, (.mk 16 320 (.struct [(0, 2, true), (2, 1, false), (3, 1, false), (4, 11, true), (15, 1, false)]) [.snil, .snil, .nilp, .nilp, .snil, .snil, .snil, .snil, .snil, .snil, .snil, (.int .i64 0), .snil, .snil, .snil, (.bool false)])),
 (133, (.mk 3 24 (.struct [(0, 1, false), (1, 1, false), (2, 1, false)]) [(.int .i64 0), (.int .i64 0), (.int .u64 0)])),
 (135, (.mk 1 24 (.slice 353) [.snil])),
 (137, (.mk 3 56 (.struct [(0, 1, false), (1, 1, false), (2, 1, false)]) [.snil, .snil, (.int .u32 0)])),
 (152, (.mk 1 8 (.ptr 157) [.nilp])),
 (153, (.mk 1 8 (.ptr 168) [.nilp])),
 (157, (.mk 4 32 (.struct [(0, 1, false), (1, 1, false), (2, 1, false), (3, 1, false)]) [.nilp, (.int .i64 0), (.int .u64 0), (.int .u64 0)])),
 (164, (.mk 1 24 (.struct [(0, 1, false)]) [.snil])),
 (166, (.mk 2 16 (.struct [(0, 1, false), (1, 1, false)]) [(.int .i64 0), (.int .i64 0)])),
 (168, (.mk 3 40 (.struct [(0, 1, true), (1, 2, true)]) [.snil, (.int .i64 0), (.int .i64 0)])),
 (170, (.mk 1 8 (.ptr 172) [.nilp])),
 (172, (.mk 2 32 (.struct [(0, 1, false), (1, 1, false)]) [.nilp, .snil])),
 (176, (.mk 3 24 (.struct [(0, 1, false), (1, 1, false), (2, 1, false)]) [.nilp, (.int .i64 0), (.int .u64 0)])),
 (182, (.mk 1 24 (.slice 185) [.snil])),
 (185, (.mk 5 48 (.struct [(0, 1, false), (1, 1, false), (2, 1, false), (3, 1, false), (4, 1, false)]) [(.int .i64 0), (.int .i64 0), (.int .i64 0), (.int .i64 0), (.str [])])),
 (201, (.mk 1 24 (.slice 218) [.snil])),
 (213, (.mk 1 24 (.slice 320) [.snil])),
 (215, (.mk 18 368 (.struct [(0, 1, false), (1, 11, true), (12, 1, false), (13, 1, false), (14, 1, false), (15, 1, false), (16, 1, false), (17, 1, false)]) [.nilp, .snil, .snil, .snil, .snil, .snil, .snil, .snil, (.int .i64 0), .snil, .snil, .snil, .snil, .snil, .snil, .snil, (.int .i64 0), (.int .i64 0)])),
 (218, (.mk 3 24 (.struct [(0, 1, false), (1, 1, false), (2, 1, false)]) [(.bool false), (.int .i64 0), (.int .i64 0)])),
 (226, (.mk 3 32 (.struct [(0, 1, false), (1, 1, false), (2, 1, false)]) [(.str []), (.int .i64 0), (.int .i64 0)])),
 (246, (.mk 6 48 (.arr 6 3) [(.int .i64 0), (.int .i64 0), (.int .i64 0), (.int .i64 0), (.int .i64 0), (.int .i64 0)])),
 (248, (.mk 5 40 (.arr 5 3) [(.int .i64 0), (.int .i64 0), (.int .i64 0), (.int .i64 0), (.int .i64 0)])),
 (251, (.mk 1 8 (.ptr 258) [.nilp])),
 (253, (.mk 1 8 (.ptr 399) [.nilp])),
 (255, (.mk 8 96 (.struct [(0, 2, true), (2, 1, false), (3, 1, false), (4, 1, false), (5, 1, false), (6, 1, false), (7, 1, false)]) [.snil, .snil, .nilp, .nilp, (.int .i64 0), (.int .i64 0), (.int .i64 0), (.int .i64 0)])),
 (256, (.mk 1 8 (.ptr 380) [.nilp])),
 (258, (.mk 14 304 (.struct [(0, 11, true), (11, 1, false), (12, 1, false), (13, 1, false)]) [.snil, .snil, .snil, .snil, .snil, .snil, .snil, (.int .i64 0), .snil, .snil, .snil, .nilp, .snil, .snil])),
 (261, (.mk 2 48 (.struct [(0, 1, false), (1, 1, false)]) [.snil, .snil])),
 (279, (.mk 2 32 (.struct [(0, 1, false), (1, 1, false)]) [.snil, (.bool false)])),
 (308, (.mk 1 24 (.slice 314) [.snil])),
 (310, (.mk 15 328 (.struct [(0, 11, true), (11, 1, false), (12, 1, false), (13, 1, false), (14, 1, false)]) [.snil, .snil, .snil, .snil, .snil, .snil, .snil, (.int .i64 0), .snil, .snil, .snil, .snil, .snil, .snil, (.bool false)])),
 (314, (.mk 6 72 (.struct [(0, 1, false), (1, 1, false), (2, 1, false), (3, 1, false), (4, 1, false), (5, 1, false)]) [(.int .i64 0), (.int .i64 0), .snil, .snil, (.bool false), (.bool false)])),
 (318, (.mk 1 24 (.slice 34) [.snil])),
 (320, (.mk 7 104 (.struct [(0, 1, false), (1, 1, false), (2, 1, false), (3, 1, false), (4, 1, false), (5, 1, false), (6, 1, false)]) [(.int .i64 0), (.int .i64 0), (.int .i64 0), .snil, .snil, .snil, (.int .i64 0)])),
 (346, (.mk 1 24 (.slice 43) [.snil])),
 (348, (.mk 4 32 (.arr 4 3) [(.int .i64 0), (.int .i64 0), (.int .i64 0), (.int .i64 0)])),
 (353, (.mk 2 32 (.struct [(0, 1, false), (1, 1, false)]) [(.int .i64 0), .snil])),
 (358, (.mk 3 24 (.arr 3 3) [(.int .i64 0), (.int .i64 0), (.int .i64 0)])),
 (359, (.mk 72 576 (.arr 24 358) [(.int .i64 0), (.int .i64 0), (.int .i64 0), (.int .i64 0), (.int .i64 0), (.int .i64 0), (.int .i64 0), (.int .i64 0), (.int .i64 0), (.int .i64 0), (.int .i64 0), (.int .i64 0), (.int .i64 0), (.int .i64 0), (.int .i64 0), (.int .i64 0), (.int .i64 0), (.int .i64 0), (.int .i64 0), (.int .i64 0), (.int .i64 0), (.int .i64 0), (.int .i64 0), (.int .i64 0), (.int .i64 0), (.int .i64 0), (.int .i64 0), (.int .i64 0), (.int .i64 0), (.int .i64 0), (.int .i64 0), (.int .i64 0), (.int .i64 0), (.int .i64 0), (.int .i64 0), (.int .i64 0), (.int .i64 0), (.int .i64 0), (.int .i64 0), (.int .i64 0), (.int .i64 0), (.int .i64 0), (.int .i64 0), (.int .i64 0), (.int .i64 0), (.int .i64 0), (.int .i64 0), (.int .i64 0), (.int .i64 0), (.int .i64 0), (.int .i64 0), (.int .i64 0), (.int .i64 0), (.int .i64 0), (.int .i64 0), (.int .i64 0), (.int .i64 0), (.int .i64 0), (.int .i64 0), (.int .i64 0), (.int .i64 0), (.int .i64 0), (.int .i64 0), (.int .i64 0), (.int .i64 0), (.int .i64 0), (.int .i64 0), (.int .i64 0), (.int .i64 0), (.int .i64 0), (.int .i64 0), (.int .i64 0)])),
 (364, (.mk 256 256 (.arr 256 5) [(.int .u8 0), (.int .u8 0), (.int .u8 0), (.int .u8 0), (.int .u8 0), (.int .u8 0), (.int .u8 0), (.int .u8 0), (.int .u8 0), (.int .u8 0), (.int .u8 0), (.int .u8 0), (.int .u8 0), (.int .u8 0), (.int .u8 0), (.int .u8 0), (.int .u8 0), (.int .u8 0), (.int .u8 0), (.int .u8 0), (.int .u8 0), (.int .u8 0), (.int .u8 0), (.int .u8 0), (.int .u8 0), (.int .u8 0), (.int .u8 0), (.int .u8 0), (.int .u8 0), (.int .u8 0), (.int .u8 0), (.int .u8 0), (.int .u8 0), (.int .u8 0), (.int .u8 0), (.int .u8 0), (.int .u8 0), (.int .u8 0), (.int .u8 0), (.int .u8 0), (.int .u8 0), (.int .u8 0), (.int .u8 0), (.int .u8 0), (.int .u8 0), (.int .u8 0), (.int .u8 0), (.int .u8 0), (.int .u8 0), (.int .u8 0), (.int .u8 0), (.int .u8 0), (.int .u8 0), (.int .u8 0), (.int .u8 0), (.int .u8 0), (.int .u8 0), (.int .u8 0), (.int .u8 0), (.int .u8 0), (.int .u8 0), (.int .u8 0), (.int .u8 0), (.int .u8 0), (.int .u8 0), (.int .u8 0), (.int .u8 0), (.int .u8 0), (.int .u8 0), (.int .u8 0), (.int .u8 0), (.int .u8 0), (.int .u8 0), (.int .u8 0), (.int .u8 0), (.int .u8 0), (.int .u8 0), (.int .u8 0), (.int .u8 0), (.int .u8 0), (.int .u8 0), (.int .u8 0), (.int .u8 0), (.int .u8 0), (.int .u8 0), (.int .u8 0), (.int .u8 0), (.int .u8 0), (.int .u8 0), (.int .u8 0), (.int .u8 0), (.int .u8 0), (.int .u8 0), (.int .u8 0), (.int .u8 0), (.int .u8 0), (.int .u8 0), (.int .u8 0), (.int .u8 0), (.int .u8 0), (.int .u8 0), (.int .u8 0), (.int .u8 0), (.int .u8 0), (.int .u8 0), (.int .u8 0), (.int .u8 0), (.int .u8 0), (.int .u8 0), (.int .u8 0), (.int .u8 0), (.int .u8 0), (.int .u8 0), (.int .u8 0), (.int .u8 0), (.int .u8 0), (.int .u8 0), (.int .u8 0), (.int .u8 0), (.int .u8 0), (.int .u8 0), (.int .u8 0), (.int .u8 0), (.int .u8 0), (.int .u8 0), (.int .u8 0), (.int .u8 0), (.int .u8 0), (.int .u8 0), (.int .u8 0), (.int .u8 0), (.int .u8 0), (.int .u8 0), (.int .u8 0), (.int .u8 0), (.int .u8 0), (.int .u8 0), (.int .u8 0), (.int .u8 0), (.int .u8 0), (.int .u8 0), (.int .u8 0), (.int .u8 0), (.int .u8 0), (.int .u8 0), (.int .u8 0), (.int .u8 0), (.int .u8 0), (.int .u8 0), (.int .u8 0), (.int .u8 0), (.int .u8 0), (.int .u8 0), (.int .u8 0), (.int .u8 0), (.int .u8 0), (.int .u8 0), (.int .u8 0), (.int .u8 0), (.int .u8 0), (.int .u8 0), (.int .u8 0), (.int .u8 0), (.int .u8 0), (.int .u8 0), (.int .u8 0), (.int .u8 0), (.int .u8 0), (.int .u8 0), (.int .u8 0), (.int .u8 0), (.int .u8 0), (.int .u8 0), (.int .u8 0), (.int .u8 0), (.int .u8 0), (.int .u8 0), (.int .u8 0), (.int .u8 0), (.int .u8 0), (.int .u8 0), (.int .u8 0), (.int .u8 0), (.int .u8 0), (.int .u8 0), (.int .u8 0), (.int .u8 0), (.int .u8 0), (.int .u8 0), (.int .u8 0), (.int .u8 0), (.int .u8 0), (.int .u8 0), (.int .u8 0), (.int .u8 0), (.int .u8 0), (.int .u8 0), (.int .u8 0), (.int .u8 0), (.int .u8 0), (.int .u8 0), (.int .u8 0), (.int .u8 0), (.int .u8 0), (.int .u8 0), (.int .u8 0), (.int .u8 0), (.int .u8 0), (.int .u8 0), (.int .u8 0), (.int .u8 0), (.int .u8 0), (.int .u8 0), (.int .u8 0), (.int .u8 0), (.int .u8 0), (.int .u8 0), (.int .u8 0), (.int .u8 0), (.int .u8 0), (.int .u8 0), (.int .u8 0), (.int .u8 0), (.int .u8 0), (.int .u8 0), (.int .u8 0), (.int .u8 0), (.int .u8 0), (.int .u8 0), (.int .u8 0), (.int .u8 0), (.int .u8 0), (.int .u8 0), (.int .u8 0), (.int .u8 0), (.int .u8 0), (.int .u8 0), (.int .u8 0), (.int .u8 0), (.int .u8 0), (.int .u8 0), (.int .u8 0), (.int .u8 0), (.int .u8 0), (.int .u8 0), (.int .u8 0), (.int .u8 0), (.int .u8 0), (.int .u8 0), (.int .u8 0), (.int .u8 0), (.int .u8 0), (.int .u8 0), (.int .u8 0), (.int .u8 0), (.int .u8 0)])),
 (366, (.mk 2 2 (.struct [(0, 1, false), (1, 1, false)]) [(.int .u8 0), (.int .u8 0)])),
 (367, (.mk 32 32 (.arr 16 366) [(.int .u8 0), (.int .u8 0), (.int .u8 0), (.int .u8 0), (.int .u8 0), (.int .u8 0), (.int .u8 0), (.int .u8 0), (.int .u8 0), (.int .u8 0), (.int .u8 0), (.int .u8 0), (.int .u8 0), (.int .u8 0), (.int .u8 0), (.int .u8 0), (.int .u8 0), (.int .u8 0), (.int .u8 0), (.int .u8 0), (.int .u8 0), (.int .u8 0), (.int .u8 0), (.int .u8 0), (.int .u8 0), (.int .u8 0), (.int .u8 0), (.int .u8 0), (.int .u8 0), (.int .u8 0), (.int .u8 0), (.int .u8 0)])),
 (380, (.mk 2 32 (.struct [(0, 1, false), (1, 1, false)]) [.snil, (.int .i64 0)])),
 (397, (.mk 1 24 (.slice 2) [.snil])),
 (399, (.mk 4 64 (.struct [(0, 1, false), (1, 1, false), (2, 1, false), (3, 1, false)]) [.snil, (.int .i64 0), .snil, (.int .u32 0)]))]
noncomputable def tyTree : Tr TI := tyL.foldr (fun x t => Tr.set t x.1 x.2) .nil
noncomputable def ty (t : Nat) : Option TI := Tr.get tyTree t
noncomputable def fnL : List (Nat × Func) := [(4, Tryz.f4), (5, Tryz.f5), (7, Tryz.f7), (8, Tryz.f8), (9, Tryz.f9), (10, Tryz.f10), (11, Tryz.f11), (12, Tryz.f12), (14, Tryz.f14), (15, Tryz.f15), (16, Tryz.f16), (17, Tryz.f17), (18, Tryz.f18), (19, Tryz.f19), (20, Tryz.f20), (22, Tryz.f22), (26, Tryz.f26), (27, Tryz.f27), (28, Tryz.f28), (29, Tryz.f29), (30, Tryz.f30), (31, Tryz.f31), (32, Tryz.f32), (33, Tryz.f33), (34, Tryz.f34), (35, Tryz.f35), (36, Tryz.f36), (37, Tryz.f37), (38, Tryz.f38), (39, Tryz.f39), (40, Tryz.f40), (41, Tryz.f41), (42, Tryz.f42), (45, Tryz.f45), (46, Tryz.f46), (47, Tryz.f47), (48, Tryz.f48), (49, Tryz.f49), (50, Tryz.f50), (51, Tryz.f51), (52, Tryz.f52), (53, Tryz.f53), (54, Tryz.f54), (55, Tryz.f55), (56, Tryz.f56), (57, Tryz.f57), (58, Tryz.f58), (59, Tryz.f59), (60, Tryz.f60), (61, Tryz.f61), (62, Tryz.f62), (63, Tryz.f63), (64, Tryz.f64), (65, Tryz.f65), (66, Tryz.f66), (67, Tryz.f67), (68, Tryz.f68), (69, Tryz.f69), (70, Tryz.f70), (71, Tryz.f71), (72, Tryz.f72), (73, Tryz.f73), (74, Tryz.f74), (75, Tryz.f75), (76, Tryz.f76), (77, Tryz.f77), (82, Tryz.f82), (92, Tryz.f92), (93, Tryz.f93), (94, Tryz.f94), (95, Tryz.f95), (96, Tryz.f96), (97, Tryz.f97), (98, Tryz.f98), (99, Tryz.f99), (100, Tryz.f100), (101, Tryz.f101), (102, Tryz.f102), (103, Tryz.f103), (104, Tryz.f104), (105, Tryz.f105), (106, Tryz.f106), (107, Tryz.f107), (108, Tryz.f108), (109, Tryz.f109), (110, Tryz.f110), (111, Tryz.f111), (112, Tryz.f112), (113, Tryz.f113), (114, Tryz.f114), (115, Tryz.f115), (116, Tryz.f116), (117, Tryz.f117), (121, Tryz.f121), (122, Tryz.f122), (123, Tryz.f123), (124, Tryz.f124), (125, Tryz.f125), (126, Tryz.f126), (127, Tryz.f127), (128, Tryz.f128), (129, Tryz.f129), (130, Tryz.f130), (131, Tryz.f131), (132, Tryz.f132), (133, Tryz.f133), (134, Tryz.f134), (135, Tryz.f135), (136, Tryz.f136), (137, Tryz.f137), (138, Tryz.f138), (139, Tryz.f139), (140, Tryz.f140), (141, Tryz.f141), (142, Tryz.f142), (143, Tryz.f143), (144, Tryz.f144), (145, Tryz.f145), (146, Tryz.f146), (147, Tryz.f147), (148, Tryz.f148), (149, Tryz.f149), (159, Tryz.f159), (160, Tryz.f160), (161, Tryz.f161), (162, Tryz.f162), (163, Tryz.f163), (164, Tryz.f164), (165, Tryz.f165), (166, Tryz.f166), (167, Tryz.f167), (168, Tryz.f168), (169, Tryz.f169), (170, Tryz.f170), (171, Tryz.f171), (172, Tryz.f172), (173, Tryz.f173), (174, Tryz.f174), (175, Tryz.f175), (176, Tryz.f176), (177, Tryz.f177), (178, Tryz.f178), (179, Tryz.f179), (180, Tryz.f180), (181, Tryz.f181), (182, Tryz.f182), (183, Tryz.f183), (184, Tryz.f184), (185, Tryz.f185), (186, Tryz.f186), (187, Tryz.f187), (188, Tryz.f188), (189, Tryz.f189), (190, Tryz.f190), (191, Tryz.f191), (192, Tryz.f192), (193, Tryz.f193), (194, Tryz.f194), (195, Tryz.f195), (196, Tryz.f196), (197, Tryz.f197), (198, Tryz.f198), (199, Tryz.f199), (200, Tryz.f200), (201, Tryz.f201), (202, Tryz.f202), (203, Tryz.f203), (204, Tryz.f204), (205, Tryz.f205), (206, Tryz.f206), (207, Tryz.f207), (208, Tryz.f208), (209, Tryz.f209), (210, Tryz.f210), (211, Tryz.f211), (212, Tryz.f212), (221, Tryz.f221), (222, Tryz.f222), (223, Tryz.f223), (224, Tryz.f224), (225, Tryz.f225), (226, Tryz.f226), (227, Tryz.f227), (228, Tryz.f228), (229, Tryz.f229), (230, Tryz.f230), (231, Tryz.f231), (232, Tryz.f232), (233, Tryz.f233), (234, Tryz.f234), (235, Tryz.f235), (236, Tryz.f236), (237, Tryz.f237), (238, Tryz.f238), (239, Tryz.f239), (240, Tryz.f240), (241, Tryz.f241), (242, Tryz.f242), (243, Tryz.f243), (244, Tryz.f244), (245, Tryz.f245), (246, Tryz.f246), (247, Tryz.f247), (248, Tryz.f248), (249, Tryz.f249), (250, Tryz.f250), (251, Tryz.f251), (252, Tryz.f252), (253, Tryz.f253), (254, Tryz.f254), (263, Tryz.f263), (266, Tryz.f266), (267, Tryz.f267), (268, Tryz.f268), (269, Tryz.f269), (270, Tryz.f270), (271, Tryz.f271), (272, Tryz.f272), (273, Tryz.f273), (274, Tryz.f274), (275, Tryz.f275), (276, Tryz.f276), (277, Tryz.f277), (278, Tryz.f278), (279, Tryz.f279), (280, Tryz.f280), (281, Tryz.f281), (282, Tryz.f282), (283, Tryz.f283), (284, Tryz.f284), (285, Tryz.f285), (302, Tryz.f302), (303, Tryz.f303), (304, Tryz.f304), (305, Tryz.f305), (306, Tryz.f306), (307, Tryz.f307), (308, Tryz.f308), (309, Tryz.f309), (310, Tryz.f310), (311, Tryz.f311), (312, Tryz.f312), (313, Tryz.f313), (314, Tryz.f314), (315, Tryz.f315), (322, Tryz.f322), (323, Tryz.f323), (324, Tryz.f324), (325, Tryz.f325), (326, Tryz.f326), (327, Tryz.f327), (328, Tryz.f328), (329, Tryz.f329), (330, Tryz.f330), (331, Tryz.f331), (332, Tryz.f332), (333, Tryz.f333), (334, Tryz.f334), (335, Tryz.f335), (336, Tryz.f336), (337, Tryz.f337), (338, Tryz.f338), (339, Tryz.f339), (340, Tryz.f340)]
noncomputable def fnTree : Tr Func := fnL.foldr (fun x t => Tr.set t x.1 x.2) .nil
noncomputable def fns (f : Nat) : Option (Code × List ResultVar) := match Tr.get fnTree f with
 | some fn => match fn.body with | some c => some (c, fn.results.toList) | none => none
 | none => none
theorem get_fold {α : Type} : ∀ (l : List (Nat × α)) (k : Nat) (v : α), Tr.get (l.foldr (fun x t => Tr.set t x.1 x.2) .nil) k = some v → (k, v) ∈ l
 | [], k, v, h => by cases h
 | x :: l, k, v, h => by
  rcases Tr.get_set_some _ _ _ _ _ h with ⟨rfl, rfl⟩ | ⟨_, h⟩
  ·exact List.mem_cons_self ..
  ·exact List.mem_cons_of_mem _ (get_fold l k v h)
theorem map_mem {α β : Type} {f g : α → β} : ∀ {l : List α}, l.map f = l.map g → ∀ x ∈ l, f x = g x
 | y :: l, h, x, hx => by
  rw [List.map_cons, List.map_cons] at h
  rcases List.mem_cons.1 hx with rfl | hx
  ·exact (List.cons.inj h).1
  ·exact map_mem (List.cons.inj h).2 x hx
theorem ty_all : tyL.map (fun x => tiOf Tryz.prog x.1) = tyL.map (fun x => some x.2) := by kernel_rfl
theorem ty_ok : ∀ t i, ty t = some i → tiOf Tryz.prog t = some i := fun t i h => map_mem ty_all (t, i) (get_fold tyL t i h)
theorem fn_all : fnL.map (fun x => Tryz.prog.funcs[x.1]?) = fnL.map (fun x => some x.2) := by kernel_rfl
noncomputable def fnOk (fn : Func) : Bool := (match fn.body with | some c => okCode fn.ntmps c | none => true) && Nat.ble fn.ntmps 1000000 && !(fn.name == "runtime.NumGoroutine")
theorem fn_ok : fnL.all (fun x => fnOk x.2) = true := by kernel_rfl
theorem fns_ok (f : Nat) (c : Code) (rs : List ResultVar) (h : fns f = some (c, rs)) : ∃ fn, Tryz.prog.funcs[f]? = some fn ∧ fn.body = some c ∧ fn.results.toList = rs ∧ okCode fn.ntmps c = true ∧ fn.ntmps ≤ 1000000 ∧ fn.name ≠ "runtime.NumGoroutine" := by
 unfold fns at h
 split at h
 ·rename_i fn hf
  have hm := get_fold fnL f fn hf
  split at h
  ·rename_i c' hb
   cases h
   have h1 := map_mem fn_all (f, fn) hm
   have h2 := List.all_eq_true.1 fn_ok (f, fn) hm
   simp only [fnOk, hb, Bool.and_eq_true, Bool.not_eq_true', beq_eq_false_iff_ne] at h2
   exact ⟨fn, h1, hb, rfl, h2.1.1, Nat.le_of_ble_eq_true h2.1.2, h2.2⟩
  ·cases h
 ·cases h
theorem mixed_ok : Tryz.prog.follows .mixedOrders = true := by kernel_rfl
end Ev
end
section
set_option maxRecDepth 100000
namespace Ev
open Go Go.Proofs
noncomputable def tyL2 : List (Nat × TI) := [
 (68, (.mk 4 48 (.struct [(0, 1, false), (1, 1, false), (2, 1, false), (3, 1, false)]) [(.int .i64 0), (.int .u32 0), .snil, (.int .i64 0)])),
 (69, (.mk 1 8 (.ptr 127) [.nilp])),
 (71, (.mk 1 8 (.ptr 137) [.nilp])),
 (140, (.mk 5 40 (.struct [(0, 1, false), (1, 1, false), (2, 1, false), (3, 1, false), (4, 1, false)]) [.nilp, (.int .i64 0), (.int .i64 0), (.int .i64 0), (.int .i64 0)])),
 (242, (.mk 5 72 (.struct [(0, 1, false), (1, 1, false), (2, 1, false), (3, 1, false), (4, 1, false)]) [.nilp, .nilp, (.int .i64 0), .snil, .snil])),
 (138, (.mk 1 8 (.ptr 140) [.nilp])),
 (237, (.mk 1 8 (.ptr 100) [.nilp])),
 (386, (.mk 1 1 (.int .i8) [(.int .i8 0)])),
 (387, (.mk 1 2 (.int .i16) [(.int .i16 0)]))]
noncomputable def tyTree2 : Tr TI := tyL2.foldr (fun x t => Tr.set t x.1 x.2) .nil
noncomputable def ty2 (t : Nat) : Option TI := match Tr.get tyTree2 t with | some x => some x | none => ty t
noncomputable def fnL2 : List (Nat × Func) := [(13, Tryz.f13), (43, Tryz.f43), (119, Tryz.f119), (120, Tryz.f120), (216, Tryz.f216), (217, Tryz.f217), (220, Tryz.f220), (260, Tryz.f260), (261, Tryz.f261), (262, Tryz.f262), (264, Tryz.f264), (265, Tryz.f265), (290, Tryz.f290), (291, Tryz.f291), (316, Tryz.f316), (317, Tryz.f317)]
noncomputable def fnTree2 : Tr Func := fnL2.foldr (fun x t => Tr.set t x.1 x.2) .nil
noncomputable def fns2 (f : Nat) : Option (Code × List ResultVar) := match Tr.get fnTree2 f with
 | some fn => match fn.body with | some c => some (c, fn.results.toList) | none => none
 | none => fns f
theorem ty_all2 : tyL2.map (fun x => tiOf Tryz.prog x.1) = tyL2.map (fun x => some x.2) := by kernel_rfl
theorem ty_ok2 : ∀ t i, ty2 t = some i → tiOf Tryz.prog t = some i := fun t i h => by
 unfold ty2 at h
 split at h
 ·rename_i x hx
  cases h
  exact map_mem ty_all2 (t, i) (get_fold tyL2 t i hx)
 ·exact ty_ok t i h
theorem fn_all2 : fnL2.map (fun x => Tryz.prog.funcs[x.1]?) = fnL2.map (fun x => some x.2) := by kernel_rfl
theorem fn_ok2 : fnL2.all (fun x => fnOk x.2) = true := by kernel_rfl
theorem fns_ok2 (f : Nat) (c : Code) (rs : List ResultVar) (h : fns2 f = some (c, rs)) : ∃ fn, Tryz.prog.funcs[f]? = some fn ∧ fn.body = some c ∧ fn.results.toList = rs ∧ okCode fn.ntmps c = true ∧ fn.ntmps ≤ 1000000 ∧ fn.name ≠ "runtime.NumGoroutine" := by
 unfold fns2 at h
 split at h
 ·rename_i fn hf
  have hm := get_fold fnL2 f fn hf
  split at h
  ·rename_i c' hb
   cases h
   have h1 := map_mem fn_all2 (f, fn) hm
   have h2 := List.all_eq_true.1 fn_ok2 (f, fn) hm
   simp only [fnOk, hb, Bool.and_eq_true, Bool.not_eq_true', beq_eq_false_iff_ne] at h2
   exact ⟨fn, h1, hb, rfl, h2.1.1, Nat.le_of_ble_eq_true h2.1.2, h2.2⟩
  ·cases h
 ·exact fns_ok f c rs h
end Ev
end
section
set_option maxRecDepth 100000
namespace Ev
open Go Go.Proofs
abbrev B64 := BitVec 64
noncomputable def isJ (c : CV) (n : Nat) : Bool := match c with | .int .i64 (.ofNat m) => Nat.beq m n | _ => false
noncomputable def hOf (l : List (Nat × Row)) : H := List.rec (motive := fun _ => H) .nil (fun x _ ih => H.put ih x.1 x.2) l
noncomputable def okRow (r : Row) (e s : Nat) : Bool := (match r.kind with | .live => true | _ => false) && Nat.beq r.elem e && Nat.beq r.size s
noncomputable def isP (c : CV) (n : Nat) : Bool := match c with | .ptr i 0 => Nat.beq i n | _ => false
noncomputable def tail : Code → Nat → Code
 | c, 0 => c
 | .seq _ b, n + 1 => tail b n
 | c, _ + 1 => c
noncomputable def headC : Code → Code
 | .seq a _ => a
 | c => c
noncomputable def evList (ty : Nat → Option TI) (call : CallF) (S lo hi f : Nat) : List Code → T → Nat → H → R CSt
 | [], t, n, h => .ok ⟨.normal, t, n⟩ h ⟨[], []⟩
 | c :: cs, t, n, h => seqR (evCode ty call S lo hi f c t n h) (evList ty call S lo hi f cs)
def ldB (b : Nat → Nat) : Nat → B64
 | 0 => 0
 | i + 1 => ldB b i ||| (BitVec.ofNat 64 (b i) <<< (8 * i))
def stB (β : Nat → Nat) (a : Nat) (x : B64) : Nat → Nat := fun j => if a ≤ j ∧ j < a + 8 then x.toNat / 2 ^ (8 * (j - a)) % 256 else β j
def preC : List Ln.C := [(257, 0, 0), (66, 0, 64), (257, 0, 0), (66, 0, 0), (257, 0, 0), (33, 0, 0), (32, 0, 0), (41, 0, 5), (32, 0, 0), (41, 0, 13), (257, 0, 0), (66, 0, 16), (257, 0, 0), (33, 0, 0), (32, 0, 0), (41, 0, 9), (32, 0, 0), (41, 0, 17), (257, 0, 0)]
def sufC : List Ln.C := [(257, 0, 0), (33, 2, 0), (33, 1, 0), (33, 0, 0), (32, 0, 0), (32, 2, 0), (55, 0, 11), (32, 0, 0), (32, 1, 0), (55, 0, 3)]
def hN (β : Nat → Nat) (a : Nat) : B64 := ldB (fun i => β (a + i)) 8
def allC (k : Nat) : List Ln.C := preC ++ (Ln.cellsOf k).1 ++ sufC
def rB (k : Nat) (β : Nat → Nat) (j : Nat) : B64 := Ln.resF k (hN β 5) (hN β 13) (hN β 25) (hN β 33) j
end Ev
end
section
set_option maxRecDepth 100000
namespace Ev
open Go Go.Proofs
noncomputable def c3 : Code := Tryz.f3.body.getD .skip
noncomputable def mid3 : List Code := (List.range 10).map fun i => headC (tail c3 (7 + i))
theorem arr_all (T : Array Value) (n : Nat) (h : T.size = n) : T = ((List.range n).map fun i => T.getD i undef).toArray := by
 apply Array.ext
 ·simp [h]
 ·intro i h1 h2
  simp [h1]
end Ev
end
