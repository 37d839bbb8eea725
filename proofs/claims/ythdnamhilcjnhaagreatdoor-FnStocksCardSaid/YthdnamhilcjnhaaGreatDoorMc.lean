/- The program's types and functions, as the abstract interpreter reads them (functions of Go's library by contract). -/
import Derived.Test.YthdnamhilcjnhaaGreatDoorChecked
import Derived.Test.YthdnamhilcjnhaaGreatDoorRs24
import Derived.Test.YthdnamhilcjnhaaGreatDoorMb
import Derived.Test.YthdnamhilcjnhaaGreatDoorRg0
import Derived.Test.YthdnamhilcjnhaaGreatDoorMa
import Derived.Maps.AppendAt
import Derived.Shelf.RegionOpen
import Derived.Test.YthdnamhilcjnhaaGreatDoorRs21
import Derived.CallsIn
import Derived.OrdersIn
import Derived.TacticsIn
namespace Go.Proofs.YthdnamhilcjnhaaGreatDoor
open Go Go.RowKit
set_option maxRecDepth 100000
set_option linter.unusedVariables false
noncomputable def tt : List (Nat × TyI) := [
 (1, ⟨.fn, 1, 8, [.nilf], [], false⟩),
 (2, ⟨.int .i64, 1, 8, [.int .i64 0], [], true⟩),
 (3, ⟨.int .i64, 1, 8, [.int .i64 0], [], true⟩),
 (4, ⟨.bool, 1, 1, [.bool false], [], false⟩),
 (5, ⟨.int .u8, 1, 1, [.int .u8 0], [], true⟩),
 (9, ⟨.str, 1, 16, [.str ⟨#[]⟩], [], false⟩),
 (21, ⟨.int .i32, 1, 4, [.int .i32 0], [], true⟩),
 (22, ⟨.sl 5, 1, 24, [.nils], [5], false⟩),
 (24, ⟨.sl 45, 1, 24, [.nils], [45], false⟩),
 (29, ⟨.sl 35, 1, 24, [.nils], [35], false⟩),
 (35, ⟨.sl 2, 1, 24, [.nils], [2], false⟩),
 (42, ⟨.sl 4, 1, 24, [.nils], [4], false⟩),
 (43, ⟨.int .i8, 1, 1, [.int .i8 0], [], true⟩),
 (45, ⟨.st [(0, 43), (1, 43)], 2, 2, [.int .i8 0, .int .i8 0], [], true⟩),
 (46, ⟨.ptr 68, 1, 8, [.nilp], [], false⟩),
 (50, ⟨.fn, 1, 8, [.nilf], [], false⟩),
 (51, ⟨.fn, 1, 8, [.nilf], [], false⟩),
 (54, ⟨.fn, 1, 8, [.nilf], [], false⟩),
 (55, ⟨.fn, 1, 8, [.nilf], [], false⟩),
 (58, ⟨.sl 9, 1, 24, [.nils], [9], false⟩),
 (66, ⟨.int .u64, 1, 8, [.int .u64 0], [], true⟩),
 (68, ⟨.st [(0, 22), (1, 3), (2, 66)], 3, 40, [.nils, .int .i64 0, .int .u64 0], [5, 0, 0], false⟩),
 (73, ⟨.sl 24, 1, 24, [.nils], [24], false⟩),
 (76, ⟨.fn, 1, 8, [.nilf], [], false⟩),
 (77, ⟨.ptr 79, 1, 8, [.nilp], [], false⟩),
 (79, ⟨.st [(0, 77), (1, 22)], 2, 32, [.nilp, .nils], [0, 5], false⟩),
 (86, ⟨.sl 3, 1, 24, [.nils], [3], false⟩),
 (88, ⟨.mp 3 4, 1, 8, [.nilm], [], false⟩),
 (90, ⟨.fn, 1, 8, [.nilf], [], false⟩),
 (94, ⟨.int .u64, 1, 8, [.int .u64 0], [], true⟩),
 (95, ⟨.fn, 1, 8, [.nilf], [], false⟩),
 (100, ⟨.ptr 5, 1, 8, [.nilp], [], false⟩),
 (104, ⟨.fn, 1, 8, [.nilf], [], false⟩),
 (113, ⟨.arr 256 5, 256, 256, [.ints .u8 256 (fun _ => 0)], [], true⟩),
 (115, ⟨.st [(0, 5), (1, 5)], 2, 2, [.int .u8 0, .int .u8 0], [], true⟩),
 (119, ⟨.arr 24 5, 24, 24, [.ints .u8 24 (fun _ => 0)], [], true⟩),
 (126, ⟨.int .u32, 1, 4, [.int .u32 0], [], true⟩),
 (130, ⟨.arr 20 66, 20, 160, [.ints .u64 20 (fun _ => 0)], [], true⟩),
 (131, ⟨.arr 65 5, 65, 65, [.ints .u8 65 (fun _ => 0)], [], true⟩),
 (134, ⟨.arr 32 5, 32, 32, [.ints .u8 32 (fun _ => 0)], [], true⟩),
 (135, ⟨.arr 64 5, 64, 64, [.ints .u8 64 (fun _ => 0)], [], true⟩)]
noncomputable def fl : List Func := [Go.Proofs.Tryz.f0, Go.Proofs.Tryz.f1, Go.Proofs.Tryz.f2, Go.Proofs.Tryz.f3, Go.Proofs.Tryz.f4, Go.Proofs.Tryz.f5, Go.Proofs.Tryz.f6, Go.Proofs.Tryz.f7, Go.Proofs.Tryz.f8, Go.Proofs.Tryz.f9, Go.Proofs.Tryz.f10, Go.Proofs.Tryz.f11, Go.Proofs.Tryz.f12, Go.Proofs.Tryz.f13, Go.Proofs.Tryz.f14, Go.Proofs.Tryz.f15, Go.Proofs.Tryz.f16, Go.Proofs.Tryz.f17, Go.Proofs.Tryz.f18, Go.Proofs.Tryz.f19, Go.Proofs.Tryz.f20, Go.Proofs.Tryz.f21, Go.Proofs.Tryz.f22, Go.Proofs.Tryz.f23, Go.Proofs.Tryz.f24, Go.Proofs.Tryz.f25, Go.Proofs.Tryz.f26, Go.Proofs.Tryz.f27, Go.Proofs.Tryz.f28, Go.Proofs.Tryz.f29, Go.Proofs.Tryz.f30, Go.Proofs.Tryz.f31, Go.Proofs.Tryz.f32, Go.Proofs.Tryz.f33, Go.Proofs.Tryz.f34, Go.Proofs.Tryz.f35, Go.Proofs.Tryz.f36, Go.Proofs.Tryz.f37, Go.Proofs.Tryz.f38, Go.Proofs.Tryz.f39, Go.Proofs.Tryz.f40, Go.Proofs.Tryz.f41, Go.Proofs.Tryz.f42, Go.Proofs.Tryz.f43, Go.Proofs.Tryz.f44, Go.Proofs.Tryz.f45, Go.Proofs.Tryz.f46, Go.Proofs.Tryz.f47, Go.Proofs.Tryz.f48, Go.Proofs.Tryz.f49, Go.Proofs.Tryz.f50, Go.Proofs.Tryz.f51, Go.Proofs.Tryz.f52, Go.Proofs.Tryz.f53, Go.Proofs.Tryz.f54, Go.Proofs.Tryz.f55, Go.Proofs.Tryz.f56, Go.Proofs.Tryz.f57, Go.Proofs.Tryz.f58, Go.Proofs.Tryz.f59, Go.Proofs.Tryz.f60, Go.Proofs.Tryz.f61, Go.Proofs.Tryz.f62, Go.Proofs.Tryz.f63, Go.Proofs.Tryz.f64, Go.Proofs.Tryz.f65, Go.Proofs.Tryz.f66, Go.Proofs.Tryz.f67, Go.Proofs.Tryz.f68, Go.Proofs.Tryz.f69, Go.Proofs.Tryz.f70, Go.Proofs.Tryz.f71, Go.Proofs.Tryz.f72, Go.Proofs.Tryz.f73, Go.Proofs.Tryz.f74, Go.Proofs.Tryz.f75, Go.Proofs.Tryz.f76, Go.Proofs.Tryz.f77, Go.Proofs.Tryz.f78, Go.Proofs.Tryz.f79, Go.Proofs.Tryz.f80, Go.Proofs.Tryz.f81, Go.Proofs.Tryz.f82, Go.Proofs.Tryz.f83, Go.Proofs.Tryz.f84, Go.Proofs.Tryz.f85, Go.Proofs.Tryz.f86, Go.Proofs.Tryz.f87, Go.Proofs.Tryz.f88, Go.Proofs.Tryz.f89, Go.Proofs.Tryz.f90, Go.Proofs.Tryz.f91, Go.Proofs.Tryz.f92, Go.Proofs.Tryz.f93, Go.Proofs.Tryz.f94, Go.Proofs.Tryz.f95, Go.Proofs.Tryz.f96, Go.Proofs.Tryz.f97, Go.Proofs.Tryz.f98, Go.Proofs.Tryz.f99, Go.Proofs.Tryz.f100, Go.Proofs.Tryz.f101, Go.Proofs.Tryz.f102, Go.Proofs.Tryz.f103, Go.Proofs.Tryz.f104, Go.Proofs.Tryz.f105, Go.Proofs.Tryz.f106, Go.Proofs.Tryz.f107, Go.Proofs.Tryz.f108, Go.Proofs.Tryz.f109, Go.Proofs.Tryz.f110, Go.Proofs.Tryz.f111, Go.Proofs.Tryz.f112, Go.Proofs.Tryz.f113, Go.Proofs.Tryz.f114, Go.Proofs.Tryz.f115, Go.Proofs.Tryz.f116, Go.Proofs.Tryz.f117, Go.Proofs.Tryz.f118, Go.Proofs.Tryz.f119, Go.Proofs.Tryz.f120, Go.Proofs.Tryz.f121, Go.Proofs.Tryz.f122, Go.Proofs.Tryz.f123, Go.Proofs.Tryz.f124, Go.Proofs.Tryz.f125, Go.Proofs.Tryz.f126, Go.Proofs.Tryz.f127, Go.Proofs.Tryz.f128, Go.Proofs.Tryz.f129]
noncomputable def fi : List (Nat × FnI) := [
 (2, ⟨[], [], 524289, false, none, false, none, false, none, false, false, none⟩),
 (3, ⟨[(4, [])], [(0, ⟨[(5, [45]), (6, [45]), (11, [35]), (13, []), (17, [45]), (21, [2]), (25, []), (27, [4]), (28, []), (29, []), (30, [])], [(5, [45]), (6, [45]), (11, [35]), (13, []), (17, [45]), (21, [2]), (25, []), (27, [4]), (28, []), (29, [])]⟩), (2, ⟨[(5, [45]), (6, [45]), (11, [35]), (13, []), (17, [45]), (21, [2]), (25, []), (27, [4]), (28, []), (29, []), (33, [])], [(5, [45]), (6, [45]), (11, [35]), (13, []), (17, [45]), (21, [2]), (25, []), (28, []), (29, [])]⟩), (4, ⟨[(5, [45]), (6, [45]), (11, [35]), (13, []), (17, [45]), (21, [2]), (25, []), (27, [4]), (28, []), (29, []), (33, []), (34, [])], [(5, [45]), (6, [45]), (11, [35]), (13, []), (17, [45]), (21, [2]), (25, []), (27, [4]), (28, []), (29, []), (33, [])]⟩), (6, ⟨[(5, [45]), (6, [45]), (13, []), (17, [45]), (21, [2]), (25, []), (28, []), (35, [])], [(5, [45]), (6, [45]), (13, []), (17, [45]), (21, [2]), (25, []), (28, [])]⟩), (8, ⟨[(5, [45]), (6, [45]), (13, []), (21, [2]), (25, []), (36, []), (37, [])], [(5, [45]), (13, []), (25, []), (36, [])]⟩), (10, ⟨[(5, [45]), (6, [45]), (13, []), (21, [2]), (25, []), (36, []), (37, []), (38, [])], [(5, [45]), (6, [45]), (13, []), (21, [2]), (25, []), (36, []), (37, [])]⟩)], 479, false, none, false, none, false, none, false, false, none⟩),
 (4, ⟨[(4, [])], [], 13, false, none, false, none, false, none, false, false, none⟩),
 (5, ⟨[(2, [45])], [(0, ⟨[(3, [5, 0, 0]), (4, [45]), (5, [])], [(4, [45])]⟩)], 32, false, none, false, none, false, none, false, false, none⟩),
 (6, ⟨[(2, [45]), (3, [])], [(0, ⟨[(2, [45]), (3, []), (4, [45]), (10, [])], [(2, [45]), (3, []), (4, [45])]⟩)], 44, false, none, false, none, false, none, false, false, none⟩),
 (7, ⟨[(2, [])], [], 10, false, none, false, none, false, none, false, false, none⟩),
 (8, ⟨[(2, [35]), (3, [])], [], 13, false, none, false, none, false, none, false, false, none⟩),
 (9, ⟨[(2, [35]), (3, [])], [], 13, false, none, false, none, false, none, false, false, none⟩),
 (10, ⟨[(2, []), (3, [])], [], 13, false, none, false, none, false, none, false, false, none⟩),
 (11, ⟨[(2, [45]), (3, [])], [(0, ⟨[(5, [2]), (6, [45]), (18, [45]), (19, []), (20, [])], [(6, [45])]⟩)], 46, false, none, false, none, false, none, false, false, none⟩),
 (12, ⟨[(2, [45]), (3, [])], [(0, ⟨[(0, [45]), (5, [4]), (6, [35]), (7, [])], [(0, [45]), (5, [4])]⟩), (2, ⟨[(0, [45]), (5, [4]), (8, [45]), (9, [])], [(8, [45])]⟩)], 91, false, none, false, none, false, none, false, false, none⟩),
 (13, ⟨[(4, [2]), (5, [])], [], 17, false, none, false, none, false, none, false, false, none⟩),
 (14, ⟨[(4, [2]), (5, [])], [], 17, false, none, false, none, false, none, false, false, none⟩),
 (15, ⟨[(4, []), (5, [])], [(0, ⟨[(0, [45]), (7, [45]), (19, [2]), (20, []), (21, [])], [(7, [45])]⟩)], 38, false, none, false, none, false, none, false, false, none⟩),
 (16, ⟨[(4, []), (5, [])], [(0, ⟨[(0, [45]), (7, [45]), (8, [2]), (9, [])], [(7, [45])]⟩)], 40, false, none, false, none, false, none, false, false, none⟩),
 (17, ⟨[(4, [])], [(0, ⟨[(0, [45]), (1, [45]), (5, [])], []⟩)], 26, false, none, false, none, false, none, false, false, none⟩),
 (18, ⟨[(4, [])], [(0, ⟨[(0, [35]), (1, [35]), (5, [])], []⟩)], 27, false, none, false, none, false, none, false, false, none⟩),
 (19, ⟨[(4, [])], [], 8, false, none, false, none, false, none, false, false, none⟩),
 (20, ⟨[(2, [5, 0, 0])], [], 6, false, none, false, none, true, none, false, false, none⟩),
 (21, ⟨[(0, [5, 0, 0]), (4, [])], [], 20, false, some 0, false, none, false, none, false, false, none⟩),
 (22, ⟨[(0, [5, 0, 0]), (4, [])], [], 9, false, some 0, false, none, false, none, false, false, none⟩),
 (23, ⟨[(4, [])], [], 8, false, none, false, none, false, none, false, false, none⟩),
 (24, ⟨[(4, [])], [], 8, false, none, false, none, false, none, false, false, none⟩),
 (25, ⟨[(2, [])], [], 11, false, none, false, none, false, none, false, false, none⟩),
 (26, ⟨[(2, [])], [], 13, false, none, false, none, false, none, false, false, none⟩),
 (27, ⟨[(2, [])], [], 11, false, none, false, none, false, none, false, false, none⟩),
 (28, ⟨[(4, [])], [(1, ⟨[(0, [9]), (1, []), (5, []), (39, [9]), (40, []), (41, [])], [(0, [9]), (1, []), (5, [])]⟩), (3, ⟨[(1, []), (8, [0, 5]), (63, [9]), (64, []), (65, [])], [(8, [0, 5])]⟩)], 75, false, none, false, none, false, none, false, false, none⟩),
 (29, ⟨[(4, [9])], [(0, ⟨[(1, []), (5, [9]), (8, [45]), (9, []), (10, [])], [(5, [9])]⟩)], 22, false, none, false, none, false, none, false, false, none⟩),
 (30, ⟨[(2, [35])], [(0, ⟨[(1, [45]), (3, [3]), (4, []), (5, [35]), (12, [3]), (13, []), (14, [])], [(5, [35])]⟩)], 45, false, none, false, none, false, none, false, false, none⟩),
 (31, ⟨[(2, [])], [], 9, false, none, false, none, false, none, false, false, none⟩),
 (32, ⟨[(2, [35])], [(0, ⟨[(0, [45]), (3, [35]), (4, [4]), (5, [2]), (6, [])], [(3, [35])]⟩), (2, ⟨[(0, [45]), (3, [35]), (4, [4]), (5, [2]), (6, []), (7, []), (8, [])], [(0, [45]), (3, [35]), (4, [4]), (5, [2]), (6, [])]⟩)], 79, false, none, false, none, false, none, false, false, none⟩),
 (33, ⟨[(2, [])], [], 9, false, none, false, none, false, none, false, false, none⟩),
 (34, ⟨[(2, [2])], [(0, ⟨[(0, [35]), (3, []), (9, [35]), (10, []), (11, [])], [(0, [35]), (3, [])]⟩), (2, ⟨[(6, [2]), (25, [35]), (26, []), (27, [])], [(6, [2])]⟩)], 36, false, none, false, none, false, none, false, false, none⟩),
 (35, ⟨[(4, [])], [], 9, false, none, false, none, false, none, false, false, none⟩),
 (36, ⟨[(4, [2])], [(0, ⟨[(0, [45]), (1, [45]), (5, [2]), (6, []), (17, [3]), (18, []), (19, [])], [(5, [2])]⟩), (2, ⟨[(0, [45]), (1, [45]), (5, [2]), (6, []), (8, []), (9, []), (17, [3]), (18, []), (19, []), (23, [45]), (24, []), (25, [])], [(0, [45]), (1, [45]), (5, [2]), (6, []), (8, []), (9, []), (17, [3]), (18, []), (19, [])]⟩)], 68, false, none, false, none, false, none, false, false, none⟩),
 (37, ⟨[(4, [])], [], 21, false, none, false, none, false, none, false, false, none⟩),
 (38, ⟨[(4, [2])], [(0, ⟨[(0, [45]), (1, [45]), (5, [2]), (6, [4]), (7, [2]), (8, [])], [(5, [2])]⟩), (2, ⟨[(0, [45]), (1, [45]), (5, [2]), (6, [4]), (7, [2]), (8, []), (9, []), (10, []), (11, [])], [(0, [45]), (1, [45]), (5, [2]), (6, [4]), (7, [2]), (8, []), (10, [])]⟩)], 102, false, none, false, none, false, none, false, false, none⟩),
 (39, ⟨[(2, [])], [], 9, false, none, false, none, false, none, false, false, none⟩),
 (40, ⟨[(4, [])], [(0, ⟨[(0, [2]), (1, [2]), (5, [])], []⟩)], 26, false, none, false, none, false, none, false, false, none⟩),
 (41, ⟨[(0, [5, 0, 0]), (2, [])], [], 62, false, some 0, false, none, false, none, false, false, none⟩),
 (42, ⟨[(6, [])], [], 8, false, none, false, none, false, none, false, false, none⟩),
 (43, ⟨[(4, [])], [], 8, false, none, false, none, false, none, false, false, none⟩),
 (44, ⟨[(6, [])], [], 15, false, none, false, none, false, none, false, false, none⟩),
 (45, ⟨[(2, [])], [], 6, false, none, false, none, false, none, false, false, none⟩),
 (46, ⟨[(4, [])], [], 9, false, none, false, none, false, none, false, false, none⟩),
 (47, ⟨[(2, [])], [], 5, false, none, false, none, false, none, false, false, none⟩),
 (48, ⟨[(4, [])], [], 9, false, none, false, none, false, none, false, false, none⟩),
 (49, ⟨[(2, [])], [], 6, false, none, false, none, false, none, false, false, none⟩),
 (50, ⟨[], [], 25, false, none, false, none, false, none, false, false, none⟩),
 (51, ⟨[(4, []), (5, [])], [], 19, false, none, false, none, false, none, false, false, none⟩),
 (52, ⟨[(2, [])], [], 14, false, none, false, none, false, none, false, false, none⟩),
 (53, ⟨[(2, [3])], [], 11, false, none, false, none, false, none, false, false, none⟩),
 (54, ⟨[(4, [])], [(0, ⟨[(0, [3]), (1, []), (7, []), (8, [])], []⟩)], 19, false, none, false, none, false, none, false, false, none⟩),
 (55, ⟨[(5, [])], [], 32, false, none, false, none, false, none, false, false, none⟩),
 (56, ⟨[(2, [])], [(0, ⟨[(0, [45]), (3, [])], []⟩)], 28, false, none, false, none, false, none, false, false, none⟩),
 (57, ⟨[(2, [2])], [(0, ⟨[(0, [45]), (3, [2]), (4, [])], [(3, [2])]⟩), (2, ⟨[(0, [45]), (3, [2]), (4, []), (5, [])], [(0, [45]), (3, [2]), (4, [])]⟩)], 29, false, none, false, none, false, none, false, false, none⟩),
 (58, ⟨[(4, [2])], [], 2228251, false, none, false, none, false, none, true, false, none⟩),
 (59, ⟨[(4, [])], [(0, ⟨[(0, [2]), (1, []), (7, []), (8, [])], []⟩)], 19, false, none, false, none, false, none, false, false, none⟩),
 (60, ⟨[(4, [])], [], 22, false, none, false, none, false, none, false, false, none⟩),
 (61, ⟨[], [(0, ⟨[(0, []), (2, [])], []⟩), (2, ⟨[(0, []), (1, []), (2, []), (3, [])], [(0, []), (2, [])]⟩)], 52, false, none, false, none, false, none, false, false, none⟩),
 (62, ⟨[(2, []), (3, [])], [], 19, false, none, false, none, false, none, false, false, none⟩),
 (63, ⟨[(4, [])], [], 8, false, none, false, none, false, none, false, false, none⟩),
 (65, ⟨[(4, [])], [], 8, false, none, false, none, false, none, false, false, none⟩),
 (66, ⟨[(4, [])], [], 9, false, none, false, none, false, none, false, false, none⟩),
 (67, ⟨[(3, [])], [], 8, false, none, false, none, false, none, false, false, none⟩),
 (68, ⟨[(4, [])], [], 9, false, none, false, none, false, none, false, false, none⟩),
 (69, ⟨[(3, [])], [], 8, false, none, false, none, false, none, false, false, none⟩),
 (70, ⟨[], [], 20, false, none, false, none, false, none, false, false, none⟩),
 (71, ⟨[], [], 30, false, none, false, none, false, none, false, false, none⟩),
 (72, ⟨[(2, [3])], [(0, ⟨[(3, [3]), (5, []), (6, [])], [(3, [3])]⟩)], 15, false, none, false, none, false, none, false, false, none⟩),
 (73, ⟨[(0, [3])], [], 9, false, none, false, none, false, some 0, false, false, none⟩),
 (74, ⟨[(5, [])], [], 17, false, none, false, none, false, none, false, false, none⟩),
 (75, ⟨[(4, [])], [], 20, false, none, false, none, false, none, false, false, none⟩),
 (76, ⟨[(6, [])], [], 15, false, none, false, none, false, none, false, false, none⟩),
 (77, ⟨[(2, []), (3, [])], [], 117, false, none, false, none, false, none, false, false, none⟩),
 (78, ⟨[(4, [])], [(1, ⟨[(0, []), (1, []), (5, []), (6, []), (7, []), (8, []), (9, []), (10, [])], []⟩)], 143, false, none, false, none, false, none, false, false, none⟩),
 (79, ⟨[(4, [])], [], 54, false, none, false, none, false, none, false, false, none⟩),
 (80, ⟨[(4, [])], [(0, ⟨[(0, [24]), (1, []), (7, []), (8, [])], []⟩)], 19, false, none, false, none, false, none, false, false, none⟩),
 (81, ⟨[(4, [])], [(0, ⟨[(0, [45]), (1, []), (7, []), (8, [])], []⟩)], 19, false, none, false, none, false, none, false, false, none⟩),
 (84, ⟨[(0, [3])], [(0, ⟨[(0, [3]), (1, []), (2, []), (6, []), (7, []), (8, [])], [(0, [3]), (1, []), (2, []), (6, []), (7, [])]⟩), (2, ⟨[(0, [3]), (1, []), (2, []), (6, [])], [(0, [3])]⟩), (4, ⟨[(0, [3]), (1, []), (2, []), (6, []), (7, []), (8, [])], [(0, [3]), (1, []), (2, []), (6, []), (7, [])]⟩)], 63, false, none, false, none, false, some 0, false, false, none⟩),
 (85, ⟨[(2, [])], [], 6, false, none, false, none, false, none, false, false, none⟩),
 (87, ⟨[(2, [])], [], 6, false, none, false, none, false, none, false, false, none⟩),
 (88, ⟨[(4, [])], [(0, ⟨[(0, []), (1, []), (5, []), (6, []), (7, []), (8, []), (9, [])], [(0, []), (1, []), (5, []), (6, []), (7, []), (8, [])]⟩), (2, ⟨[(0, []), (1, []), (5, []), (6, []), (7, []), (8, []), (10, [])], []⟩)], 81, false, none, false, none, false, none, false, false, none⟩),
 (89, ⟨[(2, [])], [], 15, false, none, false, none, false, none, false, false, none⟩),
 (90, ⟨[(2, [])], [], 15, false, none, false, none, false, none, false, false, none⟩),
 (91, ⟨[], [(0, ⟨[(0, [5]), (1, []), (4, [])], [(0, [5]), (1, []), (4, [])]⟩)], 167, false, none, false, none, false, none, false, false, none⟩),
 (92, ⟨[(10, [5]), (11, [])], [(0, ⟨[(0, [5]), (1, []), (3, []), (4, []), (10, [5]), (11, []), (12, []), (13, []), (14, []), (15, []), (16, [])], [(0, [5]), (1, []), (3, []), (4, []), (10, [5]), (11, []), (12, []), (13, [])]⟩), (2, ⟨[(0, [5]), (1, []), (3, []), (4, []), (10, [5]), (11, []), (12, []), (13, []), (17, [])], [(0, [5]), (1, []), (3, []), (4, []), (10, [5]), (11, []), (12, []), (13, [])]⟩)], 102, false, none, false, none, false, none, false, false, none⟩),
 (93, ⟨[(0, [3])], [(0, ⟨[(0, [3]), (1, []), (2, []), (3, []), (8, [])], [(0, [3])]⟩), (2, ⟨[(0, [3]), (1, []), (2, []), (3, []), (8, []), (9, [])], [(0, [3]), (1, []), (2, []), (3, []), (8, [])]⟩)], 53, false, none, false, none, false, some 0, false, false, none⟩),
 (94, ⟨[(0, [3])], [(0, ⟨[(0, [3]), (1, []), (4, []), (10, []), (11, [])], [(0, [3]), (1, []), (10, [])]⟩), (2, ⟨[(0, [3]), (10, []), (13, [])], [(0, [3])]⟩), (4, ⟨[(0, [3]), (2, []), (4, []), (14, []), (15, [])], [(0, [3]), (2, []), (14, [])]⟩), (6, ⟨[(0, [3]), (14, []), (17, [])], [(0, [3])]⟩), (8, ⟨[(0, [3]), (1, []), (2, []), (3, []), (4, []), (18, []), (19, []), (20, []), (21, []), (22, [])], [(0, [3]), (1, []), (2, []), (3, []), (4, []), (18, []), (19, []), (20, [])]⟩)], 220, false, none, false, none, false, some 0, false, false, none⟩),
 (95, ⟨[(2, []), (3, [])], [(0, ⟨[(0, []), (4, []), (5, [])], [(0, []), (4, [])]⟩), (2, ⟨[(4, []), (6, []), (7, []), (8, [])], [(4, []), (6, [])]⟩)], 39, false, none, false, none, false, none, false, false, none⟩),
 (96, ⟨[(2, [])], [], 6, false, none, false, none, false, none, false, false, none⟩),
 (97, ⟨[(2, [])], [], 2097177, false, none, false, none, false, none, false, false, none⟩),
 (98, ⟨[(2, [])], [], 4, false, none, false, none, false, none, false, false, none⟩),
 (99, ⟨[(2, [])], [], 8, false, none, false, none, false, none, false, false, none⟩),
 (100, ⟨[(2, [])], [], 8, false, none, false, none, false, none, false, false, none⟩),
 (101, ⟨[(0, [3])], [(0, ⟨[(0, [3]), (2, []), (4, []), (10, []), (11, [])], [(0, [3]), (2, []), (4, []), (10, [])]⟩)], 58, false, none, false, none, false, some 0, false, false, none⟩),
 (102, ⟨[(2, [])], [], 14, false, none, false, none, false, none, false, false, none⟩),
 (103, ⟨[(2, [])], [], 14, false, none, false, none, false, none, false, false, none⟩),
 (104, ⟨[(0, [3])], [(0, ⟨[(0, [3]), (1, []), (2, []), (3, []), (10, [])], [(0, [3])]⟩)], 38, false, none, false, none, false, some 0, false, false, none⟩),
 (129, ⟨[], [], 1048585, false, none, false, none, false, none, false, false, none⟩)]
theorem flOk : allFn Tryz.prog 0 fl := ⟨Tryz.func0, Tryz.func1, Tryz.func2, Tryz.func3, Tryz.func4, Tryz.func5, Tryz.func6, Tryz.func7, Tryz.func8, Tryz.func9, Tryz.func10, Tryz.func11, Tryz.func12, Tryz.func13, Tryz.func14, Tryz.func15, Tryz.func16, Tryz.func17, Tryz.func18, Tryz.func19, Tryz.func20, Tryz.func21, Tryz.func22, Tryz.func23, Tryz.func24, Tryz.func25, Tryz.func26, Tryz.func27, Tryz.func28, Tryz.func29, Tryz.func30, Tryz.func31, Tryz.func32, Tryz.func33, Tryz.func34, Tryz.func35, Tryz.func36, Tryz.func37, Tryz.func38, Tryz.func39, Tryz.func40, Tryz.func41, Tryz.func42, Tryz.func43, Tryz.func44, Tryz.func45, Tryz.func46, Tryz.func47, Tryz.func48, Tryz.func49, Tryz.func50, Tryz.func51, Tryz.func52, Tryz.func53, Tryz.func54, Tryz.func55, Tryz.func56, Tryz.func57, Tryz.func58, Tryz.func59, Tryz.func60, Tryz.func61, Tryz.func62, Tryz.func63, Tryz.func64, Tryz.func65, Tryz.func66, Tryz.func67, Tryz.func68, Tryz.func69, Tryz.func70, Tryz.func71, Tryz.func72, Tryz.func73, Tryz.func74, Tryz.func75, Tryz.func76, Tryz.func77, Tryz.func78, Tryz.func79, Tryz.func80, Tryz.func81, Tryz.func82, Tryz.func83, Tryz.func84, Tryz.func85, Tryz.func86, Tryz.func87, Tryz.func88, Tryz.func89, Tryz.func90, Tryz.func91, Tryz.func92, Tryz.func93, Tryz.func94, Tryz.func95, Tryz.func96, Tryz.func97, Tryz.func98, Tryz.func99, Tryz.func100, Tryz.func101, Tryz.func102, Tryz.func103, Tryz.func104, Tryz.func105, Tryz.func106, Tryz.func107, Tryz.func108, Tryz.func109, Tryz.func110, Tryz.func111, Tryz.func112, Tryz.func113, Tryz.func114, Tryz.func115, Tryz.func116, Tryz.func117, Tryz.func118, Tryz.func119, Tryz.func120, Tryz.func121, Tryz.func122, Tryz.func123, Tryz.func124, Tryz.func125, Tryz.func126, Tryz.func127, Tryz.func128, Tryz.func129, trivial⟩
theorem envLaid : laidOutB Tryz.prog = true := by kernel_rfl
noncomputable def E1 : Env := ⟨tt, fl, fi, [(65, prFmt)]⟩
theorem prOk_E1 : ∀ (f : Nat) (p : List V → Option V) (avs : List V) (r : V), find E1.pr f = some p → p avs = some r → FunOk Tryz.prog E1 f avs r := by
 intro f p avs r h hr
 unfold E1 at h
 try simp only [find] at h
 split at h
 ·rename_i hb
  obtain rfl := Nat.eq_of_beq_eq_true hb
  obtain rfl := Option.some.inj h
  exact prFmt_ok E1 hr
 cases h
theorem ttOk_E1 : allTy E1 Tryz.prog E1.tt := ⟨⟨by kernel_rfl, by kernel_rfl, by kernel_rfl⟩, ⟨by kernel_rfl, by kernel_rfl, by kernel_rfl⟩, ⟨by kernel_rfl, by kernel_rfl, by kernel_rfl⟩, ⟨by kernel_rfl, by kernel_rfl, by kernel_rfl⟩, ⟨by kernel_rfl, by kernel_rfl, by kernel_rfl⟩, ⟨by kernel_rfl, by kernel_rfl, by kernel_rfl⟩, ⟨by kernel_rfl, by kernel_rfl, by kernel_rfl⟩, ⟨by kernel_rfl, by kernel_rfl, by kernel_rfl⟩, ⟨by kernel_rfl, by kernel_rfl, by kernel_rfl⟩, ⟨by kernel_rfl, by kernel_rfl, by kernel_rfl⟩, ⟨by kernel_rfl, by kernel_rfl, by kernel_rfl⟩, ⟨by kernel_rfl, by kernel_rfl, by kernel_rfl⟩, ⟨by kernel_rfl, by kernel_rfl, by kernel_rfl⟩, ⟨by kernel_rfl, by kernel_rfl, by kernel_rfl⟩, ⟨by kernel_rfl, by kernel_rfl, by kernel_rfl⟩, ⟨by kernel_rfl, by kernel_rfl, by kernel_rfl⟩, ⟨by kernel_rfl, by kernel_rfl, by kernel_rfl⟩, ⟨by kernel_rfl, by kernel_rfl, by kernel_rfl⟩, ⟨by kernel_rfl, by kernel_rfl, by kernel_rfl⟩, ⟨by kernel_rfl, by kernel_rfl, by kernel_rfl⟩, ⟨by kernel_rfl, by kernel_rfl, by kernel_rfl⟩, ⟨by kernel_rfl, by kernel_rfl, by kernel_rfl⟩, ⟨by kernel_rfl, by kernel_rfl, by kernel_rfl⟩, ⟨by kernel_rfl, by kernel_rfl, by kernel_rfl⟩, ⟨by kernel_rfl, by kernel_rfl, by kernel_rfl⟩, ⟨by kernel_rfl, by kernel_rfl, by kernel_rfl⟩, ⟨by kernel_rfl, by kernel_rfl, by kernel_rfl⟩, ⟨by kernel_rfl, by kernel_rfl, by kernel_rfl⟩, ⟨by kernel_rfl, by kernel_rfl, by kernel_rfl⟩, ⟨by kernel_rfl, by kernel_rfl, by kernel_rfl⟩, ⟨by kernel_rfl, by kernel_rfl, by kernel_rfl⟩, ⟨by kernel_rfl, by kernel_rfl, by kernel_rfl⟩, ⟨by kernel_rfl, by kernel_rfl, by kernel_rfl⟩, ⟨by kernel_rfl, by kernel_rfl, by kernel_rfl⟩, ⟨by kernel_rfl, by kernel_rfl, by kernel_rfl⟩, ⟨by kernel_rfl, by kernel_rfl, by kernel_rfl⟩, ⟨by kernel_rfl, by kernel_rfl, by kernel_rfl⟩, ⟨by kernel_rfl, by kernel_rfl, by kernel_rfl⟩, ⟨by kernel_rfl, by kernel_rfl, by kernel_rfl⟩, ⟨by kernel_rfl, by kernel_rfl, by kernel_rfl⟩, ⟨by kernel_rfl, by kernel_rfl, by kernel_rfl⟩, trivial⟩
theorem envOk_E1 : EnvOk E1 Tryz.prog := env_okB envLaid ttOk_E1 flOk (Checked.mixed Tryz.checked) (by kernel_rfl) (fun g F ks hf hb => (noBw_ok (by kernel_rfl) hf hb).elim) prOk_E1
end Go.Proofs.YthdnamhilcjnhaaGreatDoor
namespace Go.Proofs.YthdnamhilcjnhaaGreatDoor
open Go
set_option linter.unusedVariables false
set_option linter.unusedSimpArgs false
set_option maxRecDepth 100000
set_option maxHeartbeats 4000000
theorem w1_strconv_FormatInt {n : Nat} {a0 a1 : Int} {z0 : ByteArray} (h : s_strconv_FormatInt n a0 a1 = some z0) : ∀ k, n + 1 ≤ k → sem E1 k 65 [V.int .i64 a0, V.int .i64 a1] = some (V.str z0) := by
 intro k hk
 obtain ⟨k, rfl⟩ : ∃ q, k = q + 1 := ⟨k - 1, by omega⟩
 unfold s_strconv_FormatInt at h
 show prFmt [V.int .i64 a0, V.int .i64 a1] = _
 show (match fmtQ a0 a1 with | some z => some (V.str z) | none => none) = _
 rw [h]
theorem w1_impl_dec_int8 {n : Nat} {a0 : Int} {z0 : ByteArray} (h : s_impl_dec_int8 n a0 = some z0) : ∀ k, n + 2 ≤ k → sem E1 k 45 [(V.int .i8 (a0))] = some (V.str z0) := by
 intro k hk
 obtain ⟨k, rfl⟩ : ∃ q, k = q + 1 := ⟨k - 1, by omega⟩
 unfold s_impl_dec_int8 at h
 obtain ⟨y1_0, q1, h⟩ := bnd_some h
 obtain rfl := Option.some.inj h
 refine pFun_by [.v (V.str y1_0)] rfl (AI (w1_strconv_FormatInt q1 k (by omega)) trivial) ?_
 kernel_rfl
theorem w1_impl_pieceText {n : Nat} {a0 : Int} {a1 : Int} {z0 : ByteArray} (h : s_impl_pieceText n a0 a1 = some z0) : ∀ k, n + 3 ≤ k → sem E1 k 26 [(V.parts [(V.int .i8 (a0)), (V.int .i8 (a1))])] = some (V.str z0) := by
 intro k hk
 obtain ⟨k, rfl⟩ : ∃ q, k = q + 1 := ⟨k - 1, by omega⟩
 unfold s_impl_pieceText at h
 obtain ⟨c1, h⟩ := chk_some h
 obtain ⟨c2, h⟩ := chk_some h
 obtain ⟨y3_0, q3, h⟩ := bnd_some h
 obtain ⟨c4, h⟩ := chk_some h
 obtain rfl := Option.some.inj h
 refine pFun_by [.v (V.str y3_0)] rfl (AI c1 (AI c2 (AI (w1_impl_dec_int8 q3 k (by omega)) (AI c4 trivial)))) ?_
 kernel_rfl
theorem w1_impl_within_int8 {n : Nat} {a0 : Int} {a1 : Int} {a2 : Int} {z0 : Bool} (h : s_impl_within_int8 n a0 a1 a2 = some z0) : ∀ k, n + 1 ≤ k → sem E1 k 44 [(V.int .i8 (a0)), (V.int .i8 (a1)), (V.int .i8 (a2))] = some (V.bool (z0)) := by
 intro k hk
 obtain ⟨k, rfl⟩ : ∃ q, k = q + 1 := ⟨k - 1, by omega⟩
 unfold s_impl_within_int8 at h
 rcases cnd_some h with ⟨h1, h⟩ | ⟨h1, h⟩
 ·obtain rfl := Option.some.inj h
  refine pFun_by [.b true] rfl (AI h1 trivial) ?_
  kernel_rfl
 ·obtain rfl := Option.some.inj h
  refine pFun_by [.b false] rfl (AI h1 trivial) ?_
  kernel_rfl
theorem w1_impl_isPiece {n : Nat} {a0 : Int} {a1 : Int} {z0 : Bool} (h : s_impl_isPiece n a0 a1 = some z0) : ∀ k, n + 2 ≤ k → sem E1 k 25 [(V.parts [(V.int .i8 (a0)), (V.int .i8 (a1))])] = some (V.bool (z0)) := by
 intro k hk
 obtain ⟨k, rfl⟩ : ∃ q, k = q + 1 := ⟨k - 1, by omega⟩
 unfold s_impl_isPiece at h
 obtain ⟨y1_0, q1, h⟩ := bnd_some h
 rcases cnd_some h with ⟨h2, h⟩ | ⟨h2, h⟩
 ·obtain ⟨y3_0, q3, h⟩ := bnd_some h
  obtain rfl := Option.some.inj h
  refine pFun_by [.v (V.bool (y1_0)), .b true, .v (V.bool (y3_0))] rfl (AI (w1_impl_within_int8 q1 k (by omega)) (AI h2 (AI (w1_impl_within_int8 q3 k (by omega)) trivial))) ?_
  kernel_rfl
 ·obtain rfl := Option.some.inj h
  refine pFun_by [.v (V.bool (y1_0)), .b false] rfl (AI (w1_impl_within_int8 q1 k (by omega)) (AI h2 trivial)) ?_
  kernel_rfl
theorem w1_impl_areAll_impl_Piece_1__isPiece {n : Nat} {a0 : Int} {a1 : Int} {z0 : Bool} (h : s_impl_areAll_impl_Piece_1__isPiece n a0 a1 = some z0) : ∀ k, n + 3 ≤ k → sem E1 k 69 [(V.parts [(V.int .i8 (a0)), (V.int .i8 (a1))]), (V.ref [(V.clo 25 [])] 0 (0) 1)] = some (V.bool (z0)) := by
 intro k hk
 obtain ⟨k, rfl⟩ : ∃ q, k = q + 1 := ⟨k - 1, by omega⟩
 unfold s_impl_areAll_impl_Piece_1__isPiece at h
 obtain ⟨y1_0, q1, h⟩ := bnd_some h
 obtain rfl := Option.some.inj h
 refine pFun_by [.v (V.bool (y1_0))] rfl (AI (w1_impl_isPiece q1 k (by omega)) trivial) ?_
 kernel_rfl
theorem lw1_ixPc_b0 : ∀ (n : Nat) (a0 : List V) (a1 : Int) (a2 : Int) (r : Sum (Unit) (Int)), l_ixPc_b0 n a0 a1 a2 = some r → ∀ k m, n + 3 ≤ k → n ≤ m → LB E1 81 0 k m ⟨[(0, (V.sl (a0))), (1, (V.clo 69 [(V.ref [(V.clo 25 [])] 0 (0) 1)])), (7, (V.int .i64 (a1))), (8, (V.int .i64 (a2)))], []⟩ = some (match r with | .inl _ => (.normal, ⟨[], []⟩) | .inr o0 => (.ret, ⟨[(4, (V.int .i64 (o0)))], []⟩)) := by
 intro n
 induction n with
 | zero => intro a0 a1 a2 r h; cases h
 | succ n ih =>
  intro a0 a1 a2 r h k m hk hm
  obtain ⟨m, rfl⟩ : ∃ q, m = q + 1 := ⟨m - 1, by omega⟩
  replace hk : n + 3 ≤ k := by omega
  unfold l_ixPc_b0 at h
  rcases cnd_some h with ⟨h1, h⟩ | ⟨h1, h⟩
  ·obtain ⟨⟨e2_0, e2_1⟩, g2, h⟩ := bnd_some h
   replace g2 := as_Pi8_i8Q_some g2
   obtain ⟨y3_0, q3, h⟩ := bnd_some h
   rcases cnd_some h with ⟨h4, h⟩ | ⟨h4, h⟩
   ·cases h
    refine pLast_by [.b true, .v (V.parts [(V.int .i8 (e2_0)), (V.int .i8 (e2_1))]), .v (V.bool (y3_0)), .b true] (AI h1 (AI g2 (AI (w1_impl_areAll_impl_Piece_1__isPiece q3 k (by omega)) (AI h4 trivial)))) ?_
    kernel_rfl
   ·refine pNext_by [.b true, .v (V.parts [(V.int .i8 (e2_0)), (V.int .i8 (e2_1))]), .v (V.bool (y3_0)), .b false] (AI h1 (AI g2 (AI (w1_impl_areAll_impl_Piece_1__isPiece q3 k (by omega)) (AI h4 trivial)))) (ih _ _ _ _ h k m hk (by omega)) ?_
    kernel_rfl
  ·cases h
   refine pLast_by [.b false] (AI h1 trivial) ?_
   kernel_rfl
theorem w1_ixPc {n : Nat} {a0 : List V} {z0 : Int} (h : s_ixPc n a0 = some z0) : ∀ k, n + 4 ≤ k → sem E1 k 81 [(V.sl (a0)), (V.clo 69 [(V.ref [(V.clo 25 [])] 0 (0) 1)])] = some (V.int .i64 (z0)) := by
 intro k hk
 obtain ⟨k, rfl⟩ : ∃ q, k = q + 1 := ⟨k - 1, by omega⟩
 unfold s_ixPc at h
 obtain ⟨w, l5, h⟩ := bnd_some h
 rcases w with ⟨⟩ | u6_0
 ·obtain rfl := Option.some.inj h
  refine pFun_by [.l .normal ⟨[], []⟩] rfl (AI (lw1_ixPc_b0 _ _ _ _ _ l5 k k (by omega) (by omega)) trivial) ?_
  kernel_rfl
 ·obtain rfl := Option.some.inj h
  refine pFun_by [.l .ret ⟨[(4, (V.int .i64 (u6_0)))], []⟩] rfl (AI (lw1_ixPc_b0 _ _ _ _ _ l5 k k (by omega) (by omega)) trivial) ?_
  kernel_rfl
theorem w1_cnPc {n : Nat} {a0 : List V} {z0 : Bool} (h : s_cnPc n a0 = some z0) : ∀ k, n + 5 ≤ k → sem E1 k 68 [(V.sl (a0)), (V.clo 69 [(V.ref [(V.clo 25 [])] 0 (0) 1)])] = some (V.bool (z0)) := by
 intro k hk
 obtain ⟨k, rfl⟩ : ∃ q, k = q + 1 := ⟨k - 1, by omega⟩
 unfold s_cnPc at h
 obtain ⟨y1_0, q1, h⟩ := bnd_some h
 obtain rfl := Option.some.inj h
 refine pFun_by [.v (V.int .i64 (y1_0))] rfl (AI (w1_ixPc q1 k (by omega)) trivial) ?_
 kernel_rfl
theorem w1_impl_areAll_impl_Piece__isPiece {n : Nat} {a0 : List V} {z0 : Bool} (h : s_impl_areAll_impl_Piece__isPiece n a0 = some z0) : ∀ k, n + 6 ≤ k → sem E1 k 48 [(V.sl (a0)), (V.clo 25 [])] = some (V.bool (z0)) := by
 intro k hk
 obtain ⟨k, rfl⟩ : ∃ q, k = q + 1 := ⟨k - 1, by omega⟩
 unfold s_impl_areAll_impl_Piece__isPiece at h
 obtain ⟨y1_0, q1, h⟩ := bnd_some h
 obtain rfl := Option.some.inj h
 refine pFun_by [.v (V.bool (y1_0))] rfl (AI (w1_cnPc q1 k (by omega)) (AI (Eq.refl true) trivial)) ?_
 kernel_rfl
theorem w1_impl_piecesCode_1 {n : Nat} {a0 : List V} {z0 : Bool} (h : s_impl_piecesCode_1 n a0 = some z0) : ∀ k, n + 7 ≤ k → sem E1 k 47 [(V.sl (a0))] = some (V.bool (z0)) := by
 intro k hk
 obtain ⟨k, rfl⟩ : ∃ q, k = q + 1 := ⟨k - 1, by omega⟩
 unfold s_impl_piecesCode_1 at h
 obtain ⟨y1_0, q1, h⟩ := bnd_some h
 obtain rfl := Option.some.inj h
 refine pFun_by [.v (V.bool (y1_0))] rfl (AI (w1_impl_areAll_impl_Piece__isPiece q1 k (by omega)) trivial) ?_
 kernel_rfl
theorem w1_impl_areAll_Simpl_Piece_1__piecesCode_1 {n : Nat} {a0 : List V} {z0 : Bool} (h : s_impl_areAll_Simpl_Piece_1__piecesCode_1 n a0 = some z0) : ∀ k, n + 8 ≤ k → sem E1 k 67 [(V.sl (a0)), (V.ref [(V.clo 47 [])] 0 (0) 1)] = some (V.bool (z0)) := by
 intro k hk
 obtain ⟨k, rfl⟩ : ∃ q, k = q + 1 := ⟨k - 1, by omega⟩
 unfold s_impl_areAll_Simpl_Piece_1__piecesCode_1 at h
 obtain ⟨y1_0, q1, h⟩ := bnd_some h
 obtain rfl := Option.some.inj h
 refine pFun_by [.v (V.bool (y1_0))] rfl (AI (w1_impl_piecesCode_1 q1 k (by omega)) trivial) ?_
 kernel_rfl
theorem lw1_ixPa_b0 : ∀ (n : Nat) (a0 : List V) (a1 : Int) (a2 : Int) (r : Sum (Unit) (Int)), l_ixPa_b0 n a0 a1 a2 = some r → ∀ k m, n + 8 ≤ k → n ≤ m → LB E1 80 0 k m ⟨[(0, (V.sl (a0))), (1, (V.clo 67 [(V.ref [(V.clo 47 [])] 0 (0) 1)])), (7, (V.int .i64 (a1))), (8, (V.int .i64 (a2)))], []⟩ = some (match r with | .inl _ => (.normal, ⟨[], []⟩) | .inr o0 => (.ret, ⟨[(4, (V.int .i64 (o0)))], []⟩)) := by
 intro n
 induction n with
 | zero => intro a0 a1 a2 r h; cases h
 | succ n ih =>
  intro a0 a1 a2 r h k m hk hm
  obtain ⟨m, rfl⟩ : ∃ q, m = q + 1 := ⟨m - 1, by omega⟩
  replace hk : n + 8 ≤ k := by omega
  unfold l_ixPa_b0 at h
  rcases cnd_some h with ⟨h1, h⟩ | ⟨h1, h⟩
  ·obtain ⟨e2_0, g2, h⟩ := bnd_some h
   replace g2 := as_LPi8_i8Q_some g2
   obtain ⟨y3_0, q3, h⟩ := bnd_some h
   rcases cnd_some h with ⟨h4, h⟩ | ⟨h4, h⟩
   ·cases h
    refine pLast_by [.b true, .v (V.sl (e2_0)), .v (V.bool (y3_0)), .b true] (AI h1 (AI g2 (AI (w1_impl_areAll_Simpl_Piece_1__piecesCode_1 q3 k (by omega)) (AI h4 trivial)))) ?_
    kernel_rfl
   ·refine pNext_by [.b true, .v (V.sl (e2_0)), .v (V.bool (y3_0)), .b false] (AI h1 (AI g2 (AI (w1_impl_areAll_Simpl_Piece_1__piecesCode_1 q3 k (by omega)) (AI h4 trivial)))) (ih _ _ _ _ h k m hk (by omega)) ?_
    kernel_rfl
  ·cases h
   refine pLast_by [.b false] (AI h1 trivial) ?_
   kernel_rfl
theorem w1_ixPa {n : Nat} {a0 : List V} {z0 : Int} (h : s_ixPa n a0 = some z0) : ∀ k, n + 9 ≤ k → sem E1 k 80 [(V.sl (a0)), (V.clo 67 [(V.ref [(V.clo 47 [])] 0 (0) 1)])] = some (V.int .i64 (z0)) := by
 intro k hk
 obtain ⟨k, rfl⟩ : ∃ q, k = q + 1 := ⟨k - 1, by omega⟩
 unfold s_ixPa at h
 obtain ⟨w, l5, h⟩ := bnd_some h
 rcases w with ⟨⟩ | u6_0
 ·obtain rfl := Option.some.inj h
  refine pFun_by [.l .normal ⟨[], []⟩] rfl (AI (lw1_ixPa_b0 _ _ _ _ _ l5 k k (by omega) (by omega)) trivial) ?_
  kernel_rfl
 ·obtain rfl := Option.some.inj h
  refine pFun_by [.l .ret ⟨[(4, (V.int .i64 (u6_0)))], []⟩] rfl (AI (lw1_ixPa_b0 _ _ _ _ _ l5 k k (by omega) (by omega)) trivial) ?_
  kernel_rfl
theorem w1_cnPa {n : Nat} {a0 : List V} {z0 : Bool} (h : s_cnPa n a0 = some z0) : ∀ k, n + 10 ≤ k → sem E1 k 66 [(V.sl (a0)), (V.clo 67 [(V.ref [(V.clo 47 [])] 0 (0) 1)])] = some (V.bool (z0)) := by
 intro k hk
 obtain ⟨k, rfl⟩ : ∃ q, k = q + 1 := ⟨k - 1, by omega⟩
 unfold s_cnPa at h
 obtain ⟨y1_0, q1, h⟩ := bnd_some h
 obtain rfl := Option.some.inj h
 refine pFun_by [.v (V.int .i64 (y1_0))] rfl (AI (w1_ixPa q1 k (by omega)) trivial) ?_
 kernel_rfl
theorem w1_impl_areAll_Simpl_Piece__piecesCode_1 {n : Nat} {a0 : List V} {z0 : Bool} (h : s_impl_areAll_Simpl_Piece__piecesCode_1 n a0 = some z0) : ∀ k, n + 11 ≤ k → sem E1 k 46 [(V.sl (a0)), (V.clo 47 [])] = some (V.bool (z0)) := by
 intro k hk
 obtain ⟨k, rfl⟩ : ∃ q, k = q + 1 := ⟨k - 1, by omega⟩
 unfold s_impl_areAll_Simpl_Piece__piecesCode_1 at h
 obtain ⟨y1_0, q1, h⟩ := bnd_some h
 obtain rfl := Option.some.inj h
 refine pFun_by [.v (V.bool (y1_0))] rfl (AI (w1_cnPa q1 k (by omega)) (AI (Eq.refl true) trivial)) ?_
 kernel_rfl
theorem w1_impl_piecesCode_2 {n : Nat} {a0 : List V} {z0 : Bool} (h : s_impl_piecesCode_2 n a0 = some z0) : ∀ k, n + 1 ≤ k → sem E1 k 49 [(V.sl (a0))] = some (V.bool (z0)) := by
 intro k hk
 obtain ⟨k, rfl⟩ : ∃ q, k = q + 1 := ⟨k - 1, by omega⟩
 unfold s_impl_piecesCode_2 at h
 obtain rfl := Option.some.inj h
 refine pFun_by [] rfl trivial ?_
 kernel_rfl
theorem w1_impl_areAll_Simpl_Piece_1__piecesCode_2 {n : Nat} {a0 : List V} {z0 : Bool} (h : s_impl_areAll_Simpl_Piece_1__piecesCode_2 n a0 = some z0) : ∀ k, n + 2 ≤ k → sem E1 k 67 [(V.sl (a0)), (V.ref [(V.clo 49 [])] 0 (0) 1)] = some (V.bool (z0)) := by
 intro k hk
 obtain ⟨k, rfl⟩ : ∃ q, k = q + 1 := ⟨k - 1, by omega⟩
 unfold s_impl_areAll_Simpl_Piece_1__piecesCode_2 at h
 obtain ⟨y1_0, q1, h⟩ := bnd_some h
 obtain rfl := Option.some.inj h
 refine pFun_by [.v (V.bool (y1_0))] rfl (AI (w1_impl_piecesCode_2 q1 k (by omega)) trivial) ?_
 kernel_rfl
theorem lw1_ixPb_b0 : ∀ (n : Nat) (a0 : List V) (a1 : Int) (a2 : Int) (r : Sum (Unit) (Int)), l_ixPb_b0 n a0 a1 a2 = some r → ∀ k m, n + 2 ≤ k → n ≤ m → LB E1 80 0 k m ⟨[(0, (V.sl (a0))), (1, (V.clo 67 [(V.ref [(V.clo 49 [])] 0 (0) 1)])), (7, (V.int .i64 (a1))), (8, (V.int .i64 (a2)))], []⟩ = some (match r with | .inl _ => (.normal, ⟨[], []⟩) | .inr o0 => (.ret, ⟨[(4, (V.int .i64 (o0)))], []⟩)) := by
 intro n
 induction n with
 | zero => intro a0 a1 a2 r h; cases h
 | succ n ih =>
  intro a0 a1 a2 r h k m hk hm
  obtain ⟨m, rfl⟩ : ∃ q, m = q + 1 := ⟨m - 1, by omega⟩
  replace hk : n + 2 ≤ k := by omega
  unfold l_ixPb_b0 at h
  rcases cnd_some h with ⟨h1, h⟩ | ⟨h1, h⟩
  ·obtain ⟨e2_0, g2, h⟩ := bnd_some h
   replace g2 := as_LPi8_i8Q_some g2
   obtain ⟨y3_0, q3, h⟩ := bnd_some h
   rcases cnd_some h with ⟨h4, h⟩ | ⟨h4, h⟩
   ·cases h
    refine pLast_by [.b true, .v (V.sl (e2_0)), .v (V.bool (y3_0)), .b true] (AI h1 (AI g2 (AI (w1_impl_areAll_Simpl_Piece_1__piecesCode_2 q3 k (by omega)) (AI h4 trivial)))) ?_
    kernel_rfl
   ·refine pNext_by [.b true, .v (V.sl (e2_0)), .v (V.bool (y3_0)), .b false] (AI h1 (AI g2 (AI (w1_impl_areAll_Simpl_Piece_1__piecesCode_2 q3 k (by omega)) (AI h4 trivial)))) (ih _ _ _ _ h k m hk (by omega)) ?_
    kernel_rfl
  ·cases h
   refine pLast_by [.b false] (AI h1 trivial) ?_
   kernel_rfl
theorem w1_ixPb {n : Nat} {a0 : List V} {z0 : Int} (h : s_ixPb n a0 = some z0) : ∀ k, n + 3 ≤ k → sem E1 k 80 [(V.sl (a0)), (V.clo 67 [(V.ref [(V.clo 49 [])] 0 (0) 1)])] = some (V.int .i64 (z0)) := by
 intro k hk
 obtain ⟨k, rfl⟩ : ∃ q, k = q + 1 := ⟨k - 1, by omega⟩
 unfold s_ixPb at h
 obtain ⟨w, l5, h⟩ := bnd_some h
 rcases w with ⟨⟩ | u6_0
 ·obtain rfl := Option.some.inj h
  refine pFun_by [.l .normal ⟨[], []⟩] rfl (AI (lw1_ixPb_b0 _ _ _ _ _ l5 k k (by omega) (by omega)) trivial) ?_
  kernel_rfl
 ·obtain rfl := Option.some.inj h
  refine pFun_by [.l .ret ⟨[(4, (V.int .i64 (u6_0)))], []⟩] rfl (AI (lw1_ixPb_b0 _ _ _ _ _ l5 k k (by omega) (by omega)) trivial) ?_
  kernel_rfl
theorem w1_cnPb {n : Nat} {a0 : List V} {z0 : Bool} (h : s_cnPb n a0 = some z0) : ∀ k, n + 4 ≤ k → sem E1 k 66 [(V.sl (a0)), (V.clo 67 [(V.ref [(V.clo 49 [])] 0 (0) 1)])] = some (V.bool (z0)) := by
 intro k hk
 obtain ⟨k, rfl⟩ : ∃ q, k = q + 1 := ⟨k - 1, by omega⟩
 unfold s_cnPb at h
 obtain ⟨y1_0, q1, h⟩ := bnd_some h
 obtain rfl := Option.some.inj h
 refine pFun_by [.v (V.int .i64 (y1_0))] rfl (AI (w1_ixPb q1 k (by omega)) trivial) ?_
 kernel_rfl
theorem w1_impl_areAll_Simpl_Piece__piecesCode_2 {n : Nat} {a0 : List V} {z0 : Bool} (h : s_impl_areAll_Simpl_Piece__piecesCode_2 n a0 = some z0) : ∀ k, n + 5 ≤ k → sem E1 k 46 [(V.sl (a0)), (V.clo 49 [])] = some (V.bool (z0)) := by
 intro k hk
 obtain ⟨k, rfl⟩ : ∃ q, k = q + 1 := ⟨k - 1, by omega⟩
 unfold s_impl_areAll_Simpl_Piece__piecesCode_2 at h
 obtain ⟨y1_0, q1, h⟩ := bnd_some h
 obtain rfl := Option.some.inj h
 refine pFun_by [.v (V.bool (y1_0))] rfl (AI (w1_cnPb q1 k (by omega)) (AI (Eq.refl true) trivial)) ?_
 kernel_rfl
theorem w1_impl_piecesCode {n : Nat} {a0 : List V} {z0 : Int} (h : s_impl_piecesCode n a0 = some z0) : ∀ k, n + 12 ≤ k → sem E1 k 27 [(V.sl (a0))] = some (V.int .i64 (z0)) := by
 intro k hk
 obtain ⟨k, rfl⟩ : ∃ q, k = q + 1 := ⟨k - 1, by omega⟩
 unfold s_impl_piecesCode at h
 obtain ⟨y1_0, q1, h⟩ := bnd_some h
 rcases cnd_some h with ⟨h2, h⟩ | ⟨h2, h⟩
 ·obtain ⟨y3_0, q3, h⟩ := bnd_some h
  rcases cnd_some h with ⟨h4, h⟩ | ⟨h4, h⟩
  ·obtain rfl := Option.some.inj h
   refine pFun_by [.v (V.bool (y1_0)), .b false, .v (V.bool (y3_0)), .b false] rfl (AI (w1_impl_areAll_Simpl_Piece__piecesCode_1 q1 k (by omega)) (AI (not_f h2) (AI (w1_impl_areAll_Simpl_Piece__piecesCode_2 q3 k (by omega)) (AI (not_f h4) trivial)))) ?_
   kernel_rfl
  ·obtain rfl := Option.some.inj h
   refine pFun_by [.v (V.bool (y1_0)), .b false, .v (V.bool (y3_0)), .b true] rfl (AI (w1_impl_areAll_Simpl_Piece__piecesCode_1 q1 k (by omega)) (AI (not_f h2) (AI (w1_impl_areAll_Simpl_Piece__piecesCode_2 q3 k (by omega)) (AI (not_t h4) trivial)))) ?_
   kernel_rfl
 ·obtain rfl := Option.some.inj h
  refine pFun_by [.v (V.bool (y1_0)), .b true] rfl (AI (w1_impl_areAll_Simpl_Piece__piecesCode_1 q1 k (by omega)) (AI (not_t h2) trivial)) ?_
  kernel_rfl
theorem lw1_impl_each_impl_Piece_string__pieceText_b0 : ∀ (n : Nat) (a0 : List V) (a1 : Int) (a2 : Int) (a3 : List V) (r : List V), l_impl_each_impl_Piece_string__pieceText_b0 n a0 a1 a2 a3 = some r → ∀ k m, n + 3 ≤ k → n ≤ m → LB E1 29 0 k m ⟨[(1, (V.clo 26 [])), (5, (V.row 11)), (8, (V.sl (a0))), (9, (V.int .i64 (a1))), (10, (V.int .i64 (a2)))], [(11, .row 9 (a3))]⟩ = some (match r with | o0 => (.normal, ⟨[(5, (V.row 11))], [(11, .row 9 (o0))]⟩)) := by
 intro n
 induction n with
 | zero => intro a0 a1 a2 a3 r h; cases h
 | succ n ih =>
  intro a0 a1 a2 a3 r h k m hk hm
  obtain ⟨m, rfl⟩ : ∃ q, m = q + 1 := ⟨m - 1, by omega⟩
  replace hk : n + 3 ≤ k := by omega
  unfold l_impl_each_impl_Piece_string__pieceText_b0 at h
  rcases cnd_some h with ⟨h1, h⟩ | ⟨h1, h⟩
  ·obtain ⟨⟨e2_0, e2_1⟩, g2, h⟩ := bnd_some h
   replace g2 := as_Pi8_i8Q_some g2
   obtain ⟨y3_0, q3, h⟩ := bnd_some h
   obtain ⟨c4, h⟩ := chk_some h
   refine pNext_by [.b true, .v (V.parts [(V.int .i8 (e2_0)), (V.int .i8 (e2_1))]), .v (V.str y3_0)] (AI h1 (AI g2 (AI (w1_impl_pieceText q3 k (by omega)) (AI c4 (AI (Eq.refl true) trivial))))) (ih _ _ _ _ _ h k m hk (by omega)) ?_
   kernel_rfl
  ·cases h
   refine pLast_by [.b false] (AI h1 trivial) ?_
   kernel_rfl
theorem w1_impl_each_impl_Piece_string__pieceText {n : Nat} {a0 : List V} {z0 : List V} (h : s_impl_each_impl_Piece_string__pieceText n a0 = some z0) : ∀ k, n + 4 ≤ k → sem E1 k 29 [(V.sl (a0)), (V.clo 26 [])] = some (V.fresh 9 (z0)) := by
 intro k hk
 obtain ⟨k, rfl⟩ : ∃ q, k = q + 1 := ⟨k - 1, by omega⟩
 unfold s_impl_each_impl_Piece_string__pieceText at h
 obtain ⟨u5_0, l5, h⟩ := bnd_some h
 obtain rfl := Option.some.inj h
 refine pFun_by [.l .normal ⟨[(5, (V.row 11))], [(11, .row 9 (u5_0))]⟩] rfl (AI (lw1_impl_each_impl_Piece_string__pieceText_b0 _ _ _ _ _ _ l5 k k (by omega) (by omega)) trivial) ?_
 kernel_rfl
theorem w1_spec_l00From {n : Nat} {a0 : List V} {z0 : List V} {z1 : Int} {z2 : Int} (h : s_spec_l00From n a0 = some (z0, z1, z2)) : ∀ k, n + 1 ≤ k → sem E1 k (bxBase + 20) [(V.sl (a0))] = some (V.ref [(V.sl (z0)), (V.int .i64 (z1)), (V.int .u64 (z2))] 0 (0) 3) := by
 intro k hk
 obtain ⟨k, rfl⟩ : ∃ q, k = q + 1 := ⟨k - 1, by omega⟩
 unfold s_spec_l00From at h
 simp only [Option.some.injEq, Prod.mk.injEq] at h
 obtain ⟨rfl, rfl, rfl⟩ := h
 refine pBx_by [] rfl rfl rfl rfl rfl trivial ?_
 kernel_rfl
theorem w1_pspec_l00Src_next {n : Nat} {a0 : List V} {a1 : Int} {a2 : Int} {z0 : Int} {z1 : List V} {z2 : Int} {z3 : Int} (h : s_pspec_l00Src_next n a0 a1 a2 = some (z0, z1, z2, z3)) : ∀ k, n + 1 ≤ k → sem E1 k (puBase + 41) [(V.ref [(V.sl (a0)), (V.int .i64 (a1)), (V.int .u64 (a2))] 0 (0) 3)] = some (V.tup [(V.int .i64 (z0)), (V.parts [(V.sl (z1)), (V.int .i64 (z2)), (V.int .u64 (z3))])]) := by
 intro k hk
 obtain ⟨k, rfl⟩ : ∃ q, k = q + 1 := ⟨k - 1, by omega⟩
 unfold s_pspec_l00Src_next at h
 rcases cnd_some h with ⟨h1, h⟩ | ⟨h1, h⟩
 ·obtain ⟨e2_0, g2, h⟩ := bnd_some h
  replace g2 := as_u8_some g2
  rcases cnd_some h with ⟨h3, h⟩ | ⟨h3, h⟩
  ·simp only [Option.some.injEq, Prod.mk.injEq] at h
   obtain ⟨rfl, rfl, rfl, rfl⟩ := h
   refine pPu_by [.b true, .v (V.int .u8 (e2_0)), .b true] rfl rfl (AI h1 (AI g2 (AI h3 trivial))) ?_
   kernel_rfl
  ·obtain ⟨c4, h⟩ := chk_some h
   simp only [Option.some.injEq, Prod.mk.injEq] at h
   obtain ⟨rfl, rfl, rfl, rfl⟩ := h
   refine pPu_by [.b true, .v (V.int .u8 (e2_0)), .b false] rfl rfl (AI h1 (AI g2 (AI h3 (AI c4 trivial)))) ?_
   kernel_rfl
 ·rcases cnd_some h with ⟨h5, h⟩ | ⟨h5, h⟩
  ·simp only [Option.some.injEq, Prod.mk.injEq] at h
   obtain ⟨rfl, rfl, rfl, rfl⟩ := h
   refine pPu_by [.b false, .b true] rfl rfl (AI h1 (AI h5 trivial)) ?_
   kernel_rfl
  ·obtain ⟨c6, h⟩ := chk_some h
   simp only [Option.some.injEq, Prod.mk.injEq] at h
   obtain ⟨rfl, rfl, rfl, rfl⟩ := h
   refine pPu_by [.b false, .b false] rfl rfl (AI h1 (AI h5 (AI c6 trivial))) ?_
   kernel_rfl
theorem w1_pspec_l00Src_pick {n : Nat} {a0 : List V} {a1 : Int} {a2 : Int} {a3 : Int} {z0 : Int} {z1 : List V} {z2 : Int} {z3 : Int} (h : s_pspec_l00Src_pick n a0 a1 a2 a3 = some (z0, z1, z2, z3)) : ∀ k, n + 2 ≤ k → sem E1 k (puBase + 21) [(V.ref [(V.sl (a0)), (V.int .i64 (a1)), (V.int .u64 (a2))] 0 (0) 3), (V.int .i64 (a3))] = some (V.tup [(V.int .i64 (z0)), (V.parts [(V.sl (z1)), (V.int .i64 (z2)), (V.int .u64 (z3))])]) := by
 intro k hk
 obtain ⟨k, rfl⟩ : ∃ q, k = q + 1 := ⟨k - 1, by omega⟩
 unfold s_pspec_l00Src_pick at h
 rcases cnd_some h with ⟨h1, h⟩ | ⟨h1, h⟩
 ·simp only [Option.some.injEq, Prod.mk.injEq] at h
  obtain ⟨rfl, rfl, rfl, rfl⟩ := h
  refine pPu_by [.b true] rfl rfl (AI h1 trivial) ?_
  kernel_rfl
 ·obtain ⟨⟨y2_0, y2_1, y2_2, y2_3⟩, q2, h⟩ := bnd_some h
  rcases cnd_some h with ⟨h3, h⟩ | ⟨h3, h⟩
  ·obtain ⟨⟨y4_0, y4_1, y4_2, y4_3⟩, q4, h⟩ := bnd_some h
   obtain ⟨c5, h⟩ := chk_some h
   simp only [Option.some.injEq, Prod.mk.injEq] at h
   obtain ⟨rfl, rfl, rfl, rfl⟩ := h
   refine pPu_by [.b false, .v (V.tup [(V.int .i64 (y2_0)), (V.parts [(V.sl (y2_1)), (V.int .i64 (y2_2)), (V.int .u64 (y2_3))])]), .b true, .v (V.tup [(V.int .i64 (y4_0)), (V.parts [(V.sl (y4_1)), (V.int .i64 (y4_2)), (V.int .u64 (y4_3))])])] rfl rfl (AI h1 (AI (w1_pspec_l00Src_next q2 k (by omega)) (AI h3 (AI (w1_pspec_l00Src_next q4 k (by omega)) (AI c5 trivial))))) ?_
   kernel_rfl
  ·obtain ⟨c6, h⟩ := chk_some h
   simp only [Option.some.injEq, Prod.mk.injEq] at h
   obtain ⟨rfl, rfl, rfl, rfl⟩ := h
   refine pPu_by [.b false, .v (V.tup [(V.int .i64 (y2_0)), (V.parts [(V.sl (y2_1)), (V.int .i64 (y2_2)), (V.int .u64 (y2_3))])]), .b false] rfl rfl (AI h1 (AI (w1_pspec_l00Src_next q2 k (by omega)) (AI h3 (AI c6 trivial)))) ?_
   kernel_rfl
theorem w1_pspec_l00Src_one {n : Nat} {a0 : List V} {a1 : Int} {a2 : Int} {a3 : Int} {z0 : Bool} {z1 : List V} {z2 : Int} {z3 : Int} (h : s_pspec_l00Src_one n a0 a1 a2 a3 = some (z0, z1, z2, z3)) : ∀ k, n + 3 ≤ k → sem E1 k (puBase + 22) [(V.ref [(V.sl (a0)), (V.int .i64 (a1)), (V.int .u64 (a2))] 0 (0) 3), (V.int .i64 (a3))] = some (V.tup [(V.bool (z0)), (V.parts [(V.sl (z1)), (V.int .i64 (z2)), (V.int .u64 (z3))])]) := by
 intro k hk
 obtain ⟨k, rfl⟩ : ∃ q, k = q + 1 := ⟨k - 1, by omega⟩
 unfold s_pspec_l00Src_one at h
 obtain ⟨⟨y1_0, y1_1, y1_2, y1_3⟩, q1, h⟩ := bnd_some h
 simp only [Option.some.injEq, Prod.mk.injEq] at h
 obtain ⟨rfl, rfl, rfl, rfl⟩ := h
 refine pPu_by [.v (V.tup [(V.int .i64 (y1_0)), (V.parts [(V.sl (y1_1)), (V.int .i64 (y1_2)), (V.int .u64 (y1_3))])])] rfl rfl (AI (w1_pspec_l00Src_pick q1 k (by omega)) trivial) ?_
 kernel_rfl
theorem lw1_spec_A2Pieces_b0 : ∀ (n : Nat) (a0 : Int) (a1 : List V) (a2 : Int) (a3 : Int) (a4 : List V) (r : List V), l_spec_A2Pieces_b0 n a0 a1 a2 a3 a4 = some r → ∀ k m, n + 3 ≤ k → n ≤ m → LB E1 5 0 k m ⟨[(3, (V.ptr 7 0 (0) 3)), (4, (V.row 9)), (5, (V.int .i64 (a0)))], [(7, .box [(V.sl (a1)), (V.int .i64 (a2)), (V.int .u64 (a3))]), (9, .row 45 (a4))]⟩ = some (match r with | o0 => (.normal, ⟨[(4, (V.row 9))], [(9, .row 45 (o0))]⟩)) := by
 intro n
 induction n with
 | zero => intro a0 a1 a2 a3 a4 r h; cases h
 | succ n ih =>
  intro a0 a1 a2 a3 a4 r h k m hk hm
  obtain ⟨m, rfl⟩ : ∃ q, m = q + 1 := ⟨m - 1, by omega⟩
  replace hk : n + 3 ≤ k := by omega
  unfold l_spec_A2Pieces_b0 at h
  rcases cnd_some h with ⟨h3, h⟩ | ⟨h3, h⟩
  ·obtain ⟨⟨y4_0, y4_1, y4_2, y4_3⟩, q4, h⟩ := bnd_some h
   obtain ⟨⟨y5_0, y5_1, y5_2, y5_3⟩, q5, h⟩ := bnd_some h
   obtain ⟨⟨y6_0, y6_1, y6_2, y6_3⟩, q6, h⟩ := bnd_some h
   rcases cnd_some h with ⟨h7, h⟩ | ⟨h7, h⟩
   ·obtain ⟨c8, h⟩ := chk_some h
    refine pNext_by [.b true, .v (V.tup [(V.int .i64 (y4_0)), (V.parts [(V.sl (y4_1)), (V.int .i64 (y4_2)), (V.int .u64 (y4_3))])]), .v (V.tup [(V.int .i64 (y5_0)), (V.parts [(V.sl (y5_1)), (V.int .i64 (y5_2)), (V.int .u64 (y5_3))])]), .v (V.tup [(V.bool (y6_0)), (V.parts [(V.sl (y6_1)), (V.int .i64 (y6_2)), (V.int .u64 (y6_3))])]), .b true] (AI h3 (AI (w1_pspec_l00Src_pick q4 k (by omega)) (AI (w1_pspec_l00Src_pick q5 k (by omega)) (AI (w1_pspec_l00Src_one q6 k (by omega)) (AI h7 (AI c8 (AI (Eq.refl true) trivial))))))) (ih _ _ _ _ _ _ h k m hk (by omega)) ?_
    kernel_rfl
   ·obtain ⟨c9, h⟩ := chk_some h
    refine pNext_by [.b true, .v (V.tup [(V.int .i64 (y4_0)), (V.parts [(V.sl (y4_1)), (V.int .i64 (y4_2)), (V.int .u64 (y4_3))])]), .v (V.tup [(V.int .i64 (y5_0)), (V.parts [(V.sl (y5_1)), (V.int .i64 (y5_2)), (V.int .u64 (y5_3))])]), .v (V.tup [(V.bool (y6_0)), (V.parts [(V.sl (y6_1)), (V.int .i64 (y6_2)), (V.int .u64 (y6_3))])]), .b false] (AI h3 (AI (w1_pspec_l00Src_pick q4 k (by omega)) (AI (w1_pspec_l00Src_pick q5 k (by omega)) (AI (w1_pspec_l00Src_one q6 k (by omega)) (AI h7 (AI c9 (AI (Eq.refl true) trivial))))))) (ih _ _ _ _ _ _ h k m hk (by omega)) ?_
    kernel_rfl
  ·cases h
   refine pLast_by [.b false] (AI h3 trivial) ?_
   kernel_rfl
theorem w1_spec_A2Pieces {n : Nat} {a0 : List V} {z0 : List V} (h : s_spec_A2Pieces n a0 = some z0) : ∀ k, n + 4 ≤ k → sem E1 k 5 [(V.sl (a0))] = some (V.fresh 45 (z0)) := by
 intro k hk
 obtain ⟨k, rfl⟩ : ∃ q, k = q + 1 := ⟨k - 1, by omega⟩
 unfold s_spec_A2Pieces at h
 obtain ⟨⟨y1_0, y1_1, y1_2⟩, q1, h⟩ := bnd_some h
 obtain ⟨⟨y2_0, y2_1, y2_2, y2_3⟩, q2, h⟩ := bnd_some h
 obtain ⟨u10_0, l10, h⟩ := bnd_some h
 obtain rfl := Option.some.inj h
 refine pFun_by [.v (V.ref [(V.sl (y1_0)), (V.int .i64 (y1_1)), (V.int .u64 (y1_2))] 0 (0) 3), .v (V.tup [(V.int .i64 (y2_0)), (V.parts [(V.sl (y2_1)), (V.int .i64 (y2_2)), (V.int .u64 (y2_3))])]), .l .normal ⟨[(4, (V.row 9))], [(9, .row 45 (u10_0))]⟩] rfl (AI (w1_spec_l00From q1 k (by omega)) (AI (w1_pspec_l00Src_pick q2 k (by omega)) (AI (lw1_spec_A2Pieces_b0 _ _ _ _ _ _ _ l10 k k (by omega) (by omega)) trivial))) ?_
 kernel_rfl
end Go.Proofs.YthdnamhilcjnhaaGreatDoor
namespace Go.Proofs.YthdnamhilcjnhaaGreatDoor
open Go Go.RowKit
set_option linter.unusedVariables false
set_option linter.unusedSimpArgs false
set_option maxRecDepth 100000
theorem pieceText_all : ∀ i : Fin 3, ∀ j : Fin 7, s_impl_pieceText 0 (i.val : Int) ((j.val : Int) + 1) = some (handS (i.val : Int) ++ digS ((j.val : Int) + 1)) := by decide +kernel
theorem pieceText_eq (a b : Int) (h : isP a b = true) : s_impl_pieceText 0 a b = some (handS a ++ digS b) := by
 simp only [isP, Bool.and_eq_true, decide_eq_true_eq] at h
 have := pieceText_all ⟨a.toNat, by omega⟩ ⟨(b - 1).toNat, by omega⟩
 have e1 : ((a.toNat : Nat) : Int) = a := by omega
 have e2 : (((b - 1).toNat : Nat) : Int) + 1 = b := by omega
 simp only [e1, e2] at this
 exact this
theorem below_of {w w' : World} (h : Kept (fun b => b < w.heap.size) w w') : Below w.heap.size w w' := ⟨h.os, h.tape, h.output, h.size, fun k hk => h.block k hk⟩
theorem pieceText_ok (a b : Int) (h : isP a b = true) (w : World) : Calls Tryz.prog 26 #[.agg #[.int .i8 a, .int .i8 b]] w fun e w' => e = .returned (.string (handS a ++ digS b)) ∧ Below w.heap.size w w' := by
 have h1 := w1_impl_pieceText (pieceText_eq a b h) _ (Nat.le_refl _)
 have h2 := ((sem_ok envOk_E1 _ _ _ _ h1).1 rfl).2 (fun _ => False) w [.agg #[.int .i8 a, .int .i8 b]] (fun _ h => h.elim) (by
  simp only [RFC, RF, RFL, aggOk]
  refine ⟨_, [], rfl, ⟨[.int .i8 a], [.int .i8 b], rfl, rfl, rfl, [.int .i8 b], [], rfl, rfl, rfl, rfl⟩, ⟨_, rfl⟩, rfl⟩)
 refine h2.mono fun e w' he => ?_
 cases e with
 | panicked chain => exact he.elim
 | outgrown => exact he.elim
 | returned u =>
  obtain ⟨σ', _, hr, hrt⟩ := he 0 rfl
  have hu : u = .string (handS a ++ digS b) := by
   have := hrt.2; simpa [RO1, RF, recv, recvP, recv1] using this
  exact ⟨by rw [hu], below_of hr.kept⟩
def prIdx : List V → Option V
 | [.str s, .int .u8 c] => some (.int .i64 (Lib.indexByte s.data.toList c.toNat.toUInt8))
 | _ => none
def prIsP : List V → Option V
 | [.parts [.int .i8 a, .int .i8 b]] => some (.bool (isP a b))
 | _ => none
def txtQ (a b : Int) : Option ByteArray := match isP a b with
 | true => some (handS a ++ digS b)
 | false => none
def prText : List V → Option V
 | [.parts [.int .i8 a, .int .i8 b]] => match txtQ a b with
  | some z => some (.str z)
  | none => none
 | _ => none
theorem RFC_pair {w : World} {ok : Nat → Prop} {k k' : IntKind} {a b : Int} {us : List Value} (h : RFC w ok [.parts [.int k a, .int k' b]] us) : us = [.agg #[.int k a, .int k' b]] := by
 simp only [RFC, RF, RFL, aggOk] at h
 obtain ⟨u, l, rfl, h1, ⟨cs, rfl⟩, rfl⟩ := h
 obtain ⟨x, y, h2, _, rfl, z, t, rfl, _, rfl, rfl⟩ := h1
 congr 2
 cases cs
 simpa [Value.cells] using h2
theorem prIdx_ok (E : Env) {avs : List V} {r : V} (h : prIdx avs = some r) : FunOk Tryz.prog E 24 avs r := by
 refine ⟨⟨_, Tryz.func24, by kernel_rfl⟩, fun no w us hno hus => ?_⟩
 unfold prIdx at h
 split at h
 ·rename_i s c
  simp only [Option.some.injEq] at h
  subst h
  obtain ⟨l1, e1, h1⟩ := RFC_str hus
  obtain ⟨l2, e2, h2⟩ := RFC_int h1
  have e3 := RFC_nil h2
  subst e3
  subst e2
  subst e1
  refine (Tryz.strings_IndexByte s c w).mono ?_
  rintro e w' ⟨rfl, rfl⟩
  exact res_int hno (Below.refl _ _)
 ·cases h
theorem prIsP_ok (E : Env) {avs : List V} {r : V} (h : prIsP avs = some r) : FunOk Tryz.prog E 25 avs r := by
 refine ⟨⟨_, Tryz.func25, by kernel_rfl⟩, fun no w us hno hus => ?_⟩
 unfold prIsP at h
 split at h
 ·rename_i a b
  simp only [Option.some.injEq] at h
  subst h
  obtain rfl := RFC_pair hus
  refine (isPiece_ok a b w).mono ?_
  rintro e w' ⟨rfl, hb⟩
  exact res_bool hno hb
 ·cases h
theorem prText_ok (E : Env) {avs : List V} {r : V} (h : prText avs = some r) : FunOk Tryz.prog E 26 avs r := by
 refine ⟨⟨_, Tryz.func26, by kernel_rfl⟩, fun no w us hno hus => ?_⟩
 unfold prText at h
 split at h
 ·rename_i a b
  split at h
  ·rename_i z hz
   simp only [Option.some.injEq] at h
   subst h
   obtain rfl := RFC_pair hus
   unfold txtQ at hz
   split at hz
   ·rename_i hp
    simp only [Option.some.injEq] at hz
    subst hz
    refine (pieceText_ok a b hp w).mono ?_
    rintro e w' ⟨rfl, hb⟩
    exact res_str hno hb
   ·cases hz
  ·cases h
 ·cases h
end Go.Proofs.YthdnamhilcjnhaaGreatDoor
namespace Go.Proofs.YthdnamhilcjnhaaGreatDoor
open Go Go.RowKit
set_option maxRecDepth 100000
set_option linter.unusedVariables false
noncomputable def E2 : Env := ⟨tt, fl, fi, [(24, prIdx), (25, prIsP), (26, prText), (65, prFmt)]⟩
theorem prOk_E2 : ∀ (f : Nat) (p : List V → Option V) (avs : List V) (r : V), find E2.pr f = some p → p avs = some r → FunOk Tryz.prog E2 f avs r := by
 intro f p avs r h hr
 unfold E2 at h
 try simp only [find] at h
 split at h
 ·rename_i hb
  obtain rfl := Nat.eq_of_beq_eq_true hb
  obtain rfl := Option.some.inj h
  exact prIdx_ok E2 hr
 try simp only [find] at h
 split at h
 ·rename_i hb
  obtain rfl := Nat.eq_of_beq_eq_true hb
  obtain rfl := Option.some.inj h
  exact prIsP_ok E2 hr
 try simp only [find] at h
 split at h
 ·rename_i hb
  obtain rfl := Nat.eq_of_beq_eq_true hb
  obtain rfl := Option.some.inj h
  exact prText_ok E2 hr
 try simp only [find] at h
 split at h
 ·rename_i hb
  obtain rfl := Nat.eq_of_beq_eq_true hb
  obtain rfl := Option.some.inj h
  exact prFmt_ok E2 hr
 cases h
theorem ttOk_E2 : allTy E2 Tryz.prog E2.tt := ⟨⟨by kernel_rfl, by kernel_rfl, by kernel_rfl⟩, ⟨by kernel_rfl, by kernel_rfl, by kernel_rfl⟩, ⟨by kernel_rfl, by kernel_rfl, by kernel_rfl⟩, ⟨by kernel_rfl, by kernel_rfl, by kernel_rfl⟩, ⟨by kernel_rfl, by kernel_rfl, by kernel_rfl⟩, ⟨by kernel_rfl, by kernel_rfl, by kernel_rfl⟩, ⟨by kernel_rfl, by kernel_rfl, by kernel_rfl⟩, ⟨by kernel_rfl, by kernel_rfl, by kernel_rfl⟩, ⟨by kernel_rfl, by kernel_rfl, by kernel_rfl⟩, ⟨by kernel_rfl, by kernel_rfl, by kernel_rfl⟩, ⟨by kernel_rfl, by kernel_rfl, by kernel_rfl⟩, ⟨by kernel_rfl, by kernel_rfl, by kernel_rfl⟩, ⟨by kernel_rfl, by kernel_rfl, by kernel_rfl⟩, ⟨by kernel_rfl, by kernel_rfl, by kernel_rfl⟩, ⟨by kernel_rfl, by kernel_rfl, by kernel_rfl⟩, ⟨by kernel_rfl, by kernel_rfl, by kernel_rfl⟩, ⟨by kernel_rfl, by kernel_rfl, by kernel_rfl⟩, ⟨by kernel_rfl, by kernel_rfl, by kernel_rfl⟩, ⟨by kernel_rfl, by kernel_rfl, by kernel_rfl⟩, ⟨by kernel_rfl, by kernel_rfl, by kernel_rfl⟩, ⟨by kernel_rfl, by kernel_rfl, by kernel_rfl⟩, ⟨by kernel_rfl, by kernel_rfl, by kernel_rfl⟩, ⟨by kernel_rfl, by kernel_rfl, by kernel_rfl⟩, ⟨by kernel_rfl, by kernel_rfl, by kernel_rfl⟩, ⟨by kernel_rfl, by kernel_rfl, by kernel_rfl⟩, ⟨by kernel_rfl, by kernel_rfl, by kernel_rfl⟩, ⟨by kernel_rfl, by kernel_rfl, by kernel_rfl⟩, ⟨by kernel_rfl, by kernel_rfl, by kernel_rfl⟩, ⟨by kernel_rfl, by kernel_rfl, by kernel_rfl⟩, ⟨by kernel_rfl, by kernel_rfl, by kernel_rfl⟩, ⟨by kernel_rfl, by kernel_rfl, by kernel_rfl⟩, ⟨by kernel_rfl, by kernel_rfl, by kernel_rfl⟩, ⟨by kernel_rfl, by kernel_rfl, by kernel_rfl⟩, ⟨by kernel_rfl, by kernel_rfl, by kernel_rfl⟩, ⟨by kernel_rfl, by kernel_rfl, by kernel_rfl⟩, ⟨by kernel_rfl, by kernel_rfl, by kernel_rfl⟩, ⟨by kernel_rfl, by kernel_rfl, by kernel_rfl⟩, ⟨by kernel_rfl, by kernel_rfl, by kernel_rfl⟩, ⟨by kernel_rfl, by kernel_rfl, by kernel_rfl⟩, ⟨by kernel_rfl, by kernel_rfl, by kernel_rfl⟩, ⟨by kernel_rfl, by kernel_rfl, by kernel_rfl⟩, trivial⟩
theorem envOk_E2 : EnvOk E2 Tryz.prog := env_okB envLaid ttOk_E2 flOk (Checked.mixed Tryz.checked) (by kernel_rfl) (fun g F ks hf hb => (noBw_ok (by kernel_rfl) hf hb).elim) prOk_E2
end Go.Proofs.YthdnamhilcjnhaaGreatDoor
namespace Go.Proofs.YthdnamhilcjnhaaGreatDoor
open Go Go.RowKit Go.Shelf
set_option linter.unusedVariables false
set_option linter.unusedSimpArgs false
attribute [local go_sem] Oper.semAt_some
def cellsP (acc : List (Int × Int)) : List Value := acc.flatMap fun p => [.int .i8 p.1, .int .i8 p.2]
theorem wordsOf_none : ∀ {l : List UInt8}, Lib.indexByte l 32 = -1 → wordsOf l = [l]
 | [], _ => rfl
 | b :: l, h => by
  unfold Lib.indexByte at h
  split at h
  ·cases h
  ·rename_i hb
   have h1 : Lib.indexByte l 32 = -1 := by
    have := indexByte_lt 32 l
    split at h
    ·rename_i h2; simpa using h2
    ·omega
   unfold wordsOf
   have hb2 : (b == 32) = false := by simpa using hb
   rw [hb2, wordsOf_none h1]
theorem wordsOf_idx : ∀ {l : List UInt8} {i : Nat}, Lib.indexByte l 32 = (i : Int) → wordsOf l = l.take i :: wordsOf (l.drop (i + 1))
 | [], i, h => by simp [Lib.indexByte] at h
 | b :: l, i, h => by
  have hl := indexByte_lt 32 l
  unfold Lib.indexByte at h
  split at h
  ·rename_i hb
   obtain rfl : i = 0 := by omega
   conv => lhs; unfold wordsOf
   rw [hb]
   rfl
  ·rename_i hb
   have hb2 : (b == 32) = false := by simpa using hb
   split at h
   ·exfalso; omega
   ·rename_i hn
    have hn : Lib.indexByte l 32 ≠ -1 := by simpa using hn
    obtain ⟨j, rfl⟩ : ∃ j, i = j + 1 := ⟨i - 1, by omega⟩
    have h1 := wordsOf_idx (l := l) (i := j) (by omega)
    conv => lhs; unfold wordsOf
    rw [hb2, h1]
    simp
theorem ownsRow_slice {W : World} {base : Nat} {e : TypeId} {size : Nat} {v : Value} {k : Nat} {xs : List Value} (h : W.ownsRow base e size v k xs) : ∃ A cap, v = .slice A k cap := by
 rcases h.2 with ⟨rfl, rfl⟩ | ⟨g, cap, _, rfl, _⟩
 ·exact ⟨_, _, rfl⟩
 ·exact ⟨_, _, rfl⟩
theorem grown_set {W W' : World} {row : Option Nat} {B : Nat} {t : TypeId} {u : Value} (v : Value) (hb : Boxed W B t u) (hg : W.grownBy W' row) (hne : some B ≠ row) : (W.setCell ⟨B, 0, none⟩ v).grownBy (W'.setCell ⟨B, 0, none⟩ v) row := by
 have sz : ∀ X : World, (X.setCell ⟨B, 0, none⟩ v).heap.size = X.heap.size := fun X => by simp [World.setCell]
 refine ⟨hg.os, hg.tape, hg.output, by rw [sz, sz]; exact hg.size, fun k hk hkr => ?_⟩
 rw [sz] at hk
 by_cases e : k = B
 ·subst e
  exact ((hb.kept hg hne).set v).trans (hb.set v).symm
 ·rw [Below.heap_setCell _ _ _ k (fun h => e (by simpa using h)), Below.heap_setCell _ _ _ k (fun h => e (by simpa using h))]
  exact hg.block k hk hkr
theorem wpIn_split {assign body : Code} {Q : Exit → Act → World → Prop} {a : Act} {w : World} {g : Operand} {p : Tmp} {m Bs Bp Bv : Nat} {r0 : ByteArray}
 (hg : a.eval g = .func (.func 61) #[] #[.pointer (some ⟨Bp, 0, none⟩), .pointer (some ⟨Bs, 0, none⟩), .pointer (some ⟨Bv, 0, none⟩)])
 (I : ByteArray → World → Prop) (Id Ix : World → Prop)
 (hread : ∀ r W, I r W → r.size ≤ 1048576 ∧ Boxed W Bs 9 (.string r) ∧ Boxed W Bp 9 (.string ⟨#[32]⟩) ∧ Boxed W Bv 3 (.int .i64 0))
 (hI : OwnFrom w.heap.size I) (hId : OwnFrom w.heap.size (fun (_ : Unit) W => Id W)) (hIx : OwnFrom w.heap.size (fun (_ : Unit) W => Ix W)) (h0 : I r0 w) (hBs : Bs < w.heap.size) (a1 : ByteArray → Act)
 (hassign : ∀ (l : Nat) (x : ByteArray) (W : World) (K : Act → World → Prop), K (a1 x) W → assign.wpIn (Fence.wide.inRound l) m Tryz.prog (Exit.then K (fun _ _ _ => False)) { tmps := a.tmps.setIfInBounds p (.string x), defers := [] } W)
 (hbody : ∀ (l : Nat) (r : ByteArray) (i : Nat) (W : World), w.heap.size ≤ l → I r W → Lib.indexByte r.data.toList 32 = (i : Int) → body.wpIn (Fence.wide.inRound l) m Tryz.prog (fun e _ W' => match e with
  | .normal => KeepsFrom w.heap.size W W' ∧ (Boxed W' Bs 9 (.string r) ∧ Boxed W' Bp 9 (.string ⟨#[32]⟩)) ∧ I (r.extract (i + 1) r.size) (W'.setCell ⟨Bs, 0, none⟩ (.string (r.extract (i + 1) r.size)))
  | .ret => KeepsFrom w.heap.size W W' ∧ Ix W'
  | _ => False) (a1 (r.extract 0 i)) W)
 (hlast : ∀ (l : Nat) (r : ByteArray) (W : World), w.heap.size ≤ l → I r W → Lib.indexByte r.data.toList 32 = -1 → body.wpIn (Fence.wide.inRound l) m Tryz.prog (fun e _ W' => match e with
  | .normal => KeepsFrom w.heap.size W W' ∧ Id W'
  | .ret => KeepsFrom w.heap.size W W' ∧ Ix W'
  | _ => False) (a1 r) W)
 (hdone : ∀ (W : World), Id W → W.heap[w.heap.size]? = some (.deferred (some [])) → Q .normal { a with defers := { target := .collected w.heap.size, args := #[] } :: a.defers } W)
 (hstop : ∀ (W : World), Ix W → W.heap[w.heap.size]? = some (.deferred (some [])) → Code.ret.wpIn Fence.wide (m + 2) Tryz.prog Q { a with defers := { target := .collected w.heap.size, args := #[] } :: a.defers } W) :
 (Code.rangeFunc g #[p] assign body).wpIn Fence.wide (m + 2) Tryz.prog Q a w := by
 refine wpIn_rangeFunc fun fn _ => ?_
 obtain ⟨rec, hrec⟩ : ∃ rec : LoopState → Option Code → Loop, rec = fun st pe => { state := st, pending := pe, fn, tmps := a.tmps, params := #[p], assign, body, defers := w.heap.size } := ⟨_, rfl⟩
 obtain ⟨D, hD⟩ : ∃ D, w.heap.size = D := ⟨_, rfl⟩
 obtain ⟨W1, hW1⟩ : ∃ W1, (w.alloc (.deferred (some []))).alloc (.loop (rec .ready none)) = W1 := ⟨_, rfl⟩
 have hl1 : W1.heap[D + 1]? = some (.loop (rec .ready none)) := by
  rw [← hW1, ← hD]; have := World.alloc_heap_new (w.alloc (.deferred (some []))) (.loop (rec .ready none)); rwa [World.size_alloc] at this
 have hd1 : W1.heap[D]? = some (.deferred (some [])) := by
  rw [← hW1, ← hD]; exact (Below.heap_alloc _ _ _ (by simp)).trans (World.alloc_heap_new w _)
 have hi1 : I r0 W1 := by rw [← hW1]; exact hI.alloc _ (hI.alloc _ h0)
 rw [hD] at hI hId hIx hbody hlast hdone hstop hBs
 have round : ∀ (x : ByteArray) (W : World) (R : Ending → World → Prop) (Id' : World → Prop), W.heap[D + 1]? = some (.loop (rec .ready none)) → W.heap[D]? = some (.deferred (some [])) →
  (∀ W', W'.heap[D + 1]? = some (.loop (rec .ready none)) → W'.heap[D]? = some (.deferred (some [])) → Id' W' → R (.returned (.bool true)) W') →
  (∀ W', W'.heap[D + 1]? = some (.loop (rec .done (some .ret))) → W'.heap[D]? = some (.deferred (some [])) → Ix W' → R (.returned (.bool false)) W') →
  OwnFrom D (fun (_ : Unit) W => Id' W) →
  (∀ W2, W2.heap[D + 1]? = some (.loop { rec .ready none with state := .busy }) → W2 = W.putObj (D + 1) (.loop { rec .ready none with state := .busy }) → body.wpIn (Fence.wide.inRound (D + 1)) m Tryz.prog (fun e _ W' => match e with
   | .normal => KeepsFrom D W2 W' ∧ Id' W'
   | .ret => KeepsFrom D W2 W' ∧ Ix W'
   | _ => False) (a1 x) W2) →
  YieldAt Fence.wide m Tryz.prog (D + 1) #[.string x] W R := by
  intro x W R Id' hl hk hT hF hId' hb
  have hlt : D + 1 < W.heap.size := (Array.getElem?_eq_some_iff.1 hl).1
  have hy := run_yield (P := Tryz.prog) (args := #[.string x]) hl (by rw [hrec]; rfl)
  rw [hrec] at hy
  refine ⟨fn, _, assign, body, hy, roundIn_of_wpIn trivial ?_⟩
  refine Eq.subst (motive := fun t => Code.wpIn (Fence.wide.inRound (D + 1)) m Tryz.prog assign _ { tmps := t, defers := [] } W) (?_ : a.tmps.setIfInBounds p (.string x) = _) (hassign (D + 1) x W _ ?_)
  ·simp
  refine ⟨_, run_beginRound hl (by rw [hrec]), ?_⟩
  have hl2 : (W.putObj (D + 1) (.loop { rec .ready none with state := .busy })).heap[D + 1]? = some (.loop { rec .ready none with state := .busy }) := World.putObj_heap_same hlt
  have hk2 : (W.putObj (D + 1) (.loop { rec .ready none with state := .busy })).heap[D]? = some (.deferred (some [])) := (World.putObj_heap_other (by omega)).trans hk
  refine wpIn_mono (hb _ hl2 rfl) ?_
  rintro e a3 W3 hp
  have fin : ∀ (jump : Option Code), KeepsFrom D (W.putObj (D + 1) (.loop { rec .ready none with state := .busy })) W3 →
   W3.heap[D + 1]? = some (.loop { rec .ready none with state := .busy }) ∧
   (Instr.endRound (D + 1) jump).run Tryz.prog W3 = .ok (.bool jump.isNone) (W3.putObj (D + 1) (.loop (rec (if jump.isNone then .ready else .done) jump))) ∧
   (W3.putObj (D + 1) (.loop (rec (if jump.isNone then .ready else .done) jump))).heap[D + 1]? = some (.loop (rec (if jump.isNone then .ready else .done) jump)) ∧
   (W3.putObj (D + 1) (.loop (rec (if jump.isNone then .ready else .done) jump))).heap[D]? = some (.deferred (some [])) := fun jump hk3 => by
   have hl3 := hk3.same _ _ (by omega) hl2 rfl
   have := run_endRound (P := Tryz.prog) jump hl3
   rw [hrec] at this ⊢
   refine ⟨by rw [hrec] at hl3; exact hl3, this, World.putObj_heap_same (Array.getElem?_eq_some_iff.1 hl3).1, (World.putObj_heap_other (by omega)).trans (hk3.same _ _ (Nat.le_refl _) hk2 rfl)⟩
  cases e with
  | normal =>
   obtain ⟨hk3, hi3⟩ := hp
   obtain ⟨hl3, hr, hl4, hk4⟩ := fin none hk3
   exact ⟨_, _, hr, hT _ hl4 hk4 (hId'.putObj (s := ()) _ hi3 (by omega) hl3 rfl)⟩
  | ret =>
   obtain ⟨hk3, hi3⟩ := hp
   obtain ⟨hl3, hr, hl4, hk4⟩ := fin (some .ret) hk3
   exact ⟨_, _, hr, hF _ hl4 hk4 (hIx.putObj (s := ()) _ hi3 (by omega) hl3 rfl)⟩
  | exit id => exact hp.elim
  | goto t => exact hp.elim
  | panic ch => exact hp.elim
  | outgrown => exact hp.elim
 refine ⟨D + 1, [{ target := .collected D, args := #[] }], W1, { target := .fn (.func 61) #[.pointer (some ⟨Bp, 0, none⟩), .pointer (some ⟨Bs, 0, none⟩), .pointer (some ⟨Bv, 0, none⟩)], args := #[.func (.yield (D + 1)) #[] #[]] }, W1, 61,
  #[.func (.yield (D + 1)) #[] #[]] ++ #[.pointer (some ⟨Bp, 0, none⟩), .pointer (some ⟨Bs, 0, none⟩), .pointer (some ⟨Bv, 0, none⟩)], W1, ?_, ?_, fun _ _ => trivial, ?_, fun h => (by cases h), ?_⟩
 ·rw [← hW1, hrec, ← hD]; exact run_enterLoop_outer _ _ _ _ _
 ·simp only [resolve, hg]
  simp [go_sem]
 ·simp [invoke, go_sem, enters_of Tryz.func61 (by kernel_rfl) rfl]
 ·have set2 : ∀ (W : World) (v : Value), (W.heap[D + 1]? = some (.loop (rec .ready none)) → (W.setCell ⟨Bs, 0, none⟩ v).heap[D + 1]? = some (.loop (rec .ready none))) ∧ (W.heap[D]? = some (.deferred (some [])) → (W.setCell ⟨Bs, 0, none⟩ v).heap[D]? = some (.deferred (some []))) :=
   fun W v => ⟨fun h => (Below.heap_setCell _ _ _ _ (by simp; omega)).trans h, fun h => (Below.heap_setCell _ _ _ _ (by simp; omega)).trans h⟩
  refine (split_in m (D + 1) Bs Bp Bv (fun r W => I r W ∧ W.heap[D + 1]? = some (.loop (rec .ready none)) ∧ W.heap[D]? = some (.deferred (some [])))
   (fun W => Id W ∧ W.heap[D + 1]? = some (.loop (rec .ready none)) ∧ W.heap[D]? = some (.deferred (some [])))
   (fun W => Ix W ∧ W.heap[D + 1]? = some (.loop (rec .done (some .ret))) ∧ W.heap[D]? = some (.deferred (some []))) W1 r0 (fun r W h => hread r W h.1) ?_ ?_ ⟨hi1, hl1, hd1⟩).mono ?_
  ·rintro r W i ⟨hi, hl, hk⟩ hc
   refine round _ W _ (fun W' => (Boxed W' Bs 9 (.string r) ∧ Boxed W' Bp 9 (.string ⟨#[32]⟩)) ∧ I (r.extract (i + 1) r.size) (W'.setCell ⟨Bs, 0, none⟩ (.string (r.extract (i + 1) r.size)))) hl hk
    (fun W' hl' hk' hp => .inl ⟨rfl, hp.1, hp.2, (set2 _ _).1 hl', (set2 _ _).2 hk'⟩) (fun W' hl' hk' hp => .inr ⟨rfl, hp, hl', hk'⟩) ?_ ?_
   ·rintro _ X Y row ⟨⟨x1, x2⟩, x3⟩ hg' hr
    have nb : ∀ {B : Nat} {t : TypeId} {u : Value}, Boxed X B t u → some B ≠ row := fun hb e => by
     obtain ⟨_, o, ho, hc⟩ := hr _ e.symm
     rw [show X.heap[_]? = _ from hb] at ho; cases ho; cases hc
    refine ⟨⟨x1.kept hg' (nb x1), x2.kept hg' (nb x2)⟩, hI _ _ _ row x3 (grown_set _ x1 hg' (nb x1)) fun r' e => ?_⟩
    obtain ⟨q1, o, q2, q3⟩ := hr r' e
    exact ⟨q1, o, (Below.heap_setCell _ _ _ r' (fun h => nb x1 (by rw [e]; simpa using h.symm))).trans q2, q3⟩
   ·intro W2 hl2 hW2
    exact hbody (D + 1) r i W2 (by omega) (by rw [hW2]; exact hI.putObj _ hi (by omega) hl rfl) hc
  ·rintro r W ⟨hi, hl, hk⟩ hc
   refine round _ W _ Id hl hk (fun W' hl' hk' hp => .inl ⟨rfl, hp, hl', hk'⟩) (fun W' hl' hk' hp => .inr ⟨rfl, hp, hl', hk'⟩) hId ?_
   intro W2 hl2 hW2
   exact hlast (D + 1) r W2 (by omega) (by rw [hW2]; exact hI.putObj _ hi (by omega) hl rfl) hc
  ·rintro e W2 ⟨⟨v, rfl⟩, (⟨hi, hl, hk⟩ | ⟨hi, hl, hk⟩)⟩
   ·exact ⟨none, _, by have := run_endLoop (P := Tryz.prog) hl (by rw [hrec]; simp); rw [hrec] at this; exact this, by rw [hD]; exact hdone _ (hId.putObj (s := ()) _ hi (by omega) hl rfl) ((World.putObj_heap_other (by omega)).trans hk)⟩
   ·exact ⟨some .ret, _, by have := run_endLoop (P := Tryz.prog) hl (by rw [hrec]; simp); rw [hrec] at this; exact this, by rw [hD]; exact hstop _ (hIx.putObj (s := ()) _ hi (by omega) hl rfl) ((World.putObj_heap_other (by omega)).trans hk)⟩
end Go.Proofs.YthdnamhilcjnhaaGreatDoor
namespace Go.Proofs.YthdnamhilcjnhaaGreatDoor
open Go Go.RowKit
set_option linter.unusedVariables false
set_option linter.unusedSimpArgs false
def ndOp (S : List Nat) (o : Oper) : Bool := (match o.op with
 | .defer _ => false
 | _ => true) && (match o.dst with
 | some d => !natMem d S
 | none => true)
def ndOps (S : List Nat) : List Oper → Bool
 | [] => true
 | o :: l => ndOp S o && ndOps S l
theorem ndOps_get {S : List Nat} : ∀ {l : List Oper} {i : Nat} {o : Oper}, ndOps S l = true → l[i]? = some o → ndOp S o = true
 | [], _, _, _, h => by simp at h
 | x :: l, 0, o, h, e => by
  simp only [ndOps, Bool.and_eq_true] at h
  simp only [List.getElem?_cons_zero, Option.some.injEq] at e
  subst e
  exact h.1
 | x :: l, i + 1, o, h, e => by
  simp only [ndOps, Bool.and_eq_true] at h
  exact ndOps_get h.2 (by simpa using e)
def flat (S : List Nat) : Code → Bool
 | .skip => true
 | .region _ os _ => ndOps S os.toList
 | .seq c d => flat S c && flat S d
 | .cond _ c d => flat S c && flat S d
 | .block _ c => flat S c
 | .exit _ => true
 | .ret => true
 | _ => false
def Fr (S : List Nat) (a a' : Act) : Prop := ∀ t, natMem t S = true → a'.tmps.getD t undef = a.tmps.getD t undef
theorem Fr.refl (S : List Nat) (a : Act) : Fr S a a := fun _ _ => rfl
theorem Fr.put {S : List Nat} {a a' : Act} {o : Oper} (h : Fr S a a') (hn : ndOp S o = true) (v : Value) : Fr S a (a'.put o.dst v) := by
 intro t ht
 rw [← h t ht]
 unfold ndOp at hn
 simp only [Bool.and_eq_true] at hn
 have h2 := hn.2
 cases hd : o.dst with
 | none => rfl
 | some d =>
  rw [hd] at h2
  simp only [Bool.not_eq_true'] at h2
  exact getD_put_ne (fun e => by rw [Option.some.inj e, ht] at h2; cases h2)
def QF (S : List Nat) (a0 : Act) (Q : Exit → Act → World → Prop) : Exit → Act → World → Prop := fun e a w => Q e a w ∧ Fr S a0 a
theorem op_in {S : List Nat} {l n : Nat} {P : Program} {o : Oper} {a a0 : Act} {w : World} {K K' : Act → World → Prop} {Q : Exit → Act → World → Prop} (hQ : ¬ LetsOut Q) (hn : ndOp S o = true) (hf : Fr S a0 a) (hK : ∀ a w, K a w → Fr S a0 a → K' a w) (h : o.wp P a w K Q ∨ (o.asks P a w ∧ LetsOut Q)) : o.wpIn (Fence.wide.inRound l) n P a w K' (QF S a0 Q) := by
 have hd : ∀ c, o.op ≠ .defer c := fun c e => by unfold ndOp at hn; rw [e] at hn; simp at hn
 rcases h with h | h
 ·refine ⟨fun _ _ => trivial, ?_⟩
  rw [Oper.semAt_eq _ _ _ hd]
  unfold Oper.wp at h
  revert h
  generalize (execOp a.eval o).run P w = r
  intro h
  have hdep : (Fence.wide.inRound l).depth.isSome = true → 1 ≤ n := fun h => by cases h
  cases r with
  | ok x w' =>
   cases x with
   | value v => exact hK _ _ h (hf.put hn v)
   | skip => exact hK _ _ h (hf.put hn undef)
   | defer d => exact hK _ _ h (Fr.put (a' := { a with defers := d :: a.defers }) hf hn undef)
   | enter f args =>
    refine ⟨hdep, ?_⟩
    have h1 : CallsIn Fence.wide (n - 1) P f args w' _ := callsIn_wide.2 h
    have h2 : CallsIn (Fence.wide.inRound l) (n - 1) P f args w' _ := ⟨trivial, fun cs hr => h1.2 cs (room_wide _)⟩
    refine CallsIn.mono h2 fun e w'' he => ?_
    cases e with
    | returned v => exact hK _ _ he (hf.put hn v)
    | panicked chain => exact ⟨he, hf⟩
    | outgrown => exact absurd he hQ
   | row row args =>
    refine ⟨hdep, fun c cs hr => ?_⟩
    obtain ⟨v, w'', h1, h2⟩ := h c cs
    exact ⟨v, w'', hK _ _ h1 (hf.put hn v), (StepsIn.of_steps h2).mono fun m _ => fenced_wide P m⟩
   | round l f tmps assign body => exact h.elim
   | _ => exact h.elim
  | halt x w' =>
   cases x <;> first
    | exact ⟨h, hf⟩
    | exact h.elim
 ·exact absurd h.2 hQ
theorem list_in {S : List Nat} {l n : Nat} {P : Program} {all : Array Oper} {Q : Exit → Act → World → Prop} {a0 : Act} (hQ : ¬ LetsOut Q) : ∀ (os : List Oper) (a : Act) (w : World), ndOps S os = true → Fr S a0 a → wpList P all Q os a w → wpListIn (Fence.wide.inRound l) n P all (QF S a0 Q) os a w
 | [], a, w, hn, hf, h => ⟨h, hf⟩
 | o :: os, a, w, hn, hf, h => by
  simp only [ndOps, Bool.and_eq_true] at hn
  simp only [wpList] at h
  simp only [wpListIn]
  split
  ·rename_i hw
   rw [if_pos hw] at h
   exact op_in hQ hn.1 hf (fun a w h hf => list_in hQ os a w hn.2 hf h) h
  ·rename_i hw
   rw [if_neg hw] at h
   exact ⟨fun _ _ => trivial, list_in hQ os _ w hn.2 (hf.put hn.1 undef) h⟩
theorem any_in {S : List Nat} {l n : Nat} {P : Program} {md : Region.Mode} {os : Array Oper} {Q : Exit → Act → World → Prop} {a0 : Act} (hQ : ¬ LetsOut Q) (hn : ndOps S os.toList = true) : ∀ (fuel : Nat) (listed : Array Bool) (a : Act) (w : World), Fr S a0 a → wpAny P md os Q fuel listed a w → wpAnyIn (Fence.wide.inRound l) n P md os (QF S a0 Q) fuel listed a w
 | 0, listed, a, w, hf, h => ⟨h.1, h.2, hf⟩
 | fuel + 1, listed, a, w, hf, h => by
  refine ⟨fun hr => ⟨h.1 hr, hf⟩, fun i hi => ?_⟩
  have h1 := h.2 i hi
  unfold wpOp at h1
  unfold wpOpIn
  split
  ·rename_i he; rw [he] at h1; exact any_in hQ hn fuel _ a w hf h1
  ·rename_i o he
   rw [he] at h1
   simp only at h1
   have ho := ndOps_get hn (i := i) (by simpa using he)
   split
   ·rename_i hw
    rw [if_pos hw] at h1
    exact op_in hQ ho hf (fun a w h hf => any_in hQ hn fuel _ a w hf h) h1
   ·rename_i hw
    rw [if_neg hw] at h1
    exact ⟨fun _ _ => trivial, any_in hQ hn fuel _ _ w (hf.put ho undef) h1⟩
section
variable {E : Env} {P : Program} {keep : Nat → Prop} {w0 : World} {call : Nat → List V → Option V}
theorem notOut_then {K : Act → World → Prop} {Q : Exit → Act → World → Prop} (h : ¬ LetsOut Q) : ¬ LetsOut (Exit.then K Q) := fun ⟨a, w, h1⟩ => h ⟨a, w, h1⟩
theorem notOut_block {id : Nat} {Q : Exit → Act → World → Prop} (h : ¬ LetsOut Q) : ¬ LetsOut (Exit.inBlock id Q) := fun ⟨a, w, h1⟩ => h ⟨a, w, h1⟩
theorem ex_round (hE : EnvOk E P) (hcall : CallsOk P E call) {no : Nat → Prop} {z : Option Value} {F : FnI} {S : List Nat} {a0 : Act} {k l m : Nat} : ∀ (c : Code) (bid : Nat) (st : St) (r : Ex) (st' : St), flat S c = true → ex E F k call c bid st = some (r, st') →
 ∀ (σ : Sg) (a : Act) (w : World) (Q : Exit → Act → World → Prop), ¬ LetsOut Q → Fr S a0 a → Inv E keep w0 no F.n z st σ a w → (∀ a' w' σ', Inv E keep w0 no F.n z st' σ' a' w' → Fr S a0 a' → Q (exitOf r) a' w') → c.wpIn (Fence.wide.inRound l) m P Q a w
 | .skip, bid, st, r, st', hf, h, σ, a, w, Q, ho, hfr, hi, hQ => by
  simp only [ex, Option.some.injEq, Prod.mk.injEq] at h
  obtain ⟨rfl, rfl⟩ := h
  exact wpIn_skip (hQ _ _ _ hi hfr)
 | .region id os draw, bid, st, r, st', hf, h, σ, a, w, Q, ho, hfr, hi, hQ => by
  simp only [flat] at hf
  simp only [ex] at h
  split at h
  ·rename_i st1 tr h1
   cases draw with
   | false =>
    simp only [Option.some.injEq, Prod.mk.injEq] at h
    obtain ⟨rfl, rfl⟩ := h
    exact wpIn_mono (wpIn_region_list (list_in (Q := fun e a' w' => e = .normal ∧ ∃ σ', Inv E keep w0 no F.n z st1 σ' a' w') (fun ⟨_, _, h, _⟩ => by cases h) _ _ _ hf hfr (runOps_sound hE hcall _ _ _ _ _ _ _ _ hi h1 fun a' w' σ' hi' => ⟨rfl, σ', hi'⟩)))
     fun e a' w' ⟨⟨he, σ', hi'⟩, hf'⟩ => by subst he; exact hQ _ _ _ hi' hf'
   | true =>
    simp only at h
    split at h
    ·rename_i hd
     simp only [Option.some.injEq, Prod.mk.injEq] at h
     obtain ⟨rfl, rfl⟩ := h
     exact wpIn_mono (wpIn_region_any hE.mixed (any_in (Q := fun e a' w' => e = .normal ∧ ∃ σ', Inv E keep w0 no F.n z st1 σ' a' w') (fun ⟨_, _, h, _⟩ => by cases h) hf _ _ _ _ hfr (draw_any hE hcall hi h1 hd fun a' w' σ' hi' => ⟨rfl, σ', hi'⟩)))
      fun e a' w' ⟨⟨he, σ', hi'⟩, hf'⟩ => by subst he; exact hQ _ _ _ hi' hf'
    ·cases h
  ·cases h
 | .seq c d, bid, st, r, st', hf, h, σ, a, w, Q, ho, hfr, hi, hQ => by
  simp only [flat, Bool.and_eq_true] at hf
  simp only [ex] at h
  refine wpIn_seq ?_
  split at h
  ·rename_i st1 h1
   exact ex_round hE hcall c 0 st _ st1 hf.1 h1 σ a w _ (notOut_then ho) hfr hi fun a' w' σ' hi' hfr' => ex_round hE hcall d 0 st1 r st' hf.2 h σ' a' w' Q ho hfr' hi' hQ
  ·rename_i hne
   refine ex_round hE hcall c 0 st r st' hf.1 h σ a w _ (notOut_then ho) hfr hi fun a' w' σ' hi' hfr' => ?_
   have := hQ a' w' σ' hi' hfr'
   cases r with
   | normal => exact absurd h (hne _)
   | exit id => exact this
   | ret => exact this
 | .cond c x y, bid, st, r, st', hf, h, σ, a, w, Q, ho, hfr, hi, hQ => by
  simp only [flat, Bool.and_eq_true] at hf
  cases c with
  | tmp d =>
   simp only [ex] at h
   have hd := hi.fr d
   split at h
   ·rename_i b hb
    rw [hb] at hd
    have hbool := RT_bool hd
    have hev : a.eval (.tmp d) = .bool b := hbool
    cases b with
    | true => exact wpIn_cond_true hev (ex_round hE hcall x 0 _ r st' hf.1 h σ a w Q ho hfr (hi.set (by rw [hbool]; exact RT_mkbool _)) hQ)
    | false => exact wpIn_cond_false hev (ex_round hE hcall y 0 _ r st' hf.2 h σ a w Q ho hfr (hi.set (by rw [hbool]; exact RT_mkbool _)) hQ)
   ·cases h
  | _ => simp [ex] at h
 | .block id body, bid, st, r, st', hf, h, σ, a, w, Q, ho, hfr, hi, hQ => by
  simp only [flat] at hf
  simp only [ex, blkOut] at h
  refine wpIn_block ?_
  split at h
  ·rename_i i st1 h1
   split at h
   ·rename_i hid
    have hid : i = id := Nat.eq_of_beq_eq_true hid
    subst hid
    split at h
    ·rename_i lv hl
     simp only [Option.some.injEq, Prod.mk.injEq] at h
     obtain ⟨rfl, rfl⟩ := h
     refine ex_round hE hcall body _ st _ st1 hf h1 σ a w _ (notOut_block ho) hfr hi fun a' w' σ' hi' hfr' => ?_
     obtain ⟨σ2, hi2⟩ := norm_sound hi' lv.out
     simp only [exitOf, Exit.inBlock, if_true]
     exact hQ _ _ _ hi2 hfr'
    ·simp only [Option.some.injEq, Prod.mk.injEq] at h
     obtain ⟨rfl, rfl⟩ := h
     refine ex_round hE hcall body _ st _ st1 hf h1 σ a w _ (notOut_block ho) hfr hi fun a' w' σ' hi' hfr' => ?_
     simp only [exitOf, Exit.inBlock, if_true]
     exact hQ _ _ _ hi' hfr'
   ·rename_i hid
    have hid : i ≠ id := fun h => by
     rw [h, show Nat.beq id id = true from Nat.beq_refl id] at hid; cases hid
    simp only [Option.some.injEq, Prod.mk.injEq] at h
    obtain ⟨rfl, rfl⟩ := h
    refine ex_round hE hcall body _ st _ st1 hf h1 σ a w _ (notOut_block ho) hfr hi fun a' w' σ' hi' hfr' => ?_
    simp only [exitOf, Exit.inBlock, if_neg hid]
    exact hQ _ _ _ hi' hfr'
  ·rename_i hne
   refine ex_round hE hcall body _ st r st' hf h σ a w _ (notOut_block ho) hfr hi fun a' w' σ' hi' hfr' => ?_
   have := hQ a' w' σ' hi' hfr'
   cases r with
   | normal => exact this
   | exit id => exact absurd h (hne _ _)
   | ret => exact this
 | .exit id, bid, st, r, st', hf, h, σ, a, w, Q, ho, hfr, hi, hQ => by
  simp only [ex, Option.some.injEq, Prod.mk.injEq] at h
  obtain ⟨rfl, rfl⟩ := h
  exact wpIn_exit (hQ _ _ _ hi hfr)
 | .ret, bid, st, r, st', hf, h, σ, a, w, Q, ho, hfr, hi, hQ => by
  simp only [ex, Option.some.injEq, Prod.mk.injEq] at h
  obtain ⟨rfl, rfl⟩ := h
  obtain ⟨σ2, hi2⟩ := norm_sound hi F.ret
  exact wpIn_ret (hQ _ _ _ hi2 hfr)
 | .loop _, bid, st, r, st', hf, h, σ, a, w, Q, ho, hfr, hi, hQ => by simp [flat] at hf
 | .label _, bid, st, r, st', hf, h, σ, a, w, Q, ho, hfr, hi, hQ => by simp [flat] at hf
 | .goto _, bid, st, r, st', hf, h, σ, a, w, Q, ho, hfr, hi, hQ => by simp [flat] at hf
end
end Go.Proofs.YthdnamhilcjnhaaGreatDoor
