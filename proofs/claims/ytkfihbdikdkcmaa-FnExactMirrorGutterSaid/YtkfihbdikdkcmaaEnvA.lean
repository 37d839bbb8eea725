/- The program's types and functions, as the abstract interpreter reads them. -/
import Derived.Test.YtkfihbdikdkcmaaChecked
import Derived.Test.YtkfihbdikdkcmaaRs24
import Derived.Test.YtkfihbdikdkcmaaBw0
namespace Go.Proofs.Ytkfihbdikdkcmaa
open Go Go.RowKit
set_option maxRecDepth 100000
set_option linter.unusedVariables false
noncomputable def tt : List (Nat × TyI) := [
  (1, ⟨.fn, 1, 8, [.nilf], [], false⟩),
  (2, ⟨.int .i64, 1, 8, [.int .i64 0], [], true⟩),
  (3, ⟨.int .i64, 1, 8, [.int .i64 0], [], true⟩),
  (4, ⟨.bool, 1, 1, [.bool false], [], false⟩),
  (22, ⟨.int .i8, 1, 1, [.int .i8 0], [], true⟩),
  (23, ⟨.int .i16, 1, 2, [.int .i16 0], [], true⟩),
  (24, ⟨.arr 17 22, 17, 17, [.ints .i8 17 (fun _ => 0)], [], true⟩),
  (25, ⟨.int .u32, 1, 4, [.int .u32 0], [], true⟩),
  (26, ⟨.sl 61, 1, 24, [.nils], [61], false⟩),
  (28, ⟨.st [(0, 22), (1, 23), (2, 24), (19, 25), (20, 26)], 21, 56, [.int .i8 0, .int .i16 0, .ints .i8 17 (fun _ => 0), .int .u32 0, .nils], [0, 0, 0, 0, 61], false⟩),
  (30, ⟨.sl 45, 1, 24, [.nils], [45], false⟩),
  (32, ⟨.st [(0, 22), (1, 23), (2, 24), (19, 25), (20, 30)], 21, 56, [.int .i8 0, .int .i16 0, .ints .i8 17 (fun _ => 0), .int .u32 0, .nils], [0, 0, 0, 0, 45], false⟩),
  (41, ⟨.ptr 32, 1, 8, [.nilp], [], false⟩),
  (43, ⟨.int .u64, 1, 8, [.int .u64 0], [], true⟩),
  (45, ⟨.st [(0, 22), (1, 23)], 2, 4, [.int .i8 0, .int .i16 0], [], true⟩),
  (49, ⟨.sl 3, 1, 24, [.nils], [3], false⟩),
  (52, ⟨.fn, 1, 8, [.nilf], [], false⟩),
  (53, ⟨.fn, 1, 8, [.nilf], [], false⟩),
  (61, ⟨.st [(0, 22), (1, 23)], 2, 4, [.int .i8 0, .int .i16 0], [], true⟩),
  (65, ⟨.fn, 1, 8, [.nilf], [], false⟩)]
noncomputable def fl : List Func := [Go.Proofs.Try.f0, Go.Proofs.Try.f1, Go.Proofs.Try.f2, Go.Proofs.Try.f3, Go.Proofs.Try.f4, Go.Proofs.Try.f5, Go.Proofs.Try.f6, Go.Proofs.Try.f7, Go.Proofs.Try.f8, Go.Proofs.Try.f9, Go.Proofs.Try.f10, Go.Proofs.Try.f11, Go.Proofs.Try.f12, Go.Proofs.Try.f13, Go.Proofs.Try.f14, Go.Proofs.Try.f15, Go.Proofs.Try.f16, Go.Proofs.Try.f17, Go.Proofs.Try.f18, Go.Proofs.Try.f19, Go.Proofs.Try.f20, Go.Proofs.Try.f21, Go.Proofs.Try.f22, Go.Proofs.Try.f23, Go.Proofs.Try.f24, Go.Proofs.Try.f25, Go.Proofs.Try.f26, Go.Proofs.Try.f27, Go.Proofs.Try.f28, Go.Proofs.Try.f29, Go.Proofs.Try.f30, Go.Proofs.Try.f31, Go.Proofs.Try.f32, Go.Proofs.Try.f33, Go.Proofs.Try.f34, Go.Proofs.Try.f35, Go.Proofs.Try.f36, Go.Proofs.Try.f37, Go.Proofs.Try.f38, Go.Proofs.Try.f39, Go.Proofs.Try.f40, Go.Proofs.Try.f41, Go.Proofs.Try.f42, Go.Proofs.Try.f43, Go.Proofs.Try.f44, Go.Proofs.Try.f45, Go.Proofs.Try.f46, Go.Proofs.Try.f47, Go.Proofs.Try.f48, Go.Proofs.Try.f49]
noncomputable def fi : List (Nat × FnI) := [
  (2, ⟨[], [], 524289, false, none, false, none, false, none, false, false, none⟩),
  (3, ⟨[(2, [])], [], 96, false, none, false, none, false, none, false, false, none⟩),
  (4, ⟨[(4, [])], [], 12, false, none, false, none, false, none, false, false, none⟩),
  (5, ⟨[(2, [0, 0, 0, 0, 45]), (3, [])], [(0, ⟨[(1, [0, 0, 0, 0, 45]), (2, [0, 0, 0, 0, 45]), (4, [0, 0, 0, 0, 45]), (5, []), (6, [])], [(1, [0, 0, 0, 0, 45]), (2, [0, 0, 0, 0, 45]), (4, [0, 0, 0, 0, 45])]⟩), (2, ⟨[(1, [0, 0, 0, 0, 45]), (2, [0, 0, 0, 0, 45]), (4, [0, 0, 0, 0, 45]), (7, [])], [(2, [0, 0, 0, 0, 45]), (4, [0, 0, 0, 0, 45])]⟩)], 76, false, none, false, none, false, none, false, false, none⟩),
  (6, ⟨[(2, [0, 0, 0, 0, 45])], [], 22, false, none, false, none, false, none, false, false, none⟩),
  (7, ⟨[(2, [0, 0, 0, 0, 45]), (3, [])], [(0, ⟨[(1, [0, 0, 0, 0, 45]), (2, [0, 0, 0, 0, 45]), (4, [0, 0, 0, 0, 45]), (20, [3]), (21, []), (22, [])], [(1, [0, 0, 0, 0, 45]), (2, [0, 0, 0, 0, 45]), (4, [0, 0, 0, 0, 45])]⟩), (2, ⟨[(1, [0, 0, 0, 0, 45]), (2, [0, 0, 0, 0, 45]), (4, [0, 0, 0, 0, 45]), (51, [])], [(2, [0, 0, 0, 0, 45]), (4, [0, 0, 0, 0, 45])]⟩)], 69, false, none, false, none, false, none, false, false, none⟩),
  (8, ⟨[(4, [])], [], 32, false, none, false, none, false, none, false, false, none⟩),
  (9, ⟨[(0, []), (4, [])], [], 10, true, none, false, none, false, none, false, false, none⟩),
  (10, ⟨[(4, [])], [], 12, false, none, false, none, false, none, false, false, none⟩),
  (11, ⟨[(4, [])], [], 12, false, none, false, none, false, none, false, false, none⟩),
  (12, ⟨[(2, [])], [(0, ⟨[(0, [0, 0, 0, 0, 45]), (3, [])], [(0, [0, 0, 0, 0, 45])]⟩), (2, ⟨[(0, [0, 0, 0, 0, 45]), (4, [])], []⟩)], 126, false, none, false, none, false, none, false, false, none⟩),
  (13, ⟨[(4, [])], [], 14, false, none, false, none, false, none, false, false, none⟩),
  (14, ⟨[(2, [])], [(0, ⟨[(1, []), (2, []), (3, []), (4, [])], [(2, []), (3, [])]⟩)], 15, false, none, false, none, false, none, false, false, none⟩),
  (15, ⟨[(2, [45])], [(0, ⟨[(0, [61]), (3, [45]), (4, [])], [(3, [45])]⟩)], 23, false, none, false, none, false, none, false, false, none⟩),
  (16, ⟨[(2, [])], [(0, ⟨[(1, [0, 0, 0, 0, 45]), (32, []), (33, [])], [(1, [0, 0, 0, 0, 45])]⟩), (2, ⟨[(1, [0, 0, 0, 0, 45]), (53, [45]), (54, []), (55, [])], []⟩)], 90, false, none, false, none, false, none, false, false, none⟩),
  (17, ⟨[(2, [3])], [], 7, false, none, false, none, false, none, false, false, none⟩),
  (18, ⟨[(4, [])], [], 11, false, none, false, none, false, none, false, false, none⟩),
  (19, ⟨[(2, [])], [], 4, false, none, false, none, false, none, false, false, none⟩),
  (20, ⟨[(4, [])], [(0, ⟨[(2, []), (3, []), (5, [])], []⟩)], 17, false, none, false, none, false, none, false, false, none⟩),
  (21, ⟨[(4, [])], [(0, ⟨[(0, [45]), (1, [45]), (5, [])], []⟩)], 27, false, none, false, none, false, none, false, false, none⟩),
  (22, ⟨[(0, [45]), (4, [])], [(0, ⟨[(0, [45]), (1, []), (5, [])], [(0, [45]), (1, [])]⟩)], 29, true, none, false, none, false, none, false, false, none⟩),
  (23, ⟨[(4, [])], [(0, ⟨[(0, [45]), (1, []), (5, [])], [(1, [])]⟩)], 33, false, none, false, none, false, none, false, false, none⟩),
  (24, ⟨[(6, [])], [], 15, false, none, false, none, false, none, false, false, none⟩),
  (25, ⟨[(2, [])], [], 5, false, none, false, none, false, none, false, false, none⟩),
  (26, ⟨[(2, [])], [], 11, false, none, false, none, false, none, false, false, none⟩),
  (27, ⟨[(6, [])], [], 15, false, none, false, none, false, none, false, false, none⟩),
  (28, ⟨[(2, [])], [], 6, false, none, false, none, false, none, false, false, none⟩),
  (29, ⟨[(2, [3])], [(0, ⟨[(3, [3]), (5, []), (6, [])], [(3, [3])]⟩)], 15, false, none, false, none, false, none, false, false, none⟩),
  (30, ⟨[], [(0, ⟨[(0, []), (1, []), (3, [])], []⟩)], 19, false, none, false, none, false, none, false, false, some (.i8, .i16)⟩),
  (31, ⟨[(4, [])], [], 15, false, none, false, none, false, none, false, false, none⟩),
  (32, ⟨[(6, [])], [], 15, false, none, false, none, false, none, false, false, none⟩)]
noncomputable def E : Env := ⟨tt, fl, fi⟩
theorem ttOk : allTy E Try.prog E.tt := ⟨⟨by kernel_rfl, by kernel_rfl, by kernel_rfl⟩, ⟨by kernel_rfl, by kernel_rfl, by kernel_rfl⟩, ⟨by kernel_rfl, by kernel_rfl, by kernel_rfl⟩, ⟨by kernel_rfl, by kernel_rfl, by kernel_rfl⟩, ⟨by kernel_rfl, by kernel_rfl, by kernel_rfl⟩, ⟨by kernel_rfl, by kernel_rfl, by kernel_rfl⟩, ⟨by kernel_rfl, by kernel_rfl, by kernel_rfl⟩, ⟨by kernel_rfl, by kernel_rfl, by kernel_rfl⟩, ⟨by kernel_rfl, by kernel_rfl, by kernel_rfl⟩, ⟨by kernel_rfl, by kernel_rfl, by kernel_rfl⟩, ⟨by kernel_rfl, by kernel_rfl, by kernel_rfl⟩, ⟨by kernel_rfl, by kernel_rfl, by kernel_rfl⟩, ⟨by kernel_rfl, by kernel_rfl, by kernel_rfl⟩, ⟨by kernel_rfl, by kernel_rfl, by kernel_rfl⟩, ⟨by kernel_rfl, by kernel_rfl, by kernel_rfl⟩, ⟨by kernel_rfl, by kernel_rfl, by kernel_rfl⟩, ⟨by kernel_rfl, by kernel_rfl, by kernel_rfl⟩, ⟨by kernel_rfl, by kernel_rfl, by kernel_rfl⟩, ⟨by kernel_rfl, by kernel_rfl, by kernel_rfl⟩, ⟨by kernel_rfl, by kernel_rfl, by kernel_rfl⟩, trivial⟩
theorem flOk : allFn Try.prog 0 E.fl := ⟨Try.func0, Try.func1, Try.func2, Try.func3, Try.func4, Try.func5, Try.func6, Try.func7, Try.func8, Try.func9, Try.func10, Try.func11, Try.func12, Try.func13, Try.func14, Try.func15, Try.func16, Try.func17, Try.func18, Try.func19, Try.func20, Try.func21, Try.func22, Try.func23, Try.func24, Try.func25, Try.func26, Try.func27, Try.func28, Try.func29, Try.func30, Try.func31, Try.func32, Try.func33, Try.func34, Try.func35, Try.func36, Try.func37, Try.func38, Try.func39, Try.func40, Try.func41, Try.func42, Try.func43, Try.func44, Try.func45, Try.func46, Try.func47, Try.func48, Try.func49, trivial⟩
theorem envLaid : laidOutB Try.prog = true := by kernel_rfl
theorem bwOk : bwAll Try.prog E.fi := ⟨trivial, trivial, trivial, trivial, trivial, trivial, trivial, trivial, trivial, trivial, trivial, trivial, trivial, trivial, trivial, trivial, trivial, trivial, trivial, trivial, trivial, trivial, trivial, trivial, trivial, trivial, trivial, trivial, bw30, trivial, trivial, trivial⟩
theorem envOk : EnvOk E Try.prog := env_okB envLaid ttOk flOk (Checked.mixed Try.checked) (by kernel_rfl) (bwAll_get bwOk)
end Go.Proofs.Ytkfihbdikdkcmaa
