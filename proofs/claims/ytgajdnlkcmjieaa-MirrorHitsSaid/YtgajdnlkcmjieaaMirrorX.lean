import Derived.Test.YtgajdnlkcmjieaaPiX
import Derived.Test.YtgajdnlkcmjieaaMirrorTd
/-! Tables by which the kernel carries calls out. Written by wip/gen/xgen.py. -/
set_option linter.unusedSimpArgs false
set_option linter.unusedVariables false
set_option maxRecDepth 100000
namespace Go.Proofs.Ytgajdnlkcmjieaa
open Go Go.Proofs Go.Proofs.PI
def tt : TT TD := (.node 46 (.node 23 (.node 11 (.node 5 (.node 2 (.node 1 (.leaf 0 ⟨.other, 1, 0, [.junk], false⟩) (.leaf 1 ⟨.func, 1, 8, [.nilf], false⟩)) (.node 3 (.leaf 2 ⟨.int .i64, 1, 8, [.int .i64 0], false⟩) (.node 4 (.leaf 3 ⟨.int .i64, 1, 8, [.int .i64 0], false⟩) (.leaf 4 ⟨.bool, 1, 1, [.bool false], false⟩)))) (.node 8 (.node 6 (.leaf 5 ⟨.int .u8, 1, 1, [.int .u8 0], false⟩) (.node 7 (.leaf 6 ⟨.int .u8, 1, 1, [.int .u8 0], false⟩) (.leaf 7 ⟨.struct [(0, 2), (1, 3), (2, 4), (3, 6)], 4, 24, [.int .i64 0, .int .i64 0, .bool false, .int .u8 0], true⟩))) (.node 9 (.leaf 8 ⟨.struct [(0, 2), (1, 3), (2, 4), (3, 6)], 4, 24, [.int .i64 0, .int .i64 0, .bool false, .int .u8 0], true⟩) (.node 10 (.leaf 9 ⟨.str, 1, 16, [.str []], false⟩) (.leaf 10 ⟨.str, 1, 16, [.str []], false⟩))))) (.node 17 (.node 14 (.node 12 (.leaf 11 ⟨.str, 1, 16, [.str []], false⟩) (.node 13 (.leaf 12 ⟨.int .u64, 1, 8, [.int .u64 0], false⟩) (.leaf 13 ⟨.struct [(0, 9), (1, 12)], 2, 24, [.str [], .int .u64 0], false⟩))) (.node 15 (.leaf 14 ⟨.struct [(0, 9), (1, 12)], 2, 24, [.str [], .int .u64 0], false⟩) (.node 16 (.leaf 15 ⟨.ptr 78, 1, 8, [.nilp], false⟩) (.leaf 16 ⟨.ptr 81, 1, 8, [.nilp], false⟩)))) (.node 20 (.node 18 (.leaf 17 ⟨.ptr 90, 1, 8, [.nilp], false⟩) (.node 19 (.leaf 18 ⟨.struct [(0, 17)], 1, 8, [.nilp], false⟩) (.leaf 19 ⟨.struct [(0, 17)], 1, 8, [.nilp], false⟩))) (.node 21 (.leaf 20 ⟨.other, 1, 16, [.junk], false⟩) (.node 22 (.leaf 21 ⟨.int .i32, 1, 4, [.int .i32 0], false⟩) (.leaf 22 ⟨.slice 28, 1, 24, [.nils], false⟩)))))) (.node 34 (.node 28 (.node 25 (.node 24 (.leaf 23 ⟨.struct [(0, 22), (1, 3), (2, 4)], 3, 40, [.nils, .int .i64 0, .bool false], true⟩) (.leaf 24 ⟨.struct [(0, 22), (1, 3), (2, 4)], 3, 40, [.nils, .int .i64 0, .bool false], true⟩)) (.node 26 (.leaf 25 ⟨.int .u32, 1, 4, [.int .u32 0], false⟩) (.node 27 (.leaf 26 ⟨.int .u64, 1, 8, [.int .u64 0], false⟩) (.leaf 27 ⟨.struct [(0, 9), (1, 9), (2, 25), (3, 3), (4, 26)], 5, 56, [.str [], .str [], .int .u32 0, .int .i64 0, .int .u64 0], true⟩)))) (.node 31 (.node 29 (.leaf 28 ⟨.struct [(0, 9), (1, 9), (2, 25), (3, 3), (4, 26)], 5, 56, [.str [], .str [], .int .u32 0, .int .i64 0, .int .u64 0], true⟩) (.node 30 (.leaf 29 ⟨.func, 1, 8, [.nilf], false⟩) (.leaf 30 ⟨.func, 1, 8, [.nilf], false⟩))) (.node 32 (.leaf 31 ⟨.int .i64, 1, 8, [.int .i64 0], false⟩) (.node 33 (.leaf 32 ⟨.func, 1, 8, [.nilf], false⟩) (.leaf 33 ⟨.other, 1, 0, [.junk], false⟩))))) (.node 40 (.node 37 (.node 35 (.leaf 34 ⟨.func, 1, 8, [.nilf], false⟩) (.node 36 (.leaf 35 ⟨.other, 1, 0, [.junk], false⟩) (.leaf 36 ⟨.func, 1, 8, [.nilf], false⟩))) (.node 38 (.leaf 37 ⟨.func, 1, 8, [.nilf], false⟩) (.node 39 (.leaf 38 ⟨.func, 1, 8, [.nilf], false⟩) (.leaf 39 ⟨.func, 1, 8, [.nilf], false⟩)))) (.node 43 (.node 41 (.leaf 40 ⟨.func, 1, 8, [.nilf], false⟩) (.node 42 (.leaf 41 ⟨.func, 1, 8, [.nilf], false⟩) (.leaf 42 ⟨.func, 1, 8, [.nilf], false⟩))) (.node 44 (.leaf 43 ⟨.func, 1, 8, [.nilf], false⟩) (.node 45 (.leaf 44 ⟨.other, 1, 0, [.junk], false⟩) (.leaf 45 ⟨.func, 1, 8, [.nilf], false⟩))))))) (.node 69 (.node 57 (.node 51 (.node 48 (.node 47 (.leaf 46 ⟨.other, 1, 0, [.junk], false⟩) (.leaf 47 ⟨.func, 1, 8, [.nilf], false⟩)) (.node 49 (.leaf 48 ⟨.func, 1, 8, [.nilf], false⟩) (.node 50 (.leaf 49 ⟨.func, 1, 8, [.nilf], false⟩) (.leaf 50 ⟨.func, 1, 8, [.nilf], false⟩)))) (.node 54 (.node 52 (.leaf 51 ⟨.func, 1, 8, [.nilf], false⟩) (.node 53 (.leaf 52 ⟨.func, 1, 8, [.nilf], false⟩) (.leaf 53 ⟨.func, 1, 8, [.nilf], false⟩))) (.node 55 (.leaf 54 ⟨.func, 1, 8, [.nilf], false⟩) (.node 56 (.leaf 55 ⟨.slice 57, 1, 24, [.nils], false⟩) (.leaf 56 ⟨.struct [(0, 5), (1, 9), (2, 9), (3, 3)], 4, 48, [.int .u8 0, .str [], .str [], .int .i64 0], true⟩))))) (.node 63 (.node 60 (.node 58 (.leaf 57 ⟨.struct [(0, 5), (1, 9), (2, 9), (3, 3)], 4, 48, [.int .u8 0, .str [], .str [], .int .i64 0], true⟩) (.node 59 (.leaf 58 ⟨.other, 1, 0, [.junk], false⟩) (.leaf 59 ⟨.func, 1, 8, [.nilf], false⟩))) (.node 61 (.leaf 60 ⟨.func, 1, 8, [.nilf], false⟩) (.node 62 (.leaf 61 ⟨.func, 1, 8, [.nilf], false⟩) (.leaf 62 ⟨.func, 1, 8, [.nilf], false⟩)))) (.node 66 (.node 64 (.leaf 63 ⟨.func, 1, 8, [.nilf], false⟩) (.node 65 (.leaf 64 ⟨.func, 1, 8, [.nilf], false⟩) (.leaf 65 ⟨.func, 1, 8, [.nilf], false⟩))) (.node 67 (.leaf 66 ⟨.func, 1, 8, [.nilf], false⟩) (.node 68 (.leaf 67 ⟨.func, 1, 8, [.nilf], false⟩) (.leaf 68 ⟨.func, 1, 8, [.nilf], false⟩)))))) (.node 80 (.node 74 (.node 71 (.node 70 (.leaf 69 ⟨.func, 1, 8, [.nilf], false⟩) (.leaf 70 ⟨.func, 1, 8, [.nilf], false⟩)) (.node 72 (.leaf 71 ⟨.func, 1, 8, [.nilf], false⟩) (.node 73 (.leaf 72 ⟨.func, 1, 8, [.nilf], false⟩) (.leaf 73 ⟨.func, 1, 8, [.nilf], false⟩)))) (.node 77 (.node 75 (.leaf 74 ⟨.func, 1, 8, [.nilf], false⟩) (.node 76 (.leaf 75 ⟨.func, 1, 8, [.nilf], false⟩) (.leaf 76 ⟨.func, 1, 8, [.nilf], false⟩))) (.node 78 (.leaf 77 ⟨.struct [(0, 17), (1, 17), (2, 17), (3, 9)], 4, 40, [.nilp, .nilp, .nilp, .str []], false⟩) (.node 79 (.leaf 78 ⟨.struct [(0, 17), (1, 17), (2, 17), (3, 9)], 4, 40, [.nilp, .nilp, .nilp, .str []], false⟩) (.leaf 79 ⟨.other, 0, 0, [], false⟩))))) (.node 86 (.node 83 (.node 81 (.leaf 80 ⟨.struct [(0, 79)], 0, 0, [], false⟩) (.node 82 (.leaf 81 ⟨.struct [(0, 79)], 0, 0, [], false⟩) (.leaf 82 ⟨.func, 1, 8, [.nilf], false⟩))) (.node 84 (.leaf 83 ⟨.int .u8, 1, 1, [.int .u8 0], false⟩) (.node 85 (.leaf 84 ⟨.int .u8, 1, 1, [.int .u8 0], false⟩) (.leaf 85 ⟨.func, 1, 8, [.nilf], false⟩)))) (.node 89 (.node 87 (.leaf 86 ⟨.ptr 5, 1, 8, [.nilp], false⟩) (.node 88 (.leaf 87 ⟨.int .i32, 1, 4, [.int .i32 0], false⟩) (.leaf 88 ⟨.int .i32, 1, 4, [.int .i32 0], false⟩))) (.node 90 (.leaf 89 ⟨.struct [(0, 12), (1, 12), (2, 25), (3, 83), (4, 5), (5, 5), (6, 84), (7, 85), (8, 86), (9, 87), (10, 88)], 11, 48, [.int .u64 0, .int .u64 0, .int .u32 0, .int .u8 0, .int .u8 0, .int .u8 0, .int .u8 0, .nilf, .nilp, .int .i32 0, .int .i32 0], false⟩) (.node 91 (.leaf 90 ⟨.struct [(0, 12), (1, 12), (2, 25), (3, 83), (4, 5), (5, 5), (6, 84), (7, 85), (8, 86), (9, 87), (10, 88)], 11, 48, [.int .u64 0, .int .u64 0, .int .u32 0, .int .u8 0, .int .u8 0, .int .u8 0, .int .u8 0, .nilf, .nilp, .int .i32 0, .int .i32 0], false⟩) (.leaf 91 ⟨.other, 1, 8, [.nilp], false⟩))))))))
theorem ttOk : tt.Ok (fun t d => tdOf Try.prog t = some d) := ⟨⟨⟨⟨⟨⟨td0, td1⟩, ⟨td2, ⟨td3, td4⟩⟩⟩, ⟨⟨td5, ⟨td6, td7⟩⟩, ⟨td8, ⟨td9, td10⟩⟩⟩⟩, ⟨⟨⟨td11, ⟨td12, td13⟩⟩, ⟨td14, ⟨td15, td16⟩⟩⟩, ⟨⟨td17, ⟨td18, td19⟩⟩, ⟨td20, ⟨td21, td22⟩⟩⟩⟩⟩, ⟨⟨⟨⟨td23, td24⟩, ⟨td25, ⟨td26, td27⟩⟩⟩, ⟨⟨td28, ⟨td29, td30⟩⟩, ⟨td31, ⟨td32, td33⟩⟩⟩⟩, ⟨⟨⟨td34, ⟨td35, td36⟩⟩, ⟨td37, ⟨td38, td39⟩⟩⟩, ⟨⟨td40, ⟨td41, td42⟩⟩, ⟨td43, ⟨td44, td45⟩⟩⟩⟩⟩⟩, ⟨⟨⟨⟨⟨td46, td47⟩, ⟨td48, ⟨td49, td50⟩⟩⟩, ⟨⟨td51, ⟨td52, td53⟩⟩, ⟨td54, ⟨td55, td56⟩⟩⟩⟩, ⟨⟨⟨td57, ⟨td58, td59⟩⟩, ⟨td60, ⟨td61, td62⟩⟩⟩, ⟨⟨td63, ⟨td64, td65⟩⟩, ⟨td66, ⟨td67, td68⟩⟩⟩⟩⟩, ⟨⟨⟨⟨td69, td70⟩, ⟨td71, ⟨td72, td73⟩⟩⟩, ⟨⟨td74, ⟨td75, td76⟩⟩, ⟨td77, ⟨td78, td79⟩⟩⟩⟩, ⟨⟨⟨td80, ⟨td81, td82⟩⟩, ⟨td83, ⟨td84, td85⟩⟩⟩, ⟨⟨td86, ⟨td87, td88⟩⟩, ⟨td89, ⟨td90, td91⟩⟩⟩⟩⟩⟩⟩
noncomputable abbrev Tl : TypeId → Option TD := tt.get
theorem hTl : TOk Try.prog Tl := fun t d h => ttOk.get h
theorem xd3 : drawsOk (fun _ => []) (Try.f3.body.getD .skip) = true := by kernel_rfl
noncomputable def xf3 : XF := ⟨Try.f3.body.getD .skip, Try.f3.ntmps, Try.f3.results.toList, (fun _ => [])⟩
theorem xk3 : XFOk Try.prog 3 xf3 := XFOk.mk Try.func3 (by kernel_rfl) rfl rfl rfl xd3
def rw4 : DRows := fun id => (([(2, [(0, none), (6, none), (1, some [false, false]), (2, some [true, false, true]), (3, none), (4, none), (5, none), (7, some [false, true, true, true, true, true, true]), (8, none)]), (9, [(0, none), (6, none), (1, some [false, false]), (2, some [true, false, true]), (3, none), (4, none), (5, none), (7, some [false, true, true, true, true, true, true]), (8, none)]), (10, [(0, none), (6, none), (1, some [false, false]), (2, some [true, false, true]), (3, none), (4, none), (5, none), (7, some [false, true, true, true, true, true, true]), (8, none)]), (13, [(0, none), (6, none), (1, some [false, false]), (2, some [true, false, true]), (3, none), (4, none), (5, none), (7, some [false, true, true, true, true, true, true]), (8, none)])] : List (Nat × List (Nat × Option (List Bool)))).lookup id).getD []
theorem xd4 : drawsOk rw4 (Try.f4.body.getD .skip) = true := by kernel_rfl
noncomputable def xf4 : XF := ⟨Try.f4.body.getD .skip, Try.f4.ntmps, Try.f4.results.toList, rw4⟩
theorem xk4 : XFOk Try.prog 4 xf4 := XFOk.mk Try.func4 (by kernel_rfl) rfl rfl rfl xd4
def rw5 : DRows := fun id => (([(16, [(0, none), (1, none), (2, some [true, true]), (3, none), (4, none), (5, none), (6, none), (7, none), (8, none), (9, none), (10, none), (11, none), (12, none), (13, none), (14, none), (15, none), (16, none), (17, none), (18, none), (19, none), (20, none), (21, none), (22, none), (23, none), (24, none), (25, none), (26, none), (27, some [true, true, true, true, true, true, true, true, true, true, true, true, true, true, true, true, true, true, true, true, true, true, true, true, true, true, true]), (28, none), (29, none), (30, none), (31, none), (32, none), (33, none), (34, none), (35, none), (36, none), (37, none), (38, some [true, true, true, true, true, true, true, true, true, true, true, true, true, true, true, true, true, true, true, true, true, true, true, true, true, true, true, true, true, true, true, true, true, true, true, true, true, true]), (39, none), (40, none), (41, none), (42, none), (43, none), (44, none), (45, none), (46, none), (47, none), (48, none), (49, some [true, true, true, true, true, true, true, true, true, true, true, true, true, true, true, true, true, true, true, true, true, true, true, true, true, true, true, true, true, true, true, true, true, true, true, true, true, true, true, true, true, true, true, true, true, true, true, true, true]), (50, none), (51, none), (52, none), (53, none), (54, none), (55, none), (56, none), (57, none), (58, none), (59, none), (60, some [true, true, true, true, true, true, true, true, true, true, true, true, true, true, true, true, true, true, true, true, true, true, true, true, true, true, true, true, true, true, true, true, true, true, true, true, true, true, true, true, true, true, true, true, true, true, true, true, true, true, true, true, true, true, true, true, true, true, true, true]), (61, none), (62, none), (63, none), (64, none), (65, none), (66, none), (67, none), (68, none), (69, none), (71, none), (70, some [false, true, true, true, true, true, true, true, true, true, true, true, true, true, true, true, true, true, true, true, true, true, true, true, true, true, true, true, true, true, true, true, true, true, true, true, true, true, true, true, true, true, true, true, true, true, true, true, true, true, true, true, true, true, true, true, true, true, true, true, true, true, true, true, true, true, true, true, true, true, true]), (72, some [true, true, true, true, true, true, true, true, true, true, true, true, true, true, true, true, true, true, true, true, true, true, true, true, true, true, true, true, true, true, true, true, true, true, true, true, true, true, true, true, true, true, true, true, true, true, true, true, true, true, true, true, true, true, true, true, true, true, true, true, true, true, true, true, true, true, true, true, true, true, true, true]), (73, none), (74, none)]), (21, [(0, none), (1, none), (2, none), (3, none), (4, none), (5, none), (6, none), (7, none), (8, none), (9, none), (10, none), (11, none), (12, some [true, true, true, true, true, true, true, true, true, true, true, true])]), (25, [(0, none), (1, none), (2, none), (3, none), (4, none), (5, none), (6, none), (7, none), (8, none), (9, none), (10, none), (11, none), (12, some [true, true, true, true, true, true, true, true, true, true, true, true])]), (29, [(0, none), (1, none), (2, none), (3, none), (4, none), (5, none), (6, none), (7, none), (8, none), (9, none), (10, none), (11, none), (12, some [true, true, true, true, true, true, true, true, true, true, true, true])])] : List (Nat × List (Nat × Option (List Bool)))).lookup id).getD []
theorem xd5 : drawsOk rw5 (Try.f5.body.getD .skip) = true := by kernel_rfl
noncomputable def xf5 : XF := ⟨Try.f5.body.getD .skip, Try.f5.ntmps, Try.f5.results.toList, rw5⟩
theorem xk5 : XFOk Try.prog 5 xf5 := XFOk.mk Try.func5 (by kernel_rfl) rfl rfl rfl xd5
def rw6 : DRows := fun id => (([(16, [(0, none), (1, none), (2, none), (3, none), (4, none), (5, none), (6, none), (7, none), (8, none), (9, some [true, true, true, true, true, true, false, false, false]), (10, some [true, true, true, true, true, true, true, true, true, true]), (11, none), (12, none), (13, none), (14, some [false, true, true, true, true, true, true, true, true, true, true, true, true, true]), (15, none)])] : List (Nat × List (Nat × Option (List Bool)))).lookup id).getD []
theorem xd6 : drawsOk rw6 (Try.f6.body.getD .skip) = true := by kernel_rfl
noncomputable def xf6 : XF := ⟨Try.f6.body.getD .skip, Try.f6.ntmps, Try.f6.results.toList, rw6⟩
theorem xk6 : XFOk Try.prog 6 xf6 := XFOk.mk Try.func6 (by kernel_rfl) rfl rfl rfl xd6
theorem xd7 : drawsOk (fun _ => []) (Try.f7.body.getD .skip) = true := by kernel_rfl
noncomputable def xf7 : XF := ⟨Try.f7.body.getD .skip, Try.f7.ntmps, Try.f7.results.toList, (fun _ => [])⟩
theorem xk7 : XFOk Try.prog 7 xf7 := XFOk.mk Try.func7 (by kernel_rfl) rfl rfl rfl xd7
def rw8 : DRows := fun id => (([(2, [(0, none), (1, some [false]), (2, some [true, true]), (3, none), (4, none), (5, none), (6, some [false, true, true, true, true, true]), (7, none)]), (4, [(0, none), (1, none), (2, none), (3, none), (4, none), (5, none), (6, none), (7, none), (8, none), (9, none), (10, none), (11, none), (12, none), (13, none), (14, none), (15, some [false, true, true, true, true, true, true, true, true, true, true, true, true, true, true]), (16, none), (17, none), (18, none)])] : List (Nat × List (Nat × Option (List Bool)))).lookup id).getD []
theorem xd8 : drawsOk rw8 (Try.f8.body.getD .skip) = true := by kernel_rfl
noncomputable def xf8 : XF := ⟨Try.f8.body.getD .skip, Try.f8.ntmps, Try.f8.results.toList, rw8⟩
theorem xk8 : XFOk Try.prog 8 xf8 := XFOk.mk Try.func8 (by kernel_rfl) rfl rfl rfl xd8
def rw9 : DRows := fun id => (([(5, [(0, none), (1, none), (2, none), (3, none), (4, none), (5, none), (6, none), (7, none), (8, none), (9, none), (10, none), (11, none), (12, none), (13, none), (14, none), (15, none), (16, none), (17, none), (18, none), (19, none)])] : List (Nat × List (Nat × Option (List Bool)))).lookup id).getD []
theorem xd9 : drawsOk rw9 (Try.f9.body.getD .skip) = true := by kernel_rfl
noncomputable def xf9 : XF := ⟨Try.f9.body.getD .skip, Try.f9.ntmps, Try.f9.results.toList, rw9⟩
theorem xk9 : XFOk Try.prog 9 xf9 := XFOk.mk Try.func9 (by kernel_rfl) rfl rfl rfl xd9
theorem xd10 : drawsOk (fun _ => []) (Try.f10.body.getD .skip) = true := by kernel_rfl
noncomputable def xf10 : XF := ⟨Try.f10.body.getD .skip, Try.f10.ntmps, Try.f10.results.toList, (fun _ => [])⟩
theorem xk10 : XFOk Try.prog 10 xf10 := XFOk.mk Try.func10 (by kernel_rfl) rfl rfl rfl xd10
theorem xd11 : drawsOk (fun _ => []) (Try.f11.body.getD .skip) = true := by kernel_rfl
noncomputable def xf11 : XF := ⟨Try.f11.body.getD .skip, Try.f11.ntmps, Try.f11.results.toList, (fun _ => [])⟩
theorem xk11 : XFOk Try.prog 11 xf11 := XFOk.mk Try.func11 (by kernel_rfl) rfl rfl rfl xd11
theorem xd12 : drawsOk (fun _ => []) (Try.f12.body.getD .skip) = true := by kernel_rfl
noncomputable def xf12 : XF := ⟨Try.f12.body.getD .skip, Try.f12.ntmps, Try.f12.results.toList, (fun _ => [])⟩
theorem xk12 : XFOk Try.prog 12 xf12 := XFOk.mk Try.func12 (by kernel_rfl) rfl rfl rfl xd12
theorem xd13 : drawsOk (fun _ => []) (Try.f13.body.getD .skip) = true := by kernel_rfl
noncomputable def xf13 : XF := ⟨Try.f13.body.getD .skip, Try.f13.ntmps, Try.f13.results.toList, (fun _ => [])⟩
theorem xk13 : XFOk Try.prog 13 xf13 := XFOk.mk Try.func13 (by kernel_rfl) rfl rfl rfl xd13
theorem xd14 : drawsOk (fun _ => []) (Try.f14.body.getD .skip) = true := by kernel_rfl
noncomputable def xf14 : XF := ⟨Try.f14.body.getD .skip, Try.f14.ntmps, Try.f14.results.toList, (fun _ => [])⟩
theorem xk14 : XFOk Try.prog 14 xf14 := XFOk.mk Try.func14 (by kernel_rfl) rfl rfl rfl xd14
theorem xd15 : drawsOk (fun _ => []) (Try.f15.body.getD .skip) = true := by kernel_rfl
noncomputable def xf15 : XF := ⟨Try.f15.body.getD .skip, Try.f15.ntmps, Try.f15.results.toList, (fun _ => [])⟩
theorem xk15 : XFOk Try.prog 15 xf15 := XFOk.mk Try.func15 (by kernel_rfl) rfl rfl rfl xd15
theorem xd16 : drawsOk (fun _ => []) (Try.f16.body.getD .skip) = true := by kernel_rfl
noncomputable def xf16 : XF := ⟨Try.f16.body.getD .skip, Try.f16.ntmps, Try.f16.results.toList, (fun _ => [])⟩
theorem xk16 : XFOk Try.prog 16 xf16 := XFOk.mk Try.func16 (by kernel_rfl) rfl rfl rfl xd16
theorem xd17 : drawsOk (fun _ => []) (Try.f17.body.getD .skip) = true := by kernel_rfl
noncomputable def xf17 : XF := ⟨Try.f17.body.getD .skip, Try.f17.ntmps, Try.f17.results.toList, (fun _ => [])⟩
theorem xk17 : XFOk Try.prog 17 xf17 := XFOk.mk Try.func17 (by kernel_rfl) rfl rfl rfl xd17
def rw18 : DRows := fun id => (([(1, [(0, none), (1, none), (3, none), (4, none), (5, none), (6, none), (2, some [false, false, false, false, true, true]), (7, none), (8, some [true, true, true, true, true, true, true, true])])] : List (Nat × List (Nat × Option (List Bool)))).lookup id).getD []
theorem xd18 : drawsOk rw18 (Try.f18.body.getD .skip) = true := by kernel_rfl
noncomputable def xf18 : XF := ⟨Try.f18.body.getD .skip, Try.f18.ntmps, Try.f18.results.toList, rw18⟩
theorem xk18 : XFOk Try.prog 18 xf18 := XFOk.mk Try.func18 (by kernel_rfl) rfl rfl rfl xd18
theorem xd19 : drawsOk (fun _ => []) (Try.f19.body.getD .skip) = true := by kernel_rfl
noncomputable def xf19 : XF := ⟨Try.f19.body.getD .skip, Try.f19.ntmps, Try.f19.results.toList, (fun _ => [])⟩
theorem xk19 : XFOk Try.prog 19 xf19 := XFOk.mk Try.func19 (by kernel_rfl) rfl rfl rfl xd19
theorem xd20 : drawsOk (fun _ => []) (Try.f20.body.getD .skip) = true := by kernel_rfl
noncomputable def xf20 : XF := ⟨Try.f20.body.getD .skip, Try.f20.ntmps, Try.f20.results.toList, (fun _ => [])⟩
theorem xk20 : XFOk Try.prog 20 xf20 := XFOk.mk Try.func20 (by kernel_rfl) rfl rfl rfl xd20
theorem xd21 : drawsOk (fun _ => []) (Try.f21.body.getD .skip) = true := by kernel_rfl
noncomputable def xf21 : XF := ⟨Try.f21.body.getD .skip, Try.f21.ntmps, Try.f21.results.toList, (fun _ => [])⟩
theorem xk21 : XFOk Try.prog 21 xf21 := XFOk.mk Try.func21 (by kernel_rfl) rfl rfl rfl xd21
theorem xd22 : drawsOk (fun _ => []) (Try.f22.body.getD .skip) = true := by kernel_rfl
noncomputable def xf22 : XF := ⟨Try.f22.body.getD .skip, Try.f22.ntmps, Try.f22.results.toList, (fun _ => [])⟩
theorem xk22 : XFOk Try.prog 22 xf22 := XFOk.mk Try.func22 (by kernel_rfl) rfl rfl rfl xd22
def rw23 : DRows := fun id => (([(11, [(0, none), (1, none), (2, none), (3, none), (4, none), (5, none), (6, none), (7, none), (8, some [true, true, true, true, true, true, true, true]), (9, none), (10, some [true, true, true, true, true, true, true, true, true, true])])] : List (Nat × List (Nat × Option (List Bool)))).lookup id).getD []
theorem xd23 : drawsOk rw23 (Try.f23.body.getD .skip) = true := by kernel_rfl
noncomputable def xf23 : XF := ⟨Try.f23.body.getD .skip, Try.f23.ntmps, Try.f23.results.toList, rw23⟩
theorem xk23 : XFOk Try.prog 23 xf23 := XFOk.mk Try.func23 (by kernel_rfl) rfl rfl rfl xd23
theorem xd24 : drawsOk (fun _ => []) (Try.f24.body.getD .skip) = true := by kernel_rfl
noncomputable def xf24 : XF := ⟨Try.f24.body.getD .skip, Try.f24.ntmps, Try.f24.results.toList, (fun _ => [])⟩
theorem xk24 : XFOk Try.prog 24 xf24 := XFOk.mk Try.func24 (by kernel_rfl) rfl rfl rfl xd24
theorem xd25 : drawsOk (fun _ => []) (Try.f25.body.getD .skip) = true := by kernel_rfl
noncomputable def xf25 : XF := ⟨Try.f25.body.getD .skip, Try.f25.ntmps, Try.f25.results.toList, (fun _ => [])⟩
theorem xk25 : XFOk Try.prog 25 xf25 := XFOk.mk Try.func25 (by kernel_rfl) rfl rfl rfl xd25
def rw26 : DRows := fun id => (([(6, [(0, none), (1, none), (2, none), (3, none), (4, none), (5, some [true, true, true, true, true]), (6, none), (7, none), (8, none), (9, none), (10, none), (11, none), (12, none), (13, none), (14, none), (15, some [true, true, true, true, true, true, true, true, true, true, true, true, true, true, true]), (16, none)]), (11, [(0, none), (1, none), (2, none), (3, none), (4, none), (5, none), (6, none), (7, none), (8, none), (9, none), (10, none), (11, none), (12, none)])] : List (Nat × List (Nat × Option (List Bool)))).lookup id).getD []
theorem xd26 : drawsOk rw26 (Try.f26.body.getD .skip) = true := by kernel_rfl
noncomputable def xf26 : XF := ⟨Try.f26.body.getD .skip, Try.f26.ntmps, Try.f26.results.toList, rw26⟩
theorem xk26 : XFOk Try.prog 26 xf26 := XFOk.mk Try.func26 (by kernel_rfl) rfl rfl rfl xd26
def rw27 : DRows := fun id => (([(12, [(0, none), (1, none), (2, none), (3, none), (4, none), (5, none), (6, none), (7, none), (8, none), (9, none), (10, none), (11, none), (12, none), (13, some [false, false, false, false, false, false, true, true, true, true, true, true, true]), (14, none)])] : List (Nat × List (Nat × Option (List Bool)))).lookup id).getD []
theorem xd27 : drawsOk rw27 (Try.f27.body.getD .skip) = true := by kernel_rfl
noncomputable def xf27 : XF := ⟨Try.f27.body.getD .skip, Try.f27.ntmps, Try.f27.results.toList, rw27⟩
theorem xk27 : XFOk Try.prog 27 xf27 := XFOk.mk Try.func27 (by kernel_rfl) rfl rfl rfl xd27
def rw28 : DRows := fun id => (([(9, [(0, none), (1, none), (2, none), (3, none), (4, none), (5, none), (6, none), (7, none), (8, none), (9, none), (10, none), (11, none), (12, none), (13, none), (14, none), (15, none), (16, none), (17, none), (18, none), (19, none), (20, none), (21, none), (22, none), (23, none)])] : List (Nat × List (Nat × Option (List Bool)))).lookup id).getD []
theorem xd28 : drawsOk rw28 (Try.f28.body.getD .skip) = true := by kernel_rfl
noncomputable def xf28 : XF := ⟨Try.f28.body.getD .skip, Try.f28.ntmps, Try.f28.results.toList, rw28⟩
theorem xk28 : XFOk Try.prog 28 xf28 := XFOk.mk Try.func28 (by kernel_rfl) rfl rfl rfl xd28
def rw29 : DRows := fun id => (([(5, [(0, none), (1, none), (2, none), (3, none), (4, none), (5, none), (6, none), (7, none), (8, none)])] : List (Nat × List (Nat × Option (List Bool)))).lookup id).getD []
theorem xd29 : drawsOk rw29 (Try.f29.body.getD .skip) = true := by kernel_rfl
noncomputable def xf29 : XF := ⟨Try.f29.body.getD .skip, Try.f29.ntmps, Try.f29.results.toList, rw29⟩
theorem xk29 : XFOk Try.prog 29 xf29 := XFOk.mk Try.func29 (by kernel_rfl) rfl rfl rfl xd29
theorem xd30 : drawsOk (fun _ => []) (Try.f30.body.getD .skip) = true := by kernel_rfl
noncomputable def xf30 : XF := ⟨Try.f30.body.getD .skip, Try.f30.ntmps, Try.f30.results.toList, (fun _ => [])⟩
theorem xk30 : XFOk Try.prog 30 xf30 := XFOk.mk Try.func30 (by kernel_rfl) rfl rfl rfl xd30
theorem xd31 : drawsOk (fun _ => []) (Try.f31.body.getD .skip) = true := by kernel_rfl
noncomputable def xf31 : XF := ⟨Try.f31.body.getD .skip, Try.f31.ntmps, Try.f31.results.toList, (fun _ => [])⟩
theorem xk31 : XFOk Try.prog 31 xf31 := XFOk.mk Try.func31 (by kernel_rfl) rfl rfl rfl xd31
theorem xd32 : drawsOk (fun _ => []) (Try.f32.body.getD .skip) = true := by kernel_rfl
noncomputable def xf32 : XF := ⟨Try.f32.body.getD .skip, Try.f32.ntmps, Try.f32.results.toList, (fun _ => [])⟩
theorem xk32 : XFOk Try.prog 32 xf32 := XFOk.mk Try.func32 (by kernel_rfl) rfl rfl rfl xd32
theorem xd33 : drawsOk (fun _ => []) (Try.f33.body.getD .skip) = true := by kernel_rfl
noncomputable def xf33 : XF := ⟨Try.f33.body.getD .skip, Try.f33.ntmps, Try.f33.results.toList, (fun _ => [])⟩
theorem xk33 : XFOk Try.prog 33 xf33 := XFOk.mk Try.func33 (by kernel_rfl) rfl rfl rfl xd33
theorem xd34 : drawsOk (fun _ => []) (Try.f34.body.getD .skip) = true := by kernel_rfl
noncomputable def xf34 : XF := ⟨Try.f34.body.getD .skip, Try.f34.ntmps, Try.f34.results.toList, (fun _ => [])⟩
theorem xk34 : XFOk Try.prog 34 xf34 := XFOk.mk Try.func34 (by kernel_rfl) rfl rfl rfl xd34
def rw35 : DRows := fun id => (([(5, [(0, none), (1, none), (2, none), (3, none), (4, none), (5, none), (6, some [true, true, true, true, true, true]), (7, none)])] : List (Nat × List (Nat × Option (List Bool)))).lookup id).getD []
theorem xd35 : drawsOk rw35 (Try.f35.body.getD .skip) = true := by kernel_rfl
noncomputable def xf35 : XF := ⟨Try.f35.body.getD .skip, Try.f35.ntmps, Try.f35.results.toList, rw35⟩
theorem xk35 : XFOk Try.prog 35 xf35 := XFOk.mk Try.func35 (by kernel_rfl) rfl rfl rfl xd35
theorem xd36 : drawsOk (fun _ => []) (Try.f36.body.getD .skip) = true := by kernel_rfl
noncomputable def xf36 : XF := ⟨Try.f36.body.getD .skip, Try.f36.ntmps, Try.f36.results.toList, (fun _ => [])⟩
theorem xk36 : XFOk Try.prog 36 xf36 := XFOk.mk Try.func36 (by kernel_rfl) rfl rfl rfl xd36
theorem xd37 : drawsOk (fun _ => []) (Try.f37.body.getD .skip) = true := by kernel_rfl
noncomputable def xf37 : XF := ⟨Try.f37.body.getD .skip, Try.f37.ntmps, Try.f37.results.toList, (fun _ => [])⟩
theorem xk37 : XFOk Try.prog 37 xf37 := XFOk.mk Try.func37 (by kernel_rfl) rfl rfl rfl xd37
theorem xd38 : drawsOk (fun _ => []) (Try.f38.body.getD .skip) = true := by kernel_rfl
noncomputable def xf38 : XF := ⟨Try.f38.body.getD .skip, Try.f38.ntmps, Try.f38.results.toList, (fun _ => [])⟩
theorem xk38 : XFOk Try.prog 38 xf38 := XFOk.mk Try.func38 (by kernel_rfl) rfl rfl rfl xd38
theorem xd39 : drawsOk (fun _ => []) (Try.f39.body.getD .skip) = true := by kernel_rfl
noncomputable def xf39 : XF := ⟨Try.f39.body.getD .skip, Try.f39.ntmps, Try.f39.results.toList, (fun _ => [])⟩
theorem xk39 : XFOk Try.prog 39 xf39 := XFOk.mk Try.func39 (by kernel_rfl) rfl rfl rfl xd39
theorem xd40 : drawsOk (fun _ => []) (Try.f40.body.getD .skip) = true := by kernel_rfl
noncomputable def xf40 : XF := ⟨Try.f40.body.getD .skip, Try.f40.ntmps, Try.f40.results.toList, (fun _ => [])⟩
theorem xk40 : XFOk Try.prog 40 xf40 := XFOk.mk Try.func40 (by kernel_rfl) rfl rfl rfl xd40
def rw41 : DRows := fun id => (([(6, [(0, none), (1, none), (2, none), (3, none), (4, none), (5, none), (6, none), (7, none), (8, some [true, true, true, true, true, true, true, true]), (9, none), (10, some [true, true, true, true, true, true, true, true, true, true])])] : List (Nat × List (Nat × Option (List Bool)))).lookup id).getD []
theorem xd41 : drawsOk rw41 (Try.f41.body.getD .skip) = true := by kernel_rfl
noncomputable def xf41 : XF := ⟨Try.f41.body.getD .skip, Try.f41.ntmps, Try.f41.results.toList, rw41⟩
theorem xk41 : XFOk Try.prog 41 xf41 := XFOk.mk Try.func41 (by kernel_rfl) rfl rfl rfl xd41
theorem xd42 : drawsOk (fun _ => []) (Try.f42.body.getD .skip) = true := by kernel_rfl
noncomputable def xf42 : XF := ⟨Try.f42.body.getD .skip, Try.f42.ntmps, Try.f42.results.toList, (fun _ => [])⟩
theorem xk42 : XFOk Try.prog 42 xf42 := XFOk.mk Try.func42 (by kernel_rfl) rfl rfl rfl xd42
def rw43 : DRows := fun id => (([(6, [(0, none), (1, none), (2, none), (3, none), (4, none), (5, none), (6, none), (7, none), (8, none)])] : List (Nat × List (Nat × Option (List Bool)))).lookup id).getD []
theorem xd43 : drawsOk rw43 (Try.f43.body.getD .skip) = true := by kernel_rfl
noncomputable def xf43 : XF := ⟨Try.f43.body.getD .skip, Try.f43.ntmps, Try.f43.results.toList, rw43⟩
theorem xk43 : XFOk Try.prog 43 xf43 := XFOk.mk Try.func43 (by kernel_rfl) rfl rfl rfl xd43
theorem xd44 : drawsOk (fun _ => []) (Try.f44.body.getD .skip) = true := by kernel_rfl
noncomputable def xf44 : XF := ⟨Try.f44.body.getD .skip, Try.f44.ntmps, Try.f44.results.toList, (fun _ => [])⟩
theorem xk44 : XFOk Try.prog 44 xf44 := XFOk.mk Try.func44 (by kernel_rfl) rfl rfl rfl xd44
theorem xd45 : drawsOk (fun _ => []) (Try.f45.body.getD .skip) = true := by kernel_rfl
noncomputable def xf45 : XF := ⟨Try.f45.body.getD .skip, Try.f45.ntmps, Try.f45.results.toList, (fun _ => [])⟩
theorem xk45 : XFOk Try.prog 45 xf45 := XFOk.mk Try.func45 (by kernel_rfl) rfl rfl rfl xd45
theorem xd46 : drawsOk (fun _ => []) (Try.f46.body.getD .skip) = true := by kernel_rfl
noncomputable def xf46 : XF := ⟨Try.f46.body.getD .skip, Try.f46.ntmps, Try.f46.results.toList, (fun _ => [])⟩
theorem xk46 : XFOk Try.prog 46 xf46 := XFOk.mk Try.func46 (by kernel_rfl) rfl rfl rfl xd46
theorem xd47 : drawsOk (fun _ => []) (Try.f47.body.getD .skip) = true := by kernel_rfl
noncomputable def xf47 : XF := ⟨Try.f47.body.getD .skip, Try.f47.ntmps, Try.f47.results.toList, (fun _ => [])⟩
theorem xk47 : XFOk Try.prog 47 xf47 := XFOk.mk Try.func47 (by kernel_rfl) rfl rfl rfl xd47
theorem xd48 : drawsOk (fun _ => []) (Try.f48.body.getD .skip) = true := by kernel_rfl
noncomputable def xf48 : XF := ⟨Try.f48.body.getD .skip, Try.f48.ntmps, Try.f48.results.toList, (fun _ => [])⟩
theorem xk48 : XFOk Try.prog 48 xf48 := XFOk.mk Try.func48 (by kernel_rfl) rfl rfl rfl xd48
noncomputable def ft : TT XF := (.node 26 (.node 14 (.node 8 (.node 5 (.node 4 (.leaf 3 xf3) (.leaf 4 xf4)) (.node 6 (.leaf 5 xf5) (.node 7 (.leaf 6 xf6) (.leaf 7 xf7)))) (.node 11 (.node 9 (.leaf 8 xf8) (.node 10 (.leaf 9 xf9) (.leaf 10 xf10))) (.node 12 (.leaf 11 xf11) (.node 13 (.leaf 12 xf12) (.leaf 13 xf13))))) (.node 20 (.node 17 (.node 15 (.leaf 14 xf14) (.node 16 (.leaf 15 xf15) (.leaf 16 xf16))) (.node 18 (.leaf 17 xf17) (.node 19 (.leaf 18 xf18) (.leaf 19 xf19)))) (.node 23 (.node 21 (.leaf 20 xf20) (.node 22 (.leaf 21 xf21) (.leaf 22 xf22))) (.node 24 (.leaf 23 xf23) (.node 25 (.leaf 24 xf24) (.leaf 25 xf25)))))) (.node 37 (.node 31 (.node 28 (.node 27 (.leaf 26 xf26) (.leaf 27 xf27)) (.node 29 (.leaf 28 xf28) (.node 30 (.leaf 29 xf29) (.leaf 30 xf30)))) (.node 34 (.node 32 (.leaf 31 xf31) (.node 33 (.leaf 32 xf32) (.leaf 33 xf33))) (.node 35 (.leaf 34 xf34) (.node 36 (.leaf 35 xf35) (.leaf 36 xf36))))) (.node 43 (.node 40 (.node 38 (.leaf 37 xf37) (.node 39 (.leaf 38 xf38) (.leaf 39 xf39))) (.node 41 (.leaf 40 xf40) (.node 42 (.leaf 41 xf41) (.leaf 42 xf42)))) (.node 46 (.node 44 (.leaf 43 xf43) (.node 45 (.leaf 44 xf44) (.leaf 45 xf45))) (.node 47 (.leaf 46 xf46) (.node 48 (.leaf 47 xf47) (.leaf 48 xf48)))))))
theorem ftOk : ft.Ok (XFOk Try.prog) := ⟨⟨⟨⟨⟨xk3, xk4⟩, ⟨xk5, ⟨xk6, xk7⟩⟩⟩, ⟨⟨xk8, ⟨xk9, xk10⟩⟩, ⟨xk11, ⟨xk12, xk13⟩⟩⟩⟩, ⟨⟨⟨xk14, ⟨xk15, xk16⟩⟩, ⟨xk17, ⟨xk18, xk19⟩⟩⟩, ⟨⟨xk20, ⟨xk21, xk22⟩⟩, ⟨xk23, ⟨xk24, xk25⟩⟩⟩⟩⟩, ⟨⟨⟨⟨xk26, xk27⟩, ⟨xk28, ⟨xk29, xk30⟩⟩⟩, ⟨⟨xk31, ⟨xk32, xk33⟩⟩, ⟨xk34, ⟨xk35, xk36⟩⟩⟩⟩, ⟨⟨⟨xk37, ⟨xk38, xk39⟩⟩, ⟨xk40, ⟨xk41, xk42⟩⟩⟩, ⟨⟨xk43, ⟨xk44, xk45⟩⟩, ⟨xk46, ⟨xk47, xk48⟩⟩⟩⟩⟩⟩
noncomputable abbrev xcall (k : Nat) : XCall := xC Tl ft k
theorem closed_true {k : Nat} {f : FuncId} (h : xTrue (xC Tl ft k f [] ⟨0, []⟩) = true) (H : Heap) : WC Try.prog f [] H fun r H' => r = .bool true ∧ H' = H := WC_closed (xC_true hTl hmix ftOk h) H
end Go.Proofs.Ytgajdnlkcmjieaa
