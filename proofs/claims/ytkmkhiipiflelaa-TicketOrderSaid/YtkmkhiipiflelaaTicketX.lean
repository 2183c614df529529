import Derived.Test.YtkmkhiipiflelaaPiX
import Derived.Test.YtkmkhiipiflelaaTicketTd
/-! Tables by which the kernel carries calls out. Written by wip/gen/xgen.py. -/
set_option linter.unusedSimpArgs false
set_option linter.unusedVariables false
set_option maxRecDepth 100000
namespace Go.Proofs.Ytkmkhiipiflelaa
open Go Go.Proofs Go.Proofs.PI
def tt : TT TD := (.node 58 (.node 29 (.node 14 (.node 7 (.node 3 (.node 1 (.leaf 0 ⟨.other, 1, 0, [.junk], false⟩) (.node 2 (.leaf 1 ⟨.func, 1, 8, [.nilf], false⟩) (.leaf 2 ⟨.int .i64, 1, 8, [.int .i64 0], false⟩))) (.node 5 (.node 4 (.leaf 3 ⟨.int .i64, 1, 8, [.int .i64 0], false⟩) (.leaf 4 ⟨.bool, 1, 1, [.bool false], false⟩)) (.node 6 (.leaf 5 ⟨.int .u8, 1, 1, [.int .u8 0], false⟩) (.leaf 6 ⟨.int .u8, 1, 1, [.int .u8 0], false⟩)))) (.node 10 (.node 8 (.leaf 7 ⟨.struct [(0, 2), (1, 3), (2, 4), (3, 6)], 4, 24, [.int .i64 0, .int .i64 0, .bool false, .int .u8 0], true⟩) (.node 9 (.leaf 8 ⟨.struct [(0, 2), (1, 3), (2, 4), (3, 6)], 4, 24, [.int .i64 0, .int .i64 0, .bool false, .int .u8 0], true⟩) (.leaf 9 ⟨.str, 1, 16, [.str []], false⟩))) (.node 12 (.node 11 (.leaf 10 ⟨.str, 1, 16, [.str []], false⟩) (.leaf 11 ⟨.str, 1, 16, [.str []], false⟩)) (.node 13 (.leaf 12 ⟨.int .u64, 1, 8, [.int .u64 0], false⟩) (.leaf 13 ⟨.struct [(0, 9), (1, 12)], 2, 24, [.str [], .int .u64 0], false⟩))))) (.node 21 (.node 17 (.node 15 (.leaf 14 ⟨.struct [(0, 9), (1, 12)], 2, 24, [.str [], .int .u64 0], false⟩) (.node 16 (.leaf 15 ⟨.ptr 103, 1, 8, [.nilp], false⟩) (.leaf 16 ⟨.ptr 106, 1, 8, [.nilp], false⟩))) (.node 19 (.node 18 (.leaf 17 ⟨.ptr 115, 1, 8, [.nilp], false⟩) (.leaf 18 ⟨.struct [(0, 17)], 1, 8, [.nilp], false⟩)) (.node 20 (.leaf 19 ⟨.struct [(0, 17)], 1, 8, [.nilp], false⟩) (.leaf 20 ⟨.other, 1, 16, [.junk], false⟩)))) (.node 25 (.node 23 (.node 22 (.leaf 21 ⟨.int .i32, 1, 4, [.int .i32 0], false⟩) (.leaf 22 ⟨.slice 31, 1, 24, [.nils], false⟩)) (.node 24 (.leaf 23 ⟨.struct [(0, 3), (1, 22)], 2, 32, [.int .i64 0, .nils], true⟩) (.leaf 24 ⟨.struct [(0, 3), (1, 22)], 2, 32, [.int .i64 0, .nils], true⟩))) (.node 27 (.node 26 (.leaf 25 ⟨.func, 1, 8, [.nilf], false⟩) (.leaf 26 ⟨.func, 1, 8, [.nilf], false⟩)) (.node 28 (.leaf 27 ⟨.slice 3, 1, 24, [.nils], false⟩) (.leaf 28 ⟨.int .i64, 1, 8, [.int .i64 0], false⟩)))))) (.node 43 (.node 36 (.node 32 (.node 30 (.leaf 29 ⟨.other, 1, 0, [.junk], false⟩) (.node 31 (.leaf 30 ⟨.func, 1, 8, [.nilf], false⟩) (.leaf 31 ⟨.slice 38, 1, 24, [.nils], false⟩))) (.node 34 (.node 33 (.leaf 32 ⟨.slice 9, 1, 24, [.nils], false⟩) (.leaf 33 ⟨.int .u32, 1, 4, [.int .u32 0], false⟩)) (.node 35 (.leaf 34 ⟨.int .u64, 1, 8, [.int .u64 0], false⟩) (.leaf 35 ⟨.struct [(0, 5), (1, 3), (2, 32), (3, 9), (4, 33), (5, 3), (6, 34), (7, 34)], 8, 88, [.int .u8 0, .int .i64 0, .nils, .str [], .int .u32 0, .int .i64 0, .int .u64 0, .int .u64 0], true⟩)))) (.node 39 (.node 37 (.leaf 36 ⟨.struct [(0, 5), (1, 3), (2, 32), (3, 9), (4, 33), (5, 3), (6, 34), (7, 34)], 8, 88, [.int .u8 0, .int .i64 0, .nils, .str [], .int .u32 0, .int .i64 0, .int .u64 0, .int .u64 0], true⟩) (.node 38 (.leaf 37 ⟨.struct [(0, 3), (1, 5), (2, 36), (10, 3), (11, 3)], 12, 120, [.int .i64 0, .int .u8 0, .int .u8 0, .int .i64 0, .nils, .str [], .int .u32 0, .int .i64 0, .int .u64 0, .int .u64 0, .int .i64 0, .int .i64 0], true⟩) (.leaf 38 ⟨.struct [(0, 3), (1, 5), (2, 36), (10, 3), (11, 3)], 12, 120, [.int .i64 0, .int .u8 0, .int .u8 0, .int .i64 0, .nils, .str [], .int .u32 0, .int .i64 0, .int .u64 0, .int .u64 0, .int .i64 0, .int .i64 0], true⟩))) (.node 41 (.node 40 (.leaf 39 ⟨.other, 1, 0, [.junk], false⟩) (.leaf 40 ⟨.func, 1, 8, [.nilf], false⟩)) (.node 42 (.leaf 41 ⟨.other, 1, 0, [.junk], false⟩) (.leaf 42 ⟨.func, 1, 8, [.nilf], false⟩))))) (.node 50 (.node 46 (.node 44 (.leaf 43 ⟨.func, 1, 8, [.nilf], false⟩) (.node 45 (.leaf 44 ⟨.func, 1, 8, [.nilf], false⟩) (.leaf 45 ⟨.other, 1, 0, [.junk], false⟩))) (.node 48 (.node 47 (.leaf 46 ⟨.func, 1, 8, [.nilf], false⟩) (.leaf 47 ⟨.func, 1, 8, [.nilf], false⟩)) (.node 49 (.leaf 48 ⟨.func, 1, 8, [.nilf], false⟩) (.leaf 49 ⟨.other, 1, 0, [.junk], false⟩)))) (.node 54 (.node 52 (.node 51 (.leaf 50 ⟨.func, 1, 8, [.nilf], false⟩) (.leaf 51 ⟨.func, 1, 8, [.nilf], false⟩)) (.node 53 (.leaf 52 ⟨.other, 1, 0, [.junk], false⟩) (.leaf 53 ⟨.func, 1, 8, [.nilf], false⟩))) (.node 56 (.node 55 (.leaf 54 ⟨.other, 1, 0, [.junk], false⟩) (.leaf 55 ⟨.func, 1, 8, [.nilf], false⟩)) (.node 57 (.leaf 56 ⟨.func, 1, 8, [.nilf], false⟩) (.leaf 57 ⟨.other, 1, 0, [.junk], false⟩))))))) (.node 87 (.node 72 (.node 65 (.node 61 (.node 59 (.leaf 58 ⟨.func, 1, 8, [.nilf], false⟩) (.node 60 (.leaf 59 ⟨.func, 1, 8, [.nilf], false⟩) (.leaf 60 ⟨.func, 1, 8, [.nilf], false⟩))) (.node 63 (.node 62 (.leaf 61 ⟨.func, 1, 8, [.nilf], false⟩) (.leaf 62 ⟨.func, 1, 8, [.nilf], false⟩)) (.node 64 (.leaf 63 ⟨.func, 1, 8, [.nilf], false⟩) (.leaf 64 ⟨.func, 1, 8, [.nilf], false⟩)))) (.node 68 (.node 66 (.leaf 65 ⟨.func, 1, 8, [.nilf], false⟩) (.node 67 (.leaf 66 ⟨.slice 5, 1, 24, [.nils], false⟩) (.leaf 67 ⟨.func, 1, 8, [.nilf], false⟩))) (.node 70 (.node 69 (.leaf 68 ⟨.func, 1, 8, [.nilf], false⟩) (.leaf 69 ⟨.func, 1, 8, [.nilf], false⟩)) (.node 71 (.leaf 70 ⟨.func, 1, 8, [.nilf], false⟩) (.leaf 71 ⟨.func, 1, 8, [.nilf], false⟩))))) (.node 79 (.node 75 (.node 73 (.leaf 72 ⟨.func, 1, 8, [.nilf], false⟩) (.node 74 (.leaf 73 ⟨.func, 1, 8, [.nilf], false⟩) (.leaf 74 ⟨.func, 1, 8, [.nilf], false⟩))) (.node 77 (.node 76 (.leaf 75 ⟨.func, 1, 8, [.nilf], false⟩) (.leaf 76 ⟨.func, 1, 8, [.nilf], false⟩)) (.node 78 (.leaf 77 ⟨.func, 1, 8, [.nilf], false⟩) (.leaf 78 ⟨.func, 1, 8, [.nilf], false⟩)))) (.node 83 (.node 81 (.node 80 (.leaf 79 ⟨.func, 1, 8, [.nilf], false⟩) (.leaf 80 ⟨.func, 1, 8, [.nilf], false⟩)) (.node 82 (.leaf 81 ⟨.func, 1, 8, [.nilf], false⟩) (.leaf 82 ⟨.func, 1, 8, [.nilf], false⟩))) (.node 85 (.node 84 (.leaf 83 ⟨.func, 1, 8, [.nilf], false⟩) (.leaf 84 ⟨.func, 1, 8, [.nilf], false⟩)) (.node 86 (.leaf 85 ⟨.func, 1, 8, [.nilf], false⟩) (.leaf 86 ⟨.func, 1, 8, [.nilf], false⟩)))))) (.node 102 (.node 94 (.node 90 (.node 88 (.leaf 87 ⟨.func, 1, 8, [.nilf], false⟩) (.node 89 (.leaf 88 ⟨.func, 1, 8, [.nilf], false⟩) (.leaf 89 ⟨.func, 1, 8, [.nilf], false⟩))) (.node 92 (.node 91 (.leaf 90 ⟨.func, 1, 8, [.nilf], false⟩) (.leaf 91 ⟨.other, 1, 0, [.junk], false⟩)) (.node 93 (.leaf 92 ⟨.func, 1, 8, [.nilf], false⟩) (.leaf 93 ⟨.func, 1, 8, [.nilf], false⟩)))) (.node 98 (.node 96 (.node 95 (.leaf 94 ⟨.func, 1, 8, [.nilf], false⟩) (.leaf 95 ⟨.func, 1, 8, [.nilf], false⟩)) (.node 97 (.leaf 96 ⟨.func, 1, 8, [.nilf], false⟩) (.leaf 97 ⟨.func, 1, 8, [.nilf], false⟩))) (.node 100 (.node 99 (.leaf 98 ⟨.other, 1, 0, [.junk], false⟩) (.leaf 99 ⟨.func, 1, 8, [.nilf], false⟩)) (.node 101 (.leaf 100 ⟨.func, 1, 8, [.nilf], false⟩) (.leaf 101 ⟨.func, 1, 8, [.nilf], false⟩))))) (.node 109 (.node 105 (.node 103 (.leaf 102 ⟨.struct [(0, 17), (1, 17), (2, 17), (3, 9)], 4, 40, [.nilp, .nilp, .nilp, .str []], false⟩) (.node 104 (.leaf 103 ⟨.struct [(0, 17), (1, 17), (2, 17), (3, 9)], 4, 40, [.nilp, .nilp, .nilp, .str []], false⟩) (.leaf 104 ⟨.other, 0, 0, [], false⟩))) (.node 107 (.node 106 (.leaf 105 ⟨.struct [(0, 104)], 0, 0, [], false⟩) (.leaf 106 ⟨.struct [(0, 104)], 0, 0, [], false⟩)) (.node 108 (.leaf 107 ⟨.func, 1, 8, [.nilf], false⟩) (.leaf 108 ⟨.int .u8, 1, 1, [.int .u8 0], false⟩)))) (.node 113 (.node 111 (.node 110 (.leaf 109 ⟨.int .u8, 1, 1, [.int .u8 0], false⟩) (.leaf 110 ⟨.func, 1, 8, [.nilf], false⟩)) (.node 112 (.leaf 111 ⟨.ptr 5, 1, 8, [.nilp], false⟩) (.leaf 112 ⟨.int .i32, 1, 4, [.int .i32 0], false⟩))) (.node 115 (.node 114 (.leaf 113 ⟨.int .i32, 1, 4, [.int .i32 0], false⟩) (.leaf 114 ⟨.struct [(0, 12), (1, 12), (2, 33), (3, 108), (4, 5), (5, 5), (6, 109), (7, 110), (8, 111), (9, 112), (10, 113)], 11, 48, [.int .u64 0, .int .u64 0, .int .u32 0, .int .u8 0, .int .u8 0, .int .u8 0, .int .u8 0, .nilf, .nilp, .int .i32 0, .int .i32 0], false⟩)) (.node 116 (.leaf 115 ⟨.struct [(0, 12), (1, 12), (2, 33), (3, 108), (4, 5), (5, 5), (6, 109), (7, 110), (8, 111), (9, 112), (10, 113)], 11, 48, [.int .u64 0, .int .u64 0, .int .u32 0, .int .u8 0, .int .u8 0, .int .u8 0, .int .u8 0, .nilf, .nilp, .int .i32 0, .int .i32 0], false⟩) (.leaf 116 ⟨.other, 1, 8, [.nilp], false⟩))))))))
theorem ttOk : tt.Ok (fun t d => tdOf Try.prog t = some d) := ⟨⟨⟨⟨⟨⟨td0, ⟨td1, td2⟩⟩, ⟨⟨td3, td4⟩, ⟨td5, td6⟩⟩⟩, ⟨⟨td7, ⟨td8, td9⟩⟩, ⟨⟨td10, td11⟩, ⟨td12, td13⟩⟩⟩⟩, ⟨⟨⟨td14, ⟨td15, td16⟩⟩, ⟨⟨td17, td18⟩, ⟨td19, td20⟩⟩⟩, ⟨⟨⟨td21, td22⟩, ⟨td23, td24⟩⟩, ⟨⟨td25, td26⟩, ⟨td27, td28⟩⟩⟩⟩⟩, ⟨⟨⟨⟨td29, ⟨td30, td31⟩⟩, ⟨⟨td32, td33⟩, ⟨td34, td35⟩⟩⟩, ⟨⟨td36, ⟨td37, td38⟩⟩, ⟨⟨td39, td40⟩, ⟨td41, td42⟩⟩⟩⟩, ⟨⟨⟨td43, ⟨td44, td45⟩⟩, ⟨⟨td46, td47⟩, ⟨td48, td49⟩⟩⟩, ⟨⟨⟨td50, td51⟩, ⟨td52, td53⟩⟩, ⟨⟨td54, td55⟩, ⟨td56, td57⟩⟩⟩⟩⟩⟩, ⟨⟨⟨⟨⟨td58, ⟨td59, td60⟩⟩, ⟨⟨td61, td62⟩, ⟨td63, td64⟩⟩⟩, ⟨⟨td65, ⟨td66, td67⟩⟩, ⟨⟨td68, td69⟩, ⟨td70, td71⟩⟩⟩⟩, ⟨⟨⟨td72, ⟨td73, td74⟩⟩, ⟨⟨td75, td76⟩, ⟨td77, td78⟩⟩⟩, ⟨⟨⟨td79, td80⟩, ⟨td81, td82⟩⟩, ⟨⟨td83, td84⟩, ⟨td85, td86⟩⟩⟩⟩⟩, ⟨⟨⟨⟨td87, ⟨td88, td89⟩⟩, ⟨⟨td90, td91⟩, ⟨td92, td93⟩⟩⟩, ⟨⟨⟨td94, td95⟩, ⟨td96, td97⟩⟩, ⟨⟨td98, td99⟩, ⟨td100, td101⟩⟩⟩⟩, ⟨⟨⟨td102, ⟨td103, td104⟩⟩, ⟨⟨td105, td106⟩, ⟨td107, td108⟩⟩⟩, ⟨⟨⟨td109, td110⟩, ⟨td111, td112⟩⟩, ⟨⟨td113, td114⟩, ⟨td115, td116⟩⟩⟩⟩⟩⟩⟩
noncomputable abbrev Tl : TypeId → Option TD := tt.get
theorem hTl : TOk Try.prog Tl := fun t d h => ttOk.get h
theorem xd3 : drawsOk (fun _ => []) (Try.f3.body.getD .skip) = true := by kernel_rfl
noncomputable def xf3 : XF := ⟨Try.f3.body.getD .skip, Try.f3.ntmps, Try.f3.results.toList, (fun _ => [])⟩
theorem xk3 : XFOk Try.prog 3 xf3 := XFOk.mk Try.func3 (by kernel_rfl) rfl rfl rfl xd3
def rw4 : DRows := fun id => (([(2, [(0, none), (1, some [false]), (2, none), (3, some [true, true, false]), (4, some [true, true, true, true]), (5, none), (6, none), (7, none), (8, none), (9, some [false, false, true, true, true, true, true, true, true])]), (3, [(0, none), (1, some [false]), (2, some [true, false]), (3, none), (4, some [true, true, true, false]), (5, some [true, true, true, true, true]), (6, none), (7, none), (8, none), (9, none), (10, some [false, false, true, true, true, true, true, true, true, true])]), (4, [(0, none), (1, some [false]), (2, none), (3, some [true, true, false]), (4, some [true, true, true, true]), (5, none), (6, none), (7, none), (8, none), (9, some [false, false, true, true, true, true, true, true, true])])] : List (Nat × List (Nat × Option (List Bool)))).lookup id).getD []
theorem xd4 : drawsOk rw4 (Try.f4.body.getD .skip) = true := by kernel_rfl
noncomputable def xf4 : XF := ⟨Try.f4.body.getD .skip, Try.f4.ntmps, Try.f4.results.toList, rw4⟩
theorem xk4 : XFOk Try.prog 4 xf4 := XFOk.mk Try.func4 (by kernel_rfl) rfl rfl rfl xd4
def rw5 : DRows := fun id => (([(15, [(0, none), (1, none), (2, some [true, true]), (3, none), (4, none), (5, none), (6, none), (7, none), (8, none), (9, none), (10, none), (11, some [true, true, true, true, true, true, true, true, true, true, true]), (12, none), (13, none), (14, none), (15, none), (16, some [true, true, true, true, true, true, true, true, true, true, true, true, true, true, true, true]), (17, none), (18, none), (19, none), (20, none), (21, none), (22, none), (23, none), (24, none), (26, none), (25, some [false, true, true, true, true, true, true, true, true, true, true, true, true, true, true, true, true, true, true, true, true, true, true, true, true, true]), (27, some [true, true, true, true, true, true, true, true, true, true, true, true, true, true, true, true, true, true, true, true, true, true, true, true, true, true, true]), (28, none), (29, none), (30, none)])] : List (Nat × List (Nat × Option (List Bool)))).lookup id).getD []
theorem xd5 : drawsOk rw5 (Try.f5.body.getD .skip) = true := by kernel_rfl
noncomputable def xf5 : XF := ⟨Try.f5.body.getD .skip, Try.f5.ntmps, Try.f5.results.toList, rw5⟩
theorem xk5 : XFOk Try.prog 5 xf5 := XFOk.mk Try.func5 (by kernel_rfl) rfl rfl rfl xd5
def rw6 : DRows := fun id => (([(11, [(0, none), (1, none), (2, none), (3, none), (4, none), (10, none), (5, some [false, true, true, true, true, true]), (6, none), (7, none), (8, none), (9, none), (11, some [false, false, true, true, true, true, true, true, true, true, true]), (12, none), (13, none)]), (26, [(0, none), (1, none), (2, none), (3, none), (4, none), (10, none), (11, none), (5, some [false, false, true, true, true, true, true]), (6, none), (7, none), (8, none), (9, none), (12, some [false, false, true, true, true, true, true, true, true, true, true, true]), (13, some [true, false, true, true, true, true, true, true, true, true, true, true, true]), (14, none)])] : List (Nat × List (Nat × Option (List Bool)))).lookup id).getD []
theorem xd6 : drawsOk rw6 (Try.f6.body.getD .skip) = true := by kernel_rfl
noncomputable def xf6 : XF := ⟨Try.f6.body.getD .skip, Try.f6.ntmps, Try.f6.results.toList, rw6⟩
theorem xk6 : XFOk Try.prog 6 xf6 := XFOk.mk Try.func6 (by kernel_rfl) rfl rfl rfl xd6
def rw7 : DRows := fun id => (([(2, [(0, none), (1, some [false]), (2, none), (3, some [true, true, false]), (4, some [true, true, true, true]), (5, none), (6, none), (7, none), (8, none), (9, some [false, false, true, true, true, true, true, true, true]), (10, none), (11, none)]), (3, [(0, none), (1, some [false]), (2, some [true, false]), (3, none), (4, some [true, true, true, false]), (5, some [true, true, true, true, true]), (6, none), (7, none), (8, none), (9, none), (10, some [false, false, true, true, true, true, true, true, true, true]), (11, none), (12, none)]), (4, [(0, none), (1, some [false]), (2, none), (3, some [true, true, false]), (4, some [true, true, true, true]), (5, none), (6, none), (7, none), (8, none), (9, some [false, false, true, true, true, true, true, true, true]), (10, none), (11, none)])] : List (Nat × List (Nat × Option (List Bool)))).lookup id).getD []
theorem xd7 : drawsOk rw7 (Try.f7.body.getD .skip) = true := by kernel_rfl
noncomputable def xf7 : XF := ⟨Try.f7.body.getD .skip, Try.f7.ntmps, Try.f7.results.toList, rw7⟩
theorem xk7 : XFOk Try.prog 7 xf7 := XFOk.mk Try.func7 (by kernel_rfl) rfl rfl rfl xd7
theorem xd8 : drawsOk (fun _ => []) (Try.f8.body.getD .skip) = true := by kernel_rfl
noncomputable def xf8 : XF := ⟨Try.f8.body.getD .skip, Try.f8.ntmps, Try.f8.results.toList, (fun _ => [])⟩
theorem xk8 : XFOk Try.prog 8 xf8 := XFOk.mk Try.func8 (by kernel_rfl) rfl rfl rfl xd8
theorem xd9 : drawsOk (fun _ => []) (Try.f9.body.getD .skip) = true := by kernel_rfl
noncomputable def xf9 : XF := ⟨Try.f9.body.getD .skip, Try.f9.ntmps, Try.f9.results.toList, (fun _ => [])⟩
theorem xk9 : XFOk Try.prog 9 xf9 := XFOk.mk Try.func9 (by kernel_rfl) rfl rfl rfl xd9
theorem xd10 : drawsOk (fun _ => []) (Try.f10.body.getD .skip) = true := by kernel_rfl
noncomputable def xf10 : XF := ⟨Try.f10.body.getD .skip, Try.f10.ntmps, Try.f10.results.toList, (fun _ => [])⟩
theorem xk10 : XFOk Try.prog 10 xf10 := XFOk.mk Try.func10 (by kernel_rfl) rfl rfl rfl xd10
def rw11 : DRows := fun id => (([(14, [(0, none), (1, none), (2, none), (3, none), (4, none), (5, none), (6, none), (7, none), (8, none), (9, some [true, false, false, false, false, false, false, false, false]), (10, none), (11, some [true, true, true, true, true, true, true, true, false, false, false]), (12, none), (13, some [true, true, true, true, true, true, true, true, true, true, true, true, true])]), (17, [(0, none), (1, none), (2, none), (3, some [false, false, true]), (4, none), (5, none)])] : List (Nat × List (Nat × Option (List Bool)))).lookup id).getD []
theorem xd11 : drawsOk rw11 (Try.f11.body.getD .skip) = true := by kernel_rfl
noncomputable def xf11 : XF := ⟨Try.f11.body.getD .skip, Try.f11.ntmps, Try.f11.results.toList, rw11⟩
theorem xk11 : XFOk Try.prog 11 xf11 := XFOk.mk Try.func11 (by kernel_rfl) rfl rfl rfl xd11
theorem xd12 : drawsOk (fun _ => []) (Try.f12.body.getD .skip) = true := by kernel_rfl
noncomputable def xf12 : XF := ⟨Try.f12.body.getD .skip, Try.f12.ntmps, Try.f12.results.toList, (fun _ => [])⟩
theorem xk12 : XFOk Try.prog 12 xf12 := XFOk.mk Try.func12 (by kernel_rfl) rfl rfl rfl xd12
theorem xd13 : drawsOk (fun _ => []) (Try.f13.body.getD .skip) = true := by kernel_rfl
noncomputable def xf13 : XF := ⟨Try.f13.body.getD .skip, Try.f13.ntmps, Try.f13.results.toList, (fun _ => [])⟩
theorem xk13 : XFOk Try.prog 13 xf13 := XFOk.mk Try.func13 (by kernel_rfl) rfl rfl rfl xd13
def rw14 : DRows := fun id => (([(14, [(0, none), (1, none), (2, none), (3, none), (4, none), (5, none), (6, none), (7, none), (8, none), (9, none), (10, some [true, true, true, true, true, true, true, true, true, true])]), (16, [(0, none), (1, none), (2, some [true, false]), (3, some [true, true, true]), (4, some [true, true, true, true]), (5, none)])] : List (Nat × List (Nat × Option (List Bool)))).lookup id).getD []
theorem xd14 : drawsOk rw14 (Try.f14.body.getD .skip) = true := by kernel_rfl
noncomputable def xf14 : XF := ⟨Try.f14.body.getD .skip, Try.f14.ntmps, Try.f14.results.toList, rw14⟩
theorem xk14 : XFOk Try.prog 14 xf14 := XFOk.mk Try.func14 (by kernel_rfl) rfl rfl rfl xd14
theorem xd15 : drawsOk (fun _ => []) (Try.f15.body.getD .skip) = true := by kernel_rfl
noncomputable def xf15 : XF := ⟨Try.f15.body.getD .skip, Try.f15.ntmps, Try.f15.results.toList, (fun _ => [])⟩
theorem xk15 : XFOk Try.prog 15 xf15 := XFOk.mk Try.func15 (by kernel_rfl) rfl rfl rfl xd15
def rw16 : DRows := fun id => (([(11, [(0, none), (1, none), (2, none), (3, none), (4, none), (5, none), (6, none), (7, none), (8, none), (9, none), (10, none), (11, none), (12, none), (13, some [true, true, true, true, true, true, true, true, true, true, true, true, true]), (14, none), (15, none), (16, some [true, true, true, true, true, true, true, true, true, true, true, true, true, true, true, true])])] : List (Nat × List (Nat × Option (List Bool)))).lookup id).getD []
theorem xd16 : drawsOk rw16 (Try.f16.body.getD .skip) = true := by kernel_rfl
noncomputable def xf16 : XF := ⟨Try.f16.body.getD .skip, Try.f16.ntmps, Try.f16.results.toList, rw16⟩
theorem xk16 : XFOk Try.prog 16 xf16 := XFOk.mk Try.func16 (by kernel_rfl) rfl rfl rfl xd16
theorem xd17 : drawsOk (fun _ => []) (Try.f17.body.getD .skip) = true := by kernel_rfl
noncomputable def xf17 : XF := ⟨Try.f17.body.getD .skip, Try.f17.ntmps, Try.f17.results.toList, (fun _ => [])⟩
theorem xk17 : XFOk Try.prog 17 xf17 := XFOk.mk Try.func17 (by kernel_rfl) rfl rfl rfl xd17
theorem xd18 : drawsOk (fun _ => []) (Try.f18.body.getD .skip) = true := by kernel_rfl
noncomputable def xf18 : XF := ⟨Try.f18.body.getD .skip, Try.f18.ntmps, Try.f18.results.toList, (fun _ => [])⟩
theorem xk18 : XFOk Try.prog 18 xf18 := XFOk.mk Try.func18 (by kernel_rfl) rfl rfl rfl xd18
theorem xd19 : drawsOk (fun _ => []) (Try.f19.body.getD .skip) = true := by kernel_rfl
noncomputable def xf19 : XF := ⟨Try.f19.body.getD .skip, Try.f19.ntmps, Try.f19.results.toList, (fun _ => [])⟩
theorem xk19 : XFOk Try.prog 19 xf19 := XFOk.mk Try.func19 (by kernel_rfl) rfl rfl rfl xd19
def rw20 : DRows := fun id => (([(7, [(0, none), (1, none), (2, none), (3, none), (4, none), (5, none), (6, none), (7, none), (8, none), (9, none), (10, none), (11, none), (12, none), (13, none), (14, none)]), (14, [(0, none), (1, none), (2, none), (3, none), (4, none), (5, none), (6, none), (7, none), (8, none), (9, none), (10, none), (11, none), (12, none), (13, none), (14, none), (15, none), (16, some [true, true, true, true, true, true, true, true, true, true, false, false, false, false, false, false]), (17, none), (18, some [true, true, true, true, true, true, true, true, true, true, true, true, true, true, true, true, true, true])]), (16, [(0, none), (1, none), (2, none), (3, some [false, false, true]), (4, none), (5, none)])] : List (Nat × List (Nat × Option (List Bool)))).lookup id).getD []
theorem xd20 : drawsOk rw20 (Try.f20.body.getD .skip) = true := by kernel_rfl
noncomputable def xf20 : XF := ⟨Try.f20.body.getD .skip, Try.f20.ntmps, Try.f20.results.toList, rw20⟩
theorem xk20 : XFOk Try.prog 20 xf20 := XFOk.mk Try.func20 (by kernel_rfl) rfl rfl rfl xd20
theorem xd21 : drawsOk (fun _ => []) (Try.f21.body.getD .skip) = true := by kernel_rfl
noncomputable def xf21 : XF := ⟨Try.f21.body.getD .skip, Try.f21.ntmps, Try.f21.results.toList, (fun _ => [])⟩
theorem xk21 : XFOk Try.prog 21 xf21 := XFOk.mk Try.func21 (by kernel_rfl) rfl rfl rfl xd21
def rw22 : DRows := fun id => (([(13, [(0, none), (1, none), (2, none), (3, none), (4, none), (5, none), (6, none), (7, none), (8, none), (9, none), (10, none), (11, none), (12, none), (13, none), (14, none), (15, none), (16, some [true, true, true, true, true, true, true, true, true, true, true, true, true, true, true, true])]), (14, [(0, none), (1, none), (2, some [false, true]), (3, some [true, true, true]), (4, none)])] : List (Nat × List (Nat × Option (List Bool)))).lookup id).getD []
theorem xd22 : drawsOk rw22 (Try.f22.body.getD .skip) = true := by kernel_rfl
noncomputable def xf22 : XF := ⟨Try.f22.body.getD .skip, Try.f22.ntmps, Try.f22.results.toList, rw22⟩
theorem xk22 : XFOk Try.prog 22 xf22 := XFOk.mk Try.func22 (by kernel_rfl) rfl rfl rfl xd22
def rw23 : DRows := fun id => (([(6, [(0, none), (1, none), (2, none), (3, none), (4, none), (5, none), (6, none), (7, none), (8, none), (9, none), (10, none), (11, none), (12, none)]), (11, [(0, none), (1, none), (2, none), (3, none), (4, none), (5, none), (6, none), (7, none), (8, none), (9, none), (10, none), (11, none), (12, none), (13, none), (14, none), (15, none), (16, some [true, true, true, true, true, true, true, true, true, true, true, true, true, true, true, true]), (17, none)])] : List (Nat × List (Nat × Option (List Bool)))).lookup id).getD []
theorem xd23 : drawsOk rw23 (Try.f23.body.getD .skip) = true := by kernel_rfl
noncomputable def xf23 : XF := ⟨Try.f23.body.getD .skip, Try.f23.ntmps, Try.f23.results.toList, rw23⟩
theorem xk23 : XFOk Try.prog 23 xf23 := XFOk.mk Try.func23 (by kernel_rfl) rfl rfl rfl xd23
def rw24 : DRows := fun id => (([(6, [(0, none), (1, none), (2, none), (3, none), (4, none), (5, none), (6, none), (7, none), (8, none)])] : List (Nat × List (Nat × Option (List Bool)))).lookup id).getD []
theorem xd24 : drawsOk rw24 (Try.f24.body.getD .skip) = true := by kernel_rfl
noncomputable def xf24 : XF := ⟨Try.f24.body.getD .skip, Try.f24.ntmps, Try.f24.results.toList, rw24⟩
theorem xk24 : XFOk Try.prog 24 xf24 := XFOk.mk Try.func24 (by kernel_rfl) rfl rfl rfl xd24
theorem xd25 : drawsOk (fun _ => []) (Try.f25.body.getD .skip) = true := by kernel_rfl
noncomputable def xf25 : XF := ⟨Try.f25.body.getD .skip, Try.f25.ntmps, Try.f25.results.toList, (fun _ => [])⟩
theorem xk25 : XFOk Try.prog 25 xf25 := XFOk.mk Try.func25 (by kernel_rfl) rfl rfl rfl xd25
def rw26 : DRows := fun id => (([(13, [(0, none), (1, some [true]), (2, none), (3, none), (4, none), (5, none), (6, none), (7, none), (8, none), (9, none), (10, none), (11, none), (12, none), (13, none), (14, none), (15, none), (16, none), (17, none), (18, none), (20, none), (21, none), (19, some [false, false, true, true, true, true, true, true, true, true, true, true, true, true, true, true, true, true, true, true, true]), (22, some [true, true, true, true, true, true, true, true, true, true, true, true, true, true, true, true, true, true, true, true, true, true]), (23, some [true, true, true, true, true, true, true, true, true, true, true, true, true, true, true, true, true, true, true, true, true, true, true]), (24, none), (25, none)])] : List (Nat × List (Nat × Option (List Bool)))).lookup id).getD []
theorem xd26 : drawsOk rw26 (Try.f26.body.getD .skip) = true := by kernel_rfl
noncomputable def xf26 : XF := ⟨Try.f26.body.getD .skip, Try.f26.ntmps, Try.f26.results.toList, rw26⟩
theorem xk26 : XFOk Try.prog 26 xf26 := XFOk.mk Try.func26 (by kernel_rfl) rfl rfl rfl xd26
theorem xd27 : drawsOk (fun _ => []) (Try.f27.body.getD .skip) = true := by kernel_rfl
noncomputable def xf27 : XF := ⟨Try.f27.body.getD .skip, Try.f27.ntmps, Try.f27.results.toList, (fun _ => [])⟩
theorem xk27 : XFOk Try.prog 27 xf27 := XFOk.mk Try.func27 (by kernel_rfl) rfl rfl rfl xd27
theorem xd28 : drawsOk (fun _ => []) (Try.f28.body.getD .skip) = true := by kernel_rfl
noncomputable def xf28 : XF := ⟨Try.f28.body.getD .skip, Try.f28.ntmps, Try.f28.results.toList, (fun _ => [])⟩
theorem xk28 : XFOk Try.prog 28 xf28 := XFOk.mk Try.func28 (by kernel_rfl) rfl rfl rfl xd28
def rw29 : DRows := fun id => (([(8, [(0, none), (1, none), (2, none), (3, none), (4, none), (5, none), (6, none), (7, none), (8, some [true, true, true, true, true, true, true, true])]), (22, [(0, none), (1, none), (2, none), (3, none), (4, none), (5, none), (6, none), (7, none), (8, none), (9, none), (10, none), (11, none), (12, none), (13, none), (14, some [true, true, true, true, true, true, true, true, true, true, true, true, true, true]), (15, none)])] : List (Nat × List (Nat × Option (List Bool)))).lookup id).getD []
theorem xd29 : drawsOk rw29 (Try.f29.body.getD .skip) = true := by kernel_rfl
noncomputable def xf29 : XF := ⟨Try.f29.body.getD .skip, Try.f29.ntmps, Try.f29.results.toList, rw29⟩
theorem xk29 : XFOk Try.prog 29 xf29 := XFOk.mk Try.func29 (by kernel_rfl) rfl rfl rfl xd29
theorem xd30 : drawsOk (fun _ => []) (Try.f30.body.getD .skip) = true := by kernel_rfl
noncomputable def xf30 : XF := ⟨Try.f30.body.getD .skip, Try.f30.ntmps, Try.f30.results.toList, (fun _ => [])⟩
theorem xk30 : XFOk Try.prog 30 xf30 := XFOk.mk Try.func30 (by kernel_rfl) rfl rfl rfl xd30
theorem xd31 : drawsOk (fun _ => []) (Try.f31.body.getD .skip) = true := by kernel_rfl
noncomputable def xf31 : XF := ⟨Try.f31.body.getD .skip, Try.f31.ntmps, Try.f31.results.toList, (fun _ => [])⟩
theorem xk31 : XFOk Try.prog 31 xf31 := XFOk.mk Try.func31 (by kernel_rfl) rfl rfl rfl xd31
theorem xd32 : drawsOk (fun _ => []) (Try.f32.body.getD .skip) = true := by kernel_rfl
noncomputable def xf32 : XF := ⟨Try.f32.body.getD .skip, Try.f32.ntmps, Try.f32.results.toList, (fun _ => [])⟩
theorem xk32 : XFOk Try.prog 32 xf32 := XFOk.mk Try.func32 (by kernel_rfl) rfl rfl rfl xd32
theorem xd33 : drawsOk (fun _ => []) (Try.f33.body.getD .skip) = true := by kernel_rfl
noncomputable def xf33 : XF := ⟨Try.f33.body.getD .skip, Try.f33.ntmps, Try.f33.results.toList, (fun _ => [])⟩
theorem xk33 : XFOk Try.prog 33 xf33 := XFOk.mk Try.func33 (by kernel_rfl) rfl rfl rfl xd33
theorem xd34 : drawsOk (fun _ => []) (Try.f34.body.getD .skip) = true := by kernel_rfl
noncomputable def xf34 : XF := ⟨Try.f34.body.getD .skip, Try.f34.ntmps, Try.f34.results.toList, (fun _ => [])⟩
theorem xk34 : XFOk Try.prog 34 xf34 := XFOk.mk Try.func34 (by kernel_rfl) rfl rfl rfl xd34
def rw35 : DRows := fun id => (([(1, [(0, none), (1, none), (2, none), (3, none), (4, none), (5, none), (6, none), (7, none), (8, some [true, true, true, true, true, true, true, true])]), (8, [(0, none), (1, none), (2, none), (3, none), (4, none), (5, none), (6, none), (7, none), (8, none), (9, some [true, false, false, false, false, false, false, false, false]), (10, none), (11, some [true, true, true, true, true, true, true, true, false, false, false]), (12, none), (13, some [true, true, true, true, true, true, true, true, true, true, true, true, true])])] : List (Nat × List (Nat × Option (List Bool)))).lookup id).getD []
theorem xd35 : drawsOk rw35 (Try.f35.body.getD .skip) = true := by kernel_rfl
noncomputable def xf35 : XF := ⟨Try.f35.body.getD .skip, Try.f35.ntmps, Try.f35.results.toList, rw35⟩
theorem xk35 : XFOk Try.prog 35 xf35 := XFOk.mk Try.func35 (by kernel_rfl) rfl rfl rfl xd35
theorem xd36 : drawsOk (fun _ => []) (Try.f36.body.getD .skip) = true := by kernel_rfl
noncomputable def xf36 : XF := ⟨Try.f36.body.getD .skip, Try.f36.ntmps, Try.f36.results.toList, (fun _ => [])⟩
theorem xk36 : XFOk Try.prog 36 xf36 := XFOk.mk Try.func36 (by kernel_rfl) rfl rfl rfl xd36
theorem xd37 : drawsOk (fun _ => []) (Try.f37.body.getD .skip) = true := by kernel_rfl
noncomputable def xf37 : XF := ⟨Try.f37.body.getD .skip, Try.f37.ntmps, Try.f37.results.toList, (fun _ => [])⟩
theorem xk37 : XFOk Try.prog 37 xf37 := XFOk.mk Try.func37 (by kernel_rfl) rfl rfl rfl xd37
theorem xd38 : drawsOk (fun _ => []) (Try.f38.body.getD .skip) = true := by kernel_rfl
noncomputable def xf38 : XF := ⟨Try.f38.body.getD .skip, Try.f38.ntmps, Try.f38.results.toList, (fun _ => [])⟩
theorem xk38 : XFOk Try.prog 38 xf38 := XFOk.mk Try.func38 (by kernel_rfl) rfl rfl rfl xd38
theorem xd39 : drawsOk (fun _ => []) (Try.f39.body.getD .skip) = true := by kernel_rfl
noncomputable def xf39 : XF := ⟨Try.f39.body.getD .skip, Try.f39.ntmps, Try.f39.results.toList, (fun _ => [])⟩
theorem xk39 : XFOk Try.prog 39 xf39 := XFOk.mk Try.func39 (by kernel_rfl) rfl rfl rfl xd39
def rw40 : DRows := fun id => (([(13, [(0, none), (1, some [true]), (2, none), (3, none), (4, none), (5, none), (6, none), (7, none), (8, none), (9, none), (10, none), (11, none), (12, none), (13, none), (14, none), (15, none), (16, none), (17, none), (18, none), (19, none), (20, none), (21, none), (22, none), (23, none), (24, none), (25, none), (26, none), (27, none), (28, none), (29, none), (30, none), (31, none), (32, none), (33, none)]), (18, [(0, none), (1, none), (2, none), (3, none), (4, none), (5, none), (7, none), (8, none), (9, none), (6, some [false, false, false, true, true, true, true, true, true]), (10, some [true, true, true, true, true, true, true, true, true, true]), (11, none)])] : List (Nat × List (Nat × Option (List Bool)))).lookup id).getD []
theorem xd40 : drawsOk rw40 (Try.f40.body.getD .skip) = true := by kernel_rfl
noncomputable def xf40 : XF := ⟨Try.f40.body.getD .skip, Try.f40.ntmps, Try.f40.results.toList, rw40⟩
theorem xk40 : XFOk Try.prog 40 xf40 := XFOk.mk Try.func40 (by kernel_rfl) rfl rfl rfl xd40
def rw41 : DRows := fun id => (([(8, [(0, none), (1, none), (2, none), (3, none), (4, none), (5, none), (6, none), (7, none), (8, none), (9, none), (10, none), (11, none), (12, none), (13, none)])] : List (Nat × List (Nat × Option (List Bool)))).lookup id).getD []
theorem xd41 : drawsOk rw41 (Try.f41.body.getD .skip) = true := by kernel_rfl
noncomputable def xf41 : XF := ⟨Try.f41.body.getD .skip, Try.f41.ntmps, Try.f41.results.toList, rw41⟩
theorem xk41 : XFOk Try.prog 41 xf41 := XFOk.mk Try.func41 (by kernel_rfl) rfl rfl rfl xd41
def rw42 : DRows := fun id => (([(6, [(0, none), (1, none), (2, none), (3, none), (4, none), (5, none), (6, none), (7, none), (8, none), (9, none), (10, none)])] : List (Nat × List (Nat × Option (List Bool)))).lookup id).getD []
theorem xd42 : drawsOk rw42 (Try.f42.body.getD .skip) = true := by kernel_rfl
noncomputable def xf42 : XF := ⟨Try.f42.body.getD .skip, Try.f42.ntmps, Try.f42.results.toList, rw42⟩
theorem xk42 : XFOk Try.prog 42 xf42 := XFOk.mk Try.func42 (by kernel_rfl) rfl rfl rfl xd42
def rw43 : DRows := fun id => (([(6, [(0, none), (1, none), (2, none), (3, none), (4, none), (5, none), (6, none), (7, none), (8, none)])] : List (Nat × List (Nat × Option (List Bool)))).lookup id).getD []
theorem xd43 : drawsOk rw43 (Try.f43.body.getD .skip) = true := by kernel_rfl
noncomputable def xf43 : XF := ⟨Try.f43.body.getD .skip, Try.f43.ntmps, Try.f43.results.toList, rw43⟩
theorem xk43 : XFOk Try.prog 43 xf43 := XFOk.mk Try.func43 (by kernel_rfl) rfl rfl rfl xd43
theorem xd44 : drawsOk (fun _ => []) (Try.f44.body.getD .skip) = true := by kernel_rfl
noncomputable def xf44 : XF := ⟨Try.f44.body.getD .skip, Try.f44.ntmps, Try.f44.results.toList, (fun _ => [])⟩
theorem xk44 : XFOk Try.prog 44 xf44 := XFOk.mk Try.func44 (by kernel_rfl) rfl rfl rfl xd44
def rw45 : DRows := fun id => (([(7, [(0, none), (1, none), (2, none), (3, none), (4, none), (5, none), (6, none), (7, none), (8, none)])] : List (Nat × List (Nat × Option (List Bool)))).lookup id).getD []
theorem xd45 : drawsOk rw45 (Try.f45.body.getD .skip) = true := by kernel_rfl
noncomputable def xf45 : XF := ⟨Try.f45.body.getD .skip, Try.f45.ntmps, Try.f45.results.toList, rw45⟩
theorem xk45 : XFOk Try.prog 45 xf45 := XFOk.mk Try.func45 (by kernel_rfl) rfl rfl rfl xd45
def rw46 : DRows := fun id => (([(1, [(0, none), (1, none), (2, none), (3, none), (4, none), (5, none), (6, none), (7, none), (8, none), (9, none), (10, none), (11, none)])] : List (Nat × List (Nat × Option (List Bool)))).lookup id).getD []
theorem xd46 : drawsOk rw46 (Try.f46.body.getD .skip) = true := by kernel_rfl
noncomputable def xf46 : XF := ⟨Try.f46.body.getD .skip, Try.f46.ntmps, Try.f46.results.toList, rw46⟩
theorem xk46 : XFOk Try.prog 46 xf46 := XFOk.mk Try.func46 (by kernel_rfl) rfl rfl rfl xd46
theorem xd47 : drawsOk (fun _ => []) (Try.f47.body.getD .skip) = true := by kernel_rfl
noncomputable def xf47 : XF := ⟨Try.f47.body.getD .skip, Try.f47.ntmps, Try.f47.results.toList, (fun _ => [])⟩
theorem xk47 : XFOk Try.prog 47 xf47 := XFOk.mk Try.func47 (by kernel_rfl) rfl rfl rfl xd47
theorem xd48 : drawsOk (fun _ => []) (Try.f48.body.getD .skip) = true := by kernel_rfl
noncomputable def xf48 : XF := ⟨Try.f48.body.getD .skip, Try.f48.ntmps, Try.f48.results.toList, (fun _ => [])⟩
theorem xk48 : XFOk Try.prog 48 xf48 := XFOk.mk Try.func48 (by kernel_rfl) rfl rfl rfl xd48
theorem xd49 : drawsOk (fun _ => []) (Try.f49.body.getD .skip) = true := by kernel_rfl
noncomputable def xf49 : XF := ⟨Try.f49.body.getD .skip, Try.f49.ntmps, Try.f49.results.toList, (fun _ => [])⟩
theorem xk49 : XFOk Try.prog 49 xf49 := XFOk.mk Try.func49 (by kernel_rfl) rfl rfl rfl xd49
theorem xd50 : drawsOk (fun _ => []) (Try.f50.body.getD .skip) = true := by kernel_rfl
noncomputable def xf50 : XF := ⟨Try.f50.body.getD .skip, Try.f50.ntmps, Try.f50.results.toList, (fun _ => [])⟩
theorem xk50 : XFOk Try.prog 50 xf50 := XFOk.mk Try.func50 (by kernel_rfl) rfl rfl rfl xd50
theorem xd51 : drawsOk (fun _ => []) (Try.f51.body.getD .skip) = true := by kernel_rfl
noncomputable def xf51 : XF := ⟨Try.f51.body.getD .skip, Try.f51.ntmps, Try.f51.results.toList, (fun _ => [])⟩
theorem xk51 : XFOk Try.prog 51 xf51 := XFOk.mk Try.func51 (by kernel_rfl) rfl rfl rfl xd51
theorem xd52 : drawsOk (fun _ => []) (Try.f52.body.getD .skip) = true := by kernel_rfl
noncomputable def xf52 : XF := ⟨Try.f52.body.getD .skip, Try.f52.ntmps, Try.f52.results.toList, (fun _ => [])⟩
theorem xk52 : XFOk Try.prog 52 xf52 := XFOk.mk Try.func52 (by kernel_rfl) rfl rfl rfl xd52
def rw53 : DRows := fun id => (([(1, [(0, none), (1, none), (2, none), (4, none), (3, some [false, true, true, true]), (5, none), (6, none)])] : List (Nat × List (Nat × Option (List Bool)))).lookup id).getD []
theorem xd53 : drawsOk rw53 (Try.f53.body.getD .skip) = true := by kernel_rfl
noncomputable def xf53 : XF := ⟨Try.f53.body.getD .skip, Try.f53.ntmps, Try.f53.results.toList, rw53⟩
theorem xk53 : XFOk Try.prog 53 xf53 := XFOk.mk Try.func53 (by kernel_rfl) rfl rfl rfl xd53
theorem xd54 : drawsOk (fun _ => []) (Try.f54.body.getD .skip) = true := by kernel_rfl
noncomputable def xf54 : XF := ⟨Try.f54.body.getD .skip, Try.f54.ntmps, Try.f54.results.toList, (fun _ => [])⟩
theorem xk54 : XFOk Try.prog 54 xf54 := XFOk.mk Try.func54 (by kernel_rfl) rfl rfl rfl xd54
theorem xd55 : drawsOk (fun _ => []) (Try.f55.body.getD .skip) = true := by kernel_rfl
noncomputable def xf55 : XF := ⟨Try.f55.body.getD .skip, Try.f55.ntmps, Try.f55.results.toList, (fun _ => [])⟩
theorem xk55 : XFOk Try.prog 55 xf55 := XFOk.mk Try.func55 (by kernel_rfl) rfl rfl rfl xd55
def rw56 : DRows := fun id => (([(9, [(0, none), (1, none), (2, none), (3, none), (4, none), (5, none), (6, none), (7, none), (8, none), (10, none), (9, some [false, true, true, true, true, true, true, true, true, true]), (11, none), (12, none), (13, none)])] : List (Nat × List (Nat × Option (List Bool)))).lookup id).getD []
theorem xd56 : drawsOk rw56 (Try.f56.body.getD .skip) = true := by kernel_rfl
noncomputable def xf56 : XF := ⟨Try.f56.body.getD .skip, Try.f56.ntmps, Try.f56.results.toList, rw56⟩
theorem xk56 : XFOk Try.prog 56 xf56 := XFOk.mk Try.func56 (by kernel_rfl) rfl rfl rfl xd56
def rw57 : DRows := fun id => (([(4, [(0, none), (1, none), (2, none), (3, none), (4, none), (5, some [true, true, true, true, true])])] : List (Nat × List (Nat × Option (List Bool)))).lookup id).getD []
theorem xd57 : drawsOk rw57 (Try.f57.body.getD .skip) = true := by kernel_rfl
noncomputable def xf57 : XF := ⟨Try.f57.body.getD .skip, Try.f57.ntmps, Try.f57.results.toList, rw57⟩
theorem xk57 : XFOk Try.prog 57 xf57 := XFOk.mk Try.func57 (by kernel_rfl) rfl rfl rfl xd57
theorem xd58 : drawsOk (fun _ => []) (Try.f58.body.getD .skip) = true := by kernel_rfl
noncomputable def xf58 : XF := ⟨Try.f58.body.getD .skip, Try.f58.ntmps, Try.f58.results.toList, (fun _ => [])⟩
theorem xk58 : XFOk Try.prog 58 xf58 := XFOk.mk Try.func58 (by kernel_rfl) rfl rfl rfl xd58
theorem xd59 : drawsOk (fun _ => []) (Try.f59.body.getD .skip) = true := by kernel_rfl
noncomputable def xf59 : XF := ⟨Try.f59.body.getD .skip, Try.f59.ntmps, Try.f59.results.toList, (fun _ => [])⟩
theorem xk59 : XFOk Try.prog 59 xf59 := XFOk.mk Try.func59 (by kernel_rfl) rfl rfl rfl xd59
theorem xd60 : drawsOk (fun _ => []) (Try.f60.body.getD .skip) = true := by kernel_rfl
noncomputable def xf60 : XF := ⟨Try.f60.body.getD .skip, Try.f60.ntmps, Try.f60.results.toList, (fun _ => [])⟩
theorem xk60 : XFOk Try.prog 60 xf60 := XFOk.mk Try.func60 (by kernel_rfl) rfl rfl rfl xd60
def rw61 : DRows := fun id => (([(1, [(0, none), (1, none), (2, none), (3, none), (4, none), (5, none), (6, some [true, true, false, false, true, true]), (7, some [true, true, true, true, true, true, true])])] : List (Nat × List (Nat × Option (List Bool)))).lookup id).getD []
theorem xd61 : drawsOk rw61 (Try.f61.body.getD .skip) = true := by kernel_rfl
noncomputable def xf61 : XF := ⟨Try.f61.body.getD .skip, Try.f61.ntmps, Try.f61.results.toList, rw61⟩
theorem xk61 : XFOk Try.prog 61 xf61 := XFOk.mk Try.func61 (by kernel_rfl) rfl rfl rfl xd61
theorem xd62 : drawsOk (fun _ => []) (Try.f62.body.getD .skip) = true := by kernel_rfl
noncomputable def xf62 : XF := ⟨Try.f62.body.getD .skip, Try.f62.ntmps, Try.f62.results.toList, (fun _ => [])⟩
theorem xk62 : XFOk Try.prog 62 xf62 := XFOk.mk Try.func62 (by kernel_rfl) rfl rfl rfl xd62
theorem xd63 : drawsOk (fun _ => []) (Try.f63.body.getD .skip) = true := by kernel_rfl
noncomputable def xf63 : XF := ⟨Try.f63.body.getD .skip, Try.f63.ntmps, Try.f63.results.toList, (fun _ => [])⟩
theorem xk63 : XFOk Try.prog 63 xf63 := XFOk.mk Try.func63 (by kernel_rfl) rfl rfl rfl xd63
theorem xd64 : drawsOk (fun _ => []) (Try.f64.body.getD .skip) = true := by kernel_rfl
noncomputable def xf64 : XF := ⟨Try.f64.body.getD .skip, Try.f64.ntmps, Try.f64.results.toList, (fun _ => [])⟩
theorem xk64 : XFOk Try.prog 64 xf64 := XFOk.mk Try.func64 (by kernel_rfl) rfl rfl rfl xd64
theorem xd65 : drawsOk (fun _ => []) (Try.f65.body.getD .skip) = true := by kernel_rfl
noncomputable def xf65 : XF := ⟨Try.f65.body.getD .skip, Try.f65.ntmps, Try.f65.results.toList, (fun _ => [])⟩
theorem xk65 : XFOk Try.prog 65 xf65 := XFOk.mk Try.func65 (by kernel_rfl) rfl rfl rfl xd65
theorem xd66 : drawsOk (fun _ => []) (Try.f66.body.getD .skip) = true := by kernel_rfl
noncomputable def xf66 : XF := ⟨Try.f66.body.getD .skip, Try.f66.ntmps, Try.f66.results.toList, (fun _ => [])⟩
theorem xk66 : XFOk Try.prog 66 xf66 := XFOk.mk Try.func66 (by kernel_rfl) rfl rfl rfl xd66
theorem xd67 : drawsOk (fun _ => []) (Try.f67.body.getD .skip) = true := by kernel_rfl
noncomputable def xf67 : XF := ⟨Try.f67.body.getD .skip, Try.f67.ntmps, Try.f67.results.toList, (fun _ => [])⟩
theorem xk67 : XFOk Try.prog 67 xf67 := XFOk.mk Try.func67 (by kernel_rfl) rfl rfl rfl xd67
theorem xd68 : drawsOk (fun _ => []) (Try.f68.body.getD .skip) = true := by kernel_rfl
noncomputable def xf68 : XF := ⟨Try.f68.body.getD .skip, Try.f68.ntmps, Try.f68.results.toList, (fun _ => [])⟩
theorem xk68 : XFOk Try.prog 68 xf68 := XFOk.mk Try.func68 (by kernel_rfl) rfl rfl rfl xd68
def rw69 : DRows := fun id => (([(6, [(0, none), (1, none), (2, none), (3, none), (4, none), (5, none), (6, none), (7, none), (8, none)])] : List (Nat × List (Nat × Option (List Bool)))).lookup id).getD []
theorem xd69 : drawsOk rw69 (Try.f69.body.getD .skip) = true := by kernel_rfl
noncomputable def xf69 : XF := ⟨Try.f69.body.getD .skip, Try.f69.ntmps, Try.f69.results.toList, rw69⟩
theorem xk69 : XFOk Try.prog 69 xf69 := XFOk.mk Try.func69 (by kernel_rfl) rfl rfl rfl xd69
theorem xd70 : drawsOk (fun _ => []) (Try.f70.body.getD .skip) = true := by kernel_rfl
noncomputable def xf70 : XF := ⟨Try.f70.body.getD .skip, Try.f70.ntmps, Try.f70.results.toList, (fun _ => [])⟩
theorem xk70 : XFOk Try.prog 70 xf70 := XFOk.mk Try.func70 (by kernel_rfl) rfl rfl rfl xd70
theorem xd71 : drawsOk (fun _ => []) (Try.f71.body.getD .skip) = true := by kernel_rfl
noncomputable def xf71 : XF := ⟨Try.f71.body.getD .skip, Try.f71.ntmps, Try.f71.results.toList, (fun _ => [])⟩
theorem xk71 : XFOk Try.prog 71 xf71 := XFOk.mk Try.func71 (by kernel_rfl) rfl rfl rfl xd71
theorem xd72 : drawsOk (fun _ => []) (Try.f72.body.getD .skip) = true := by kernel_rfl
noncomputable def xf72 : XF := ⟨Try.f72.body.getD .skip, Try.f72.ntmps, Try.f72.results.toList, (fun _ => [])⟩
theorem xk72 : XFOk Try.prog 72 xf72 := XFOk.mk Try.func72 (by kernel_rfl) rfl rfl rfl xd72
theorem xd73 : drawsOk (fun _ => []) (Try.f73.body.getD .skip) = true := by kernel_rfl
noncomputable def xf73 : XF := ⟨Try.f73.body.getD .skip, Try.f73.ntmps, Try.f73.results.toList, (fun _ => [])⟩
theorem xk73 : XFOk Try.prog 73 xf73 := XFOk.mk Try.func73 (by kernel_rfl) rfl rfl rfl xd73
def rw74 : DRows := fun id => (([(7, [(0, none), (1, none), (2, none), (3, none), (4, none), (5, none), (6, none), (7, none), (8, none)])] : List (Nat × List (Nat × Option (List Bool)))).lookup id).getD []
theorem xd74 : drawsOk rw74 (Try.f74.body.getD .skip) = true := by kernel_rfl
noncomputable def xf74 : XF := ⟨Try.f74.body.getD .skip, Try.f74.ntmps, Try.f74.results.toList, rw74⟩
theorem xk74 : XFOk Try.prog 74 xf74 := XFOk.mk Try.func74 (by kernel_rfl) rfl rfl rfl xd74
theorem xd75 : drawsOk (fun _ => []) (Try.f75.body.getD .skip) = true := by kernel_rfl
noncomputable def xf75 : XF := ⟨Try.f75.body.getD .skip, Try.f75.ntmps, Try.f75.results.toList, (fun _ => [])⟩
theorem xk75 : XFOk Try.prog 75 xf75 := XFOk.mk Try.func75 (by kernel_rfl) rfl rfl rfl xd75
theorem xd76 : drawsOk (fun _ => []) (Try.f76.body.getD .skip) = true := by kernel_rfl
noncomputable def xf76 : XF := ⟨Try.f76.body.getD .skip, Try.f76.ntmps, Try.f76.results.toList, (fun _ => [])⟩
theorem xk76 : XFOk Try.prog 76 xf76 := XFOk.mk Try.func76 (by kernel_rfl) rfl rfl rfl xd76
theorem xd77 : drawsOk (fun _ => []) (Try.f77.body.getD .skip) = true := by kernel_rfl
noncomputable def xf77 : XF := ⟨Try.f77.body.getD .skip, Try.f77.ntmps, Try.f77.results.toList, (fun _ => [])⟩
theorem xk77 : XFOk Try.prog 77 xf77 := XFOk.mk Try.func77 (by kernel_rfl) rfl rfl rfl xd77
theorem xd78 : drawsOk (fun _ => []) (Try.f78.body.getD .skip) = true := by kernel_rfl
noncomputable def xf78 : XF := ⟨Try.f78.body.getD .skip, Try.f78.ntmps, Try.f78.results.toList, (fun _ => [])⟩
theorem xk78 : XFOk Try.prog 78 xf78 := XFOk.mk Try.func78 (by kernel_rfl) rfl rfl rfl xd78
theorem xd79 : drawsOk (fun _ => []) (Try.f79.body.getD .skip) = true := by kernel_rfl
noncomputable def xf79 : XF := ⟨Try.f79.body.getD .skip, Try.f79.ntmps, Try.f79.results.toList, (fun _ => [])⟩
theorem xk79 : XFOk Try.prog 79 xf79 := XFOk.mk Try.func79 (by kernel_rfl) rfl rfl rfl xd79
noncomputable def ft : TT XF := (.node 41 (.node 22 (.node 12 (.node 7 (.node 5 (.node 4 (.leaf 3 xf3) (.leaf 4 xf4)) (.node 6 (.leaf 5 xf5) (.leaf 6 xf6))) (.node 9 (.node 8 (.leaf 7 xf7) (.leaf 8 xf8)) (.node 10 (.leaf 9 xf9) (.node 11 (.leaf 10 xf10) (.leaf 11 xf11))))) (.node 17 (.node 14 (.node 13 (.leaf 12 xf12) (.leaf 13 xf13)) (.node 15 (.leaf 14 xf14) (.node 16 (.leaf 15 xf15) (.leaf 16 xf16)))) (.node 19 (.node 18 (.leaf 17 xf17) (.leaf 18 xf18)) (.node 20 (.leaf 19 xf19) (.node 21 (.leaf 20 xf20) (.leaf 21 xf21)))))) (.node 31 (.node 26 (.node 24 (.node 23 (.leaf 22 xf22) (.leaf 23 xf23)) (.node 25 (.leaf 24 xf24) (.leaf 25 xf25))) (.node 28 (.node 27 (.leaf 26 xf26) (.leaf 27 xf27)) (.node 29 (.leaf 28 xf28) (.node 30 (.leaf 29 xf29) (.leaf 30 xf30))))) (.node 36 (.node 33 (.node 32 (.leaf 31 xf31) (.leaf 32 xf32)) (.node 34 (.leaf 33 xf33) (.node 35 (.leaf 34 xf34) (.leaf 35 xf35)))) (.node 38 (.node 37 (.leaf 36 xf36) (.leaf 37 xf37)) (.node 39 (.leaf 38 xf38) (.node 40 (.leaf 39 xf39) (.leaf 40 xf40))))))) (.node 60 (.node 50 (.node 45 (.node 43 (.node 42 (.leaf 41 xf41) (.leaf 42 xf42)) (.node 44 (.leaf 43 xf43) (.leaf 44 xf44))) (.node 47 (.node 46 (.leaf 45 xf45) (.leaf 46 xf46)) (.node 48 (.leaf 47 xf47) (.node 49 (.leaf 48 xf48) (.leaf 49 xf49))))) (.node 55 (.node 52 (.node 51 (.leaf 50 xf50) (.leaf 51 xf51)) (.node 53 (.leaf 52 xf52) (.node 54 (.leaf 53 xf53) (.leaf 54 xf54)))) (.node 57 (.node 56 (.leaf 55 xf55) (.leaf 56 xf56)) (.node 58 (.leaf 57 xf57) (.node 59 (.leaf 58 xf58) (.leaf 59 xf59)))))) (.node 70 (.node 65 (.node 62 (.node 61 (.leaf 60 xf60) (.leaf 61 xf61)) (.node 63 (.leaf 62 xf62) (.node 64 (.leaf 63 xf63) (.leaf 64 xf64)))) (.node 67 (.node 66 (.leaf 65 xf65) (.leaf 66 xf66)) (.node 68 (.leaf 67 xf67) (.node 69 (.leaf 68 xf68) (.leaf 69 xf69))))) (.node 75 (.node 72 (.node 71 (.leaf 70 xf70) (.leaf 71 xf71)) (.node 73 (.leaf 72 xf72) (.node 74 (.leaf 73 xf73) (.leaf 74 xf74)))) (.node 77 (.node 76 (.leaf 75 xf75) (.leaf 76 xf76)) (.node 78 (.leaf 77 xf77) (.node 79 (.leaf 78 xf78) (.leaf 79 xf79))))))))
theorem ftOk : ft.Ok (XFOk Try.prog) := ⟨⟨⟨⟨⟨⟨xk3, xk4⟩, ⟨xk5, xk6⟩⟩, ⟨⟨xk7, xk8⟩, ⟨xk9, ⟨xk10, xk11⟩⟩⟩⟩, ⟨⟨⟨xk12, xk13⟩, ⟨xk14, ⟨xk15, xk16⟩⟩⟩, ⟨⟨xk17, xk18⟩, ⟨xk19, ⟨xk20, xk21⟩⟩⟩⟩⟩, ⟨⟨⟨⟨xk22, xk23⟩, ⟨xk24, xk25⟩⟩, ⟨⟨xk26, xk27⟩, ⟨xk28, ⟨xk29, xk30⟩⟩⟩⟩, ⟨⟨⟨xk31, xk32⟩, ⟨xk33, ⟨xk34, xk35⟩⟩⟩, ⟨⟨xk36, xk37⟩, ⟨xk38, ⟨xk39, xk40⟩⟩⟩⟩⟩⟩, ⟨⟨⟨⟨⟨xk41, xk42⟩, ⟨xk43, xk44⟩⟩, ⟨⟨xk45, xk46⟩, ⟨xk47, ⟨xk48, xk49⟩⟩⟩⟩, ⟨⟨⟨xk50, xk51⟩, ⟨xk52, ⟨xk53, xk54⟩⟩⟩, ⟨⟨xk55, xk56⟩, ⟨xk57, ⟨xk58, xk59⟩⟩⟩⟩⟩, ⟨⟨⟨⟨xk60, xk61⟩, ⟨xk62, ⟨xk63, xk64⟩⟩⟩, ⟨⟨xk65, xk66⟩, ⟨xk67, ⟨xk68, xk69⟩⟩⟩⟩, ⟨⟨⟨xk70, xk71⟩, ⟨xk72, ⟨xk73, xk74⟩⟩⟩, ⟨⟨xk75, xk76⟩, ⟨xk77, ⟨xk78, xk79⟩⟩⟩⟩⟩⟩⟩
noncomputable abbrev xcall (k : Nat) : XCall := xC Tl ft k
theorem closed_true {k : Nat} {f : FuncId} (h : xTrue (xC Tl ft k f [] ⟨0, []⟩) = true) (H : Heap) : WC Try.prog f [] H fun r H' => r = .bool true ∧ H' = H := WC_closed (xC_true hTl hmix ftOk h) H
end Go.Proofs.Ytkmkhiipiflelaa
