import Derived.Test.YtphenbpognaddaaPiX
import Derived.Test.YtphenbpognaddaaBagTd
/-! Tables by which the kernel carries calls out. Written by wip/gen/xgen.py. -/
set_option linter.unusedSimpArgs false
set_option maxRecDepth 100000
namespace Go.Proofs.Ytphenbpognaddaa
open Go Go.Proofs Go.Proofs.PI
def tt : TT TD := (.node 33 (.node 16 (.node 8 (.node 4 (.node 2 (.node 1 (.leaf 0 ⟨.other, 1, 0, [.junk], false⟩) (.leaf 1 ⟨.func, 1, 8, [.nilf], false⟩)) (.node 3 (.leaf 2 ⟨.int .i64, 1, 8, [.int .i64 0], false⟩) (.leaf 3 ⟨.int .i64, 1, 8, [.int .i64 0], false⟩))) (.node 6 (.node 5 (.leaf 4 ⟨.bool, 1, 1, [.bool false], false⟩) (.leaf 5 ⟨.int .u8, 1, 1, [.int .u8 0], false⟩)) (.node 7 (.leaf 6 ⟨.int .u8, 1, 1, [.int .u8 0], false⟩) (.leaf 7 ⟨.struct [(0, 2), (1, 3), (2, 4), (3, 6)], 4, 24, [.int .i64 0, .int .i64 0, .bool false, .int .u8 0], true⟩)))) (.node 12 (.node 10 (.node 9 (.leaf 8 ⟨.struct [(0, 2), (1, 3), (2, 4), (3, 6)], 4, 24, [.int .i64 0, .int .i64 0, .bool false, .int .u8 0], true⟩) (.leaf 9 ⟨.str, 1, 16, [.str []], false⟩)) (.node 11 (.leaf 10 ⟨.str, 1, 16, [.str []], false⟩) (.leaf 11 ⟨.str, 1, 16, [.str []], false⟩))) (.node 14 (.node 13 (.leaf 12 ⟨.int .u64, 1, 8, [.int .u64 0], false⟩) (.leaf 13 ⟨.struct [(0, 9), (1, 12)], 2, 24, [.str [], .int .u64 0], false⟩)) (.node 15 (.leaf 14 ⟨.struct [(0, 9), (1, 12)], 2, 24, [.str [], .int .u64 0], false⟩) (.leaf 15 ⟨.ptr 51, 1, 8, [.nilp], false⟩))))) (.node 24 (.node 20 (.node 18 (.node 17 (.leaf 16 ⟨.ptr 54, 1, 8, [.nilp], false⟩) (.leaf 17 ⟨.ptr 64, 1, 8, [.nilp], false⟩)) (.node 19 (.leaf 18 ⟨.struct [(0, 17)], 1, 8, [.nilp], false⟩) (.leaf 19 ⟨.struct [(0, 17)], 1, 8, [.nilp], false⟩))) (.node 22 (.node 21 (.leaf 20 ⟨.other, 1, 16, [.junk], false⟩) (.leaf 21 ⟨.int .i32, 1, 4, [.int .i32 0], false⟩)) (.node 23 (.leaf 22 ⟨.slice 5, 1, 24, [.nils], false⟩) (.leaf 23 ⟨.slice 3, 1, 24, [.nils], false⟩)))) (.node 28 (.node 26 (.node 25 (.leaf 24 ⟨.slice 22, 1, 24, [.nils], false⟩) (.leaf 25 ⟨.func, 1, 8, [.nilf], false⟩)) (.node 27 (.leaf 26 ⟨.func, 1, 8, [.nilf], false⟩) (.leaf 27 ⟨.int .i64, 1, 8, [.int .i64 0], false⟩))) (.node 30 (.node 29 (.leaf 28 ⟨.other, 1, 0, [.junk], false⟩) (.leaf 29 ⟨.func, 1, 8, [.nilf], false⟩)) (.node 31 (.leaf 30 ⟨.other, 1, 0, [.junk], false⟩) (.node 32 (.leaf 31 ⟨.func, 1, 8, [.nilf], false⟩) (.leaf 32 ⟨.other, 1, 0, [.junk], false⟩))))))) (.node 49 (.node 41 (.node 37 (.node 35 (.node 34 (.leaf 33 ⟨.func, 1, 8, [.nilf], false⟩) (.leaf 34 ⟨.other, 1, 0, [.junk], false⟩)) (.node 36 (.leaf 35 ⟨.func, 1, 8, [.nilf], false⟩) (.leaf 36 ⟨.func, 1, 8, [.nilf], false⟩))) (.node 39 (.node 38 (.leaf 37 ⟨.func, 1, 8, [.nilf], false⟩) (.leaf 38 ⟨.func, 1, 8, [.nilf], false⟩)) (.node 40 (.leaf 39 ⟨.func, 1, 8, [.nilf], false⟩) (.leaf 40 ⟨.other, 1, 0, [.junk], false⟩)))) (.node 45 (.node 43 (.node 42 (.leaf 41 ⟨.func, 1, 8, [.nilf], false⟩) (.leaf 42 ⟨.other, 1, 0, [.junk], false⟩)) (.node 44 (.leaf 43 ⟨.func, 1, 8, [.nilf], false⟩) (.leaf 44 ⟨.func, 1, 8, [.nilf], false⟩))) (.node 47 (.node 46 (.leaf 45 ⟨.func, 1, 8, [.nilf], false⟩) (.leaf 46 ⟨.func, 1, 8, [.nilf], false⟩)) (.node 48 (.leaf 47 ⟨.func, 1, 8, [.nilf], false⟩) (.leaf 48 ⟨.func, 1, 8, [.nilf], false⟩))))) (.node 57 (.node 53 (.node 51 (.node 50 (.leaf 49 ⟨.func, 1, 8, [.nilf], false⟩) (.leaf 50 ⟨.struct [(0, 17), (1, 17), (2, 17), (3, 9)], 4, 40, [.nilp, .nilp, .nilp, .str []], false⟩)) (.node 52 (.leaf 51 ⟨.struct [(0, 17), (1, 17), (2, 17), (3, 9)], 4, 40, [.nilp, .nilp, .nilp, .str []], false⟩) (.leaf 52 ⟨.other, 0, 0, [], false⟩))) (.node 55 (.node 54 (.leaf 53 ⟨.struct [(0, 52)], 0, 0, [], false⟩) (.leaf 54 ⟨.struct [(0, 52)], 0, 0, [], false⟩)) (.node 56 (.leaf 55 ⟨.func, 1, 8, [.nilf], false⟩) (.leaf 56 ⟨.int .u32, 1, 4, [.int .u32 0], false⟩)))) (.node 61 (.node 59 (.node 58 (.leaf 57 ⟨.int .u8, 1, 1, [.int .u8 0], false⟩) (.leaf 58 ⟨.int .u8, 1, 1, [.int .u8 0], false⟩)) (.node 60 (.leaf 59 ⟨.func, 1, 8, [.nilf], false⟩) (.leaf 60 ⟨.ptr 5, 1, 8, [.nilp], false⟩))) (.node 63 (.node 62 (.leaf 61 ⟨.int .i32, 1, 4, [.int .i32 0], false⟩) (.leaf 62 ⟨.int .i32, 1, 4, [.int .i32 0], false⟩)) (.node 64 (.leaf 63 ⟨.struct [(0, 12), (1, 12), (2, 56), (3, 57), (4, 5), (5, 5), (6, 58), (7, 59), (8, 60), (9, 61), (10, 62)], 11, 48, [.int .u64 0, .int .u64 0, .int .u32 0, .int .u8 0, .int .u8 0, .int .u8 0, .int .u8 0, .nilf, .nilp, .int .i32 0, .int .i32 0], false⟩) (.node 65 (.leaf 64 ⟨.struct [(0, 12), (1, 12), (2, 56), (3, 57), (4, 5), (5, 5), (6, 58), (7, 59), (8, 60), (9, 61), (10, 62)], 11, 48, [.int .u64 0, .int .u64 0, .int .u32 0, .int .u8 0, .int .u8 0, .int .u8 0, .int .u8 0, .nilf, .nilp, .int .i32 0, .int .i32 0], false⟩) (.leaf 65 ⟨.other, 1, 8, [.nilp], false⟩))))))))
theorem ttOk : tt.Ok (fun t d => tdOf Try.prog t = some d) := ⟨⟨⟨⟨⟨⟨td0, td1⟩, ⟨td2, td3⟩⟩, ⟨⟨td4, td5⟩, ⟨td6, td7⟩⟩⟩, ⟨⟨⟨td8, td9⟩, ⟨td10, td11⟩⟩, ⟨⟨td12, td13⟩, ⟨td14, td15⟩⟩⟩⟩, ⟨⟨⟨⟨td16, td17⟩, ⟨td18, td19⟩⟩, ⟨⟨td20, td21⟩, ⟨td22, td23⟩⟩⟩, ⟨⟨⟨td24, td25⟩, ⟨td26, td27⟩⟩, ⟨⟨td28, td29⟩, ⟨td30, ⟨td31, td32⟩⟩⟩⟩⟩⟩, ⟨⟨⟨⟨⟨td33, td34⟩, ⟨td35, td36⟩⟩, ⟨⟨td37, td38⟩, ⟨td39, td40⟩⟩⟩, ⟨⟨⟨td41, td42⟩, ⟨td43, td44⟩⟩, ⟨⟨td45, td46⟩, ⟨td47, td48⟩⟩⟩⟩, ⟨⟨⟨⟨td49, td50⟩, ⟨td51, td52⟩⟩, ⟨⟨td53, td54⟩, ⟨td55, td56⟩⟩⟩, ⟨⟨⟨td57, td58⟩, ⟨td59, td60⟩⟩, ⟨⟨td61, td62⟩, ⟨td63, ⟨td64, td65⟩⟩⟩⟩⟩⟩⟩
noncomputable abbrev Tl : TypeId → Option TD := tt.get
theorem hTl : TOk Try.prog Tl := fun t d h => ttOk.get h
def rw3 : DRows := fun id => (([(18, [(0, none), (1, none), (2, none), (3, none), (4, none), (5, none), (6, none), (7, none), (8, none), (9, none), (10, none), (11, none), (12, none), (13, none), (14, some [true, true, true, true, true, true, true, true, true, true, true, true, true, true])]), (26, [(0, none), (1, none), (2, none), (3, none), (4, none), (5, none), (6, none), (7, none), (8, none)])] : List (Nat × List (Nat × Option (List Bool)))).lookup id).getD []
theorem xd3 : drawsOk rw3 (Try.f3.body.getD .skip) = true := by kernel_rfl
noncomputable def xf3 : XF := ⟨Try.f3.body.getD .skip, Try.f3.ntmps, Try.f3.results.toList, rw3⟩
theorem xk3 : XFOk Try.prog 3 xf3 := XFOk.mk Try.func3 (by kernel_rfl) rfl rfl rfl xd3
def rw4 : DRows := fun id => (([(17, [(0, none), (1, none), (2, none), (3, none), (4, none), (5, none), (6, none), (7, none), (8, none), (9, none), (10, none), (11, none), (12, none), (13, none), (14, some [true, true, true, true, true, true, true, true, true, true, true, true, true, true])]), (24, [(0, none), (1, none), (2, none), (3, none), (4, none), (5, none), (6, none), (7, none), (8, none), (9, none), (10, none), (11, none), (12, none), (13, none), (14, some [true, true, true, true, true, true, true, true, true, true, true, true, true, true])])] : List (Nat × List (Nat × Option (List Bool)))).lookup id).getD []
theorem xd4 : drawsOk rw4 (Try.f4.body.getD .skip) = true := by kernel_rfl
noncomputable def xf4 : XF := ⟨Try.f4.body.getD .skip, Try.f4.ntmps, Try.f4.results.toList, rw4⟩
theorem xk4 : XFOk Try.prog 4 xf4 := XFOk.mk Try.func4 (by kernel_rfl) rfl rfl rfl xd4
def rw5 : DRows := fun id => (([(19, [(0, none), (1, none), (2, none), (3, none), (4, none), (5, none), (6, none), (7, none), (8, none), (9, none), (10, none), (11, none), (12, none), (13, none), (14, none), (15, none), (16, none), (17, none), (18, none), (19, none), (20, none), (21, none), (22, none), (23, none), (24, none), (25, none), (26, none), (27, none), (28, none), (29, none), (30, none)]), (23, [(0, none), (1, none), (2, none), (3, none), (4, none), (5, none), (6, none), (7, none), (8, none), (9, none), (10, none), (11, none), (12, none), (13, none), (14, none), (15, none), (16, some [true, true, true, true, true, true, true, true, true, true, true, true, true, true, true, true]), (17, none), (18, none), (19, none), (20, none), (21, none), (22, none), (23, none), (24, none), (25, none), (26, some [true, true, true, true, true, true, true, true, true, true, true, true, true, true, true, true, true, true, true, true, true, true, true, true, true, true]), (27, none), (28, none)])] : List (Nat × List (Nat × Option (List Bool)))).lookup id).getD []
theorem xd5 : drawsOk rw5 (Try.f5.body.getD .skip) = true := by kernel_rfl
noncomputable def xf5 : XF := ⟨Try.f5.body.getD .skip, Try.f5.ntmps, Try.f5.results.toList, rw5⟩
theorem xk5 : XFOk Try.prog 5 xf5 := XFOk.mk Try.func5 (by kernel_rfl) rfl rfl rfl xd5
theorem xd6 : drawsOk (fun _ => []) (Try.f6.body.getD .skip) = true := by kernel_rfl
noncomputable def xf6 : XF := ⟨Try.f6.body.getD .skip, Try.f6.ntmps, Try.f6.results.toList, (fun _ => [])⟩
theorem xk6 : XFOk Try.prog 6 xf6 := XFOk.mk Try.func6 (by kernel_rfl) rfl rfl rfl xd6
theorem xd7 : drawsOk (fun _ => []) (Try.f7.body.getD .skip) = true := by kernel_rfl
noncomputable def xf7 : XF := ⟨Try.f7.body.getD .skip, Try.f7.ntmps, Try.f7.results.toList, (fun _ => [])⟩
theorem xk7 : XFOk Try.prog 7 xf7 := XFOk.mk Try.func7 (by kernel_rfl) rfl rfl rfl xd7
theorem xd8 : drawsOk (fun _ => []) (Try.f8.body.getD .skip) = true := by kernel_rfl
noncomputable def xf8 : XF := ⟨Try.f8.body.getD .skip, Try.f8.ntmps, Try.f8.results.toList, (fun _ => [])⟩
theorem xk8 : XFOk Try.prog 8 xf8 := XFOk.mk Try.func8 (by kernel_rfl) rfl rfl rfl xd8
theorem xd9 : drawsOk (fun _ => []) (Try.f9.body.getD .skip) = true := by kernel_rfl
noncomputable def xf9 : XF := ⟨Try.f9.body.getD .skip, Try.f9.ntmps, Try.f9.results.toList, (fun _ => [])⟩
theorem xk9 : XFOk Try.prog 9 xf9 := XFOk.mk Try.func9 (by kernel_rfl) rfl rfl rfl xd9
theorem xd10 : drawsOk (fun _ => []) (Try.f10.body.getD .skip) = true := by kernel_rfl
noncomputable def xf10 : XF := ⟨Try.f10.body.getD .skip, Try.f10.ntmps, Try.f10.results.toList, (fun _ => [])⟩
theorem xk10 : XFOk Try.prog 10 xf10 := XFOk.mk Try.func10 (by kernel_rfl) rfl rfl rfl xd10
theorem xd11 : drawsOk (fun _ => []) (Try.f11.body.getD .skip) = true := by kernel_rfl
noncomputable def xf11 : XF := ⟨Try.f11.body.getD .skip, Try.f11.ntmps, Try.f11.results.toList, (fun _ => [])⟩
theorem xk11 : XFOk Try.prog 11 xf11 := XFOk.mk Try.func11 (by kernel_rfl) rfl rfl rfl xd11
theorem xd12 : drawsOk (fun _ => []) (Try.f12.body.getD .skip) = true := by kernel_rfl
noncomputable def xf12 : XF := ⟨Try.f12.body.getD .skip, Try.f12.ntmps, Try.f12.results.toList, (fun _ => [])⟩
theorem xk12 : XFOk Try.prog 12 xf12 := XFOk.mk Try.func12 (by kernel_rfl) rfl rfl rfl xd12
theorem xd13 : drawsOk (fun _ => []) (Try.f13.body.getD .skip) = true := by kernel_rfl
noncomputable def xf13 : XF := ⟨Try.f13.body.getD .skip, Try.f13.ntmps, Try.f13.results.toList, (fun _ => [])⟩
theorem xk13 : XFOk Try.prog 13 xf13 := XFOk.mk Try.func13 (by kernel_rfl) rfl rfl rfl xd13
def rw14 : DRows := fun id => (([(6, [(0, none), (1, none), (2, none), (3, none), (4, none), (5, none), (6, none), (7, none), (8, none), (9, none), (10, none)])] : List (Nat × List (Nat × Option (List Bool)))).lookup id).getD []
theorem xd14 : drawsOk rw14 (Try.f14.body.getD .skip) = true := by kernel_rfl
noncomputable def xf14 : XF := ⟨Try.f14.body.getD .skip, Try.f14.ntmps, Try.f14.results.toList, rw14⟩
theorem xk14 : XFOk Try.prog 14 xf14 := XFOk.mk Try.func14 (by kernel_rfl) rfl rfl rfl xd14
theorem xd15 : drawsOk (fun _ => []) (Try.f15.body.getD .skip) = true := by kernel_rfl
noncomputable def xf15 : XF := ⟨Try.f15.body.getD .skip, Try.f15.ntmps, Try.f15.results.toList, (fun _ => [])⟩
theorem xk15 : XFOk Try.prog 15 xf15 := XFOk.mk Try.func15 (by kernel_rfl) rfl rfl rfl xd15
theorem xd16 : drawsOk (fun _ => []) (Try.f16.body.getD .skip) = true := by kernel_rfl
noncomputable def xf16 : XF := ⟨Try.f16.body.getD .skip, Try.f16.ntmps, Try.f16.results.toList, (fun _ => [])⟩
theorem xk16 : XFOk Try.prog 16 xf16 := XFOk.mk Try.func16 (by kernel_rfl) rfl rfl rfl xd16
def rw17 : DRows := fun id => (([(11, [(0, none), (1, none), (2, none), (3, none), (4, none), (5, none), (6, none), (7, some [true, true, true, true, true, true, true]), (8, none)])] : List (Nat × List (Nat × Option (List Bool)))).lookup id).getD []
theorem xd17 : drawsOk rw17 (Try.f17.body.getD .skip) = true := by kernel_rfl
noncomputable def xf17 : XF := ⟨Try.f17.body.getD .skip, Try.f17.ntmps, Try.f17.results.toList, rw17⟩
theorem xk17 : XFOk Try.prog 17 xf17 := XFOk.mk Try.func17 (by kernel_rfl) rfl rfl rfl xd17
theorem xd18 : drawsOk (fun _ => []) (Try.f18.body.getD .skip) = true := by kernel_rfl
noncomputable def xf18 : XF := ⟨Try.f18.body.getD .skip, Try.f18.ntmps, Try.f18.results.toList, (fun _ => [])⟩
theorem xk18 : XFOk Try.prog 18 xf18 := XFOk.mk Try.func18 (by kernel_rfl) rfl rfl rfl xd18
theorem xd19 : drawsOk (fun _ => []) (Try.f19.body.getD .skip) = true := by kernel_rfl
noncomputable def xf19 : XF := ⟨Try.f19.body.getD .skip, Try.f19.ntmps, Try.f19.results.toList, (fun _ => [])⟩
theorem xk19 : XFOk Try.prog 19 xf19 := XFOk.mk Try.func19 (by kernel_rfl) rfl rfl rfl xd19
def rw20 : DRows := fun id => (([(6, [(0, none), (1, none), (2, none), (3, none), (4, none), (5, none), (6, none), (7, none), (8, none), (9, none), (10, none)])] : List (Nat × List (Nat × Option (List Bool)))).lookup id).getD []
theorem xd20 : drawsOk rw20 (Try.f20.body.getD .skip) = true := by kernel_rfl
noncomputable def xf20 : XF := ⟨Try.f20.body.getD .skip, Try.f20.ntmps, Try.f20.results.toList, rw20⟩
theorem xk20 : XFOk Try.prog 20 xf20 := XFOk.mk Try.func20 (by kernel_rfl) rfl rfl rfl xd20
theorem xd21 : drawsOk (fun _ => []) (Try.f21.body.getD .skip) = true := by kernel_rfl
noncomputable def xf21 : XF := ⟨Try.f21.body.getD .skip, Try.f21.ntmps, Try.f21.results.toList, (fun _ => [])⟩
theorem xk21 : XFOk Try.prog 21 xf21 := XFOk.mk Try.func21 (by kernel_rfl) rfl rfl rfl xd21
theorem xd22 : drawsOk (fun _ => []) (Try.f22.body.getD .skip) = true := by kernel_rfl
noncomputable def xf22 : XF := ⟨Try.f22.body.getD .skip, Try.f22.ntmps, Try.f22.results.toList, (fun _ => [])⟩
theorem xk22 : XFOk Try.prog 22 xf22 := XFOk.mk Try.func22 (by kernel_rfl) rfl rfl rfl xd22
theorem xd23 : drawsOk (fun _ => []) (Try.f23.body.getD .skip) = true := by kernel_rfl
noncomputable def xf23 : XF := ⟨Try.f23.body.getD .skip, Try.f23.ntmps, Try.f23.results.toList, (fun _ => [])⟩
theorem xk23 : XFOk Try.prog 23 xf23 := XFOk.mk Try.func23 (by kernel_rfl) rfl rfl rfl xd23
noncomputable def ft : TT XF := (.node 13 (.node 8 (.node 5 (.node 4 (.leaf 3 xf3) (.leaf 4 xf4)) (.node 6 (.leaf 5 xf5) (.node 7 (.leaf 6 xf6) (.leaf 7 xf7)))) (.node 10 (.node 9 (.leaf 8 xf8) (.leaf 9 xf9)) (.node 11 (.leaf 10 xf10) (.node 12 (.leaf 11 xf11) (.leaf 12 xf12))))) (.node 18 (.node 15 (.node 14 (.leaf 13 xf13) (.leaf 14 xf14)) (.node 16 (.leaf 15 xf15) (.node 17 (.leaf 16 xf16) (.leaf 17 xf17)))) (.node 21 (.node 19 (.leaf 18 xf18) (.node 20 (.leaf 19 xf19) (.leaf 20 xf20))) (.node 22 (.leaf 21 xf21) (.node 23 (.leaf 22 xf22) (.leaf 23 xf23))))))
theorem ftOk : ft.Ok (XFOk Try.prog) := ⟨⟨⟨⟨xk3, xk4⟩, ⟨xk5, ⟨xk6, xk7⟩⟩⟩, ⟨⟨xk8, xk9⟩, ⟨xk10, ⟨xk11, xk12⟩⟩⟩⟩, ⟨⟨⟨xk13, xk14⟩, ⟨xk15, ⟨xk16, xk17⟩⟩⟩, ⟨⟨xk18, ⟨xk19, xk20⟩⟩, ⟨xk21, ⟨xk22, xk23⟩⟩⟩⟩⟩
noncomputable abbrev xcall (k : Nat) : XCall := xC Tl ft k
theorem closed_true {k : Nat} {f : FuncId} (h : xTrue (xC Tl ft k f [] ⟨0, []⟩) = true) (H : Heap) : WC Try.prog f [] H fun r H' => r = .bool true ∧ H' = H := WC_closed (xC_true hTl hmix ftOk h) H
end Go.Proofs.Ytphenbpognaddaa
