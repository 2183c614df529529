import Derived.Test.YtakmlfbejbelaaaPiU
import Derived.Test.YtakmlfbejbelaaaPiQ
import Derived.Test.YtakmlfbejbelaaaProg
import Derived.Test.YtakmlfbejbelaaaPiR
import Derived.Test.YtakmlfbejbelaaaPiSem
set_option linter.unusedSimpArgs false
set_option linter.unusedVariables false
set_option maxRecDepth 100000
set_option maxHeartbeats 4000000
/-! Each type of the translation as a row. Written by wip/gen/td.py. -/
namespace Go.Proofs.Ytakmlfbejbelaaa
open Go.Proofs.PI
noncomputable abbrev T := tdOf Try.prog
@[go_sem] theorem td0 : tdOf Try.prog 0 = some ⟨.other, 1, 0, [.junk], false⟩ := by kernel_rfl
@[go_sem] theorem td1 : tdOf Try.prog 1 = some ⟨.func, 1, 8, [.nilf], false⟩ := by kernel_rfl
@[go_sem] theorem td2 : tdOf Try.prog 2 = some ⟨.int .i64, 1, 8, [.int .i64 0], false⟩ := by kernel_rfl
@[go_sem] theorem td3 : tdOf Try.prog 3 = some ⟨.int .i64, 1, 8, [.int .i64 0], false⟩ := by kernel_rfl
@[go_sem] theorem td4 : tdOf Try.prog 4 = some ⟨.bool, 1, 1, [.bool false], false⟩ := by kernel_rfl
@[go_sem] theorem td5 : tdOf Try.prog 5 = some ⟨.int .u8, 1, 1, [.int .u8 0], false⟩ := by kernel_rfl
@[go_sem] theorem td6 : tdOf Try.prog 6 = some ⟨.int .u8, 1, 1, [.int .u8 0], false⟩ := by kernel_rfl
@[go_sem] theorem td7 : tdOf Try.prog 7 = some ⟨.struct [(0, 2), (1, 3), (2, 4), (3, 6)], 4, 24, [.int .i64 0, .int .i64 0, .bool false, .int .u8 0], true⟩ := by kernel_rfl
@[go_sem] theorem td8 : tdOf Try.prog 8 = some ⟨.struct [(0, 2), (1, 3), (2, 4), (3, 6)], 4, 24, [.int .i64 0, .int .i64 0, .bool false, .int .u8 0], true⟩ := by kernel_rfl
@[go_sem] theorem td9 : tdOf Try.prog 9 = some ⟨.str, 1, 16, [.str []], false⟩ := by kernel_rfl
@[go_sem] theorem td10 : tdOf Try.prog 10 = some ⟨.str, 1, 16, [.str []], false⟩ := by kernel_rfl
@[go_sem] theorem td11 : tdOf Try.prog 11 = some ⟨.str, 1, 16, [.str []], false⟩ := by kernel_rfl
@[go_sem] theorem td12 : tdOf Try.prog 12 = some ⟨.int .u64, 1, 8, [.int .u64 0], false⟩ := by kernel_rfl
@[go_sem] theorem td13 : tdOf Try.prog 13 = some ⟨.struct [(0, 9), (1, 12)], 2, 24, [.str [], .int .u64 0], false⟩ := by kernel_rfl
@[go_sem] theorem td14 : tdOf Try.prog 14 = some ⟨.struct [(0, 9), (1, 12)], 2, 24, [.str [], .int .u64 0], false⟩ := by kernel_rfl
@[go_sem] theorem td15 : tdOf Try.prog 15 = some ⟨.ptr 107, 1, 8, [.nilp], false⟩ := by kernel_rfl
@[go_sem] theorem td16 : tdOf Try.prog 16 = some ⟨.ptr 110, 1, 8, [.nilp], false⟩ := by kernel_rfl
@[go_sem] theorem td17 : tdOf Try.prog 17 = some ⟨.ptr 119, 1, 8, [.nilp], false⟩ := by kernel_rfl
@[go_sem] theorem td18 : tdOf Try.prog 18 = some ⟨.struct [(0, 17)], 1, 8, [.nilp], false⟩ := by kernel_rfl
@[go_sem] theorem td19 : tdOf Try.prog 19 = some ⟨.struct [(0, 17)], 1, 8, [.nilp], false⟩ := by kernel_rfl
@[go_sem] theorem td20 : tdOf Try.prog 20 = some ⟨.other, 1, 16, [.junk], false⟩ := by kernel_rfl
@[go_sem] theorem td21 : tdOf Try.prog 21 = some ⟨.int .i32, 1, 4, [.int .i32 0], false⟩ := by kernel_rfl
@[go_sem] theorem td22 : tdOf Try.prog 22 = some ⟨.int .i64, 1, 8, [.int .i64 0], false⟩ := by kernel_rfl
@[go_sem] theorem td23 : tdOf Try.prog 23 = some ⟨.other, 1, 0, [.junk], false⟩ := by kernel_rfl
@[go_sem] theorem td24 : tdOf Try.prog 24 = some ⟨.func, 1, 8, [.nilf], false⟩ := by kernel_rfl
@[go_sem] theorem td25 : tdOf Try.prog 25 = some ⟨.other, 1, 0, [.junk], false⟩ := by kernel_rfl
@[go_sem] theorem td26 : tdOf Try.prog 26 = some ⟨.func, 1, 8, [.nilf], false⟩ := by kernel_rfl
@[go_sem] theorem td27 : tdOf Try.prog 27 = some ⟨.int .u64, 1, 8, [.int .u64 0], false⟩ := by kernel_rfl
@[go_sem] theorem td28 : tdOf Try.prog 28 = some ⟨.func, 1, 8, [.nilf], false⟩ := by kernel_rfl
@[go_sem] theorem td29 : tdOf Try.prog 29 = some ⟨.func, 1, 8, [.nilf], false⟩ := by kernel_rfl
@[go_sem] theorem td30 : tdOf Try.prog 30 = some ⟨.slice 5, 1, 24, [.nils], false⟩ := by kernel_rfl
@[go_sem] theorem td31 : tdOf Try.prog 31 = some ⟨.other, 1, 0, [.junk], false⟩ := by kernel_rfl
@[go_sem] theorem td32 : tdOf Try.prog 32 = some ⟨.func, 1, 8, [.nilf], false⟩ := by kernel_rfl
@[go_sem] theorem td33 : tdOf Try.prog 33 = some ⟨.other, 1, 0, [.junk], false⟩ := by kernel_rfl
@[go_sem] theorem td34 : tdOf Try.prog 34 = some ⟨.func, 1, 8, [.nilf], false⟩ := by kernel_rfl
@[go_sem] theorem td35 : tdOf Try.prog 35 = some ⟨.other, 1, 0, [.junk], false⟩ := by kernel_rfl
@[go_sem] theorem td36 : tdOf Try.prog 36 = some ⟨.func, 1, 8, [.nilf], false⟩ := by kernel_rfl
@[go_sem] theorem td37 : tdOf Try.prog 37 = some ⟨.other, 1, 0, [.junk], false⟩ := by kernel_rfl
@[go_sem] theorem td38 : tdOf Try.prog 38 = some ⟨.func, 1, 8, [.nilf], false⟩ := by kernel_rfl
@[go_sem] theorem td39 : tdOf Try.prog 39 = some ⟨.func, 1, 8, [.nilf], false⟩ := by kernel_rfl
@[go_sem] theorem td40 : tdOf Try.prog 40 = some ⟨.func, 1, 8, [.nilf], false⟩ := by kernel_rfl
@[go_sem] theorem td41 : tdOf Try.prog 41 = some ⟨.func, 1, 8, [.nilf], false⟩ := by kernel_rfl
@[go_sem] theorem td42 : tdOf Try.prog 42 = some ⟨.slice 9, 1, 24, [.nils], false⟩ := by kernel_rfl
@[go_sem] theorem td43 : tdOf Try.prog 43 = some ⟨.int .u32, 1, 4, [.int .u32 0], false⟩ := by kernel_rfl
@[go_sem] theorem td44 : tdOf Try.prog 44 = some ⟨.struct [(0, 5), (1, 3), (2, 42), (3, 9), (4, 43), (5, 3), (6, 27), (7, 27)], 8, 88, [.int .u8 0, .int .i64 0, .nils, .str [], .int .u32 0, .int .i64 0, .int .u64 0, .int .u64 0], true⟩ := by kernel_rfl
@[go_sem] theorem td45 : tdOf Try.prog 45 = some ⟨.struct [(0, 5), (1, 3), (2, 42), (3, 9), (4, 43), (5, 3), (6, 27), (7, 27)], 8, 88, [.int .u8 0, .int .i64 0, .nils, .str [], .int .u32 0, .int .i64 0, .int .u64 0, .int .u64 0], true⟩ := by kernel_rfl
@[go_sem] theorem td46 : tdOf Try.prog 46 = some ⟨.other, 1, 0, [.junk], false⟩ := by kernel_rfl
@[go_sem] theorem td47 : tdOf Try.prog 47 = some ⟨.func, 1, 8, [.nilf], false⟩ := by kernel_rfl
@[go_sem] theorem td48 : tdOf Try.prog 48 = some ⟨.other, 1, 0, [.junk], false⟩ := by kernel_rfl
@[go_sem] theorem td49 : tdOf Try.prog 49 = some ⟨.func, 1, 8, [.nilf], false⟩ := by kernel_rfl
@[go_sem] theorem td50 : tdOf Try.prog 50 = some ⟨.other, 1, 0, [.junk], false⟩ := by kernel_rfl
@[go_sem] theorem td51 : tdOf Try.prog 51 = some ⟨.func, 1, 8, [.nilf], false⟩ := by kernel_rfl
@[go_sem] theorem td52 : tdOf Try.prog 52 = some ⟨.other, 1, 0, [.junk], false⟩ := by kernel_rfl
@[go_sem] theorem td53 : tdOf Try.prog 53 = some ⟨.func, 1, 8, [.nilf], false⟩ := by kernel_rfl
@[go_sem] theorem td54 : tdOf Try.prog 54 = some ⟨.func, 1, 8, [.nilf], false⟩ := by kernel_rfl
@[go_sem] theorem td55 : tdOf Try.prog 55 = some ⟨.func, 1, 8, [.nilf], false⟩ := by kernel_rfl
@[go_sem] theorem td56 : tdOf Try.prog 56 = some ⟨.slice 71, 1, 24, [.nils], false⟩ := by kernel_rfl
@[go_sem] theorem td57 : tdOf Try.prog 57 = some ⟨.func, 1, 8, [.nilf], false⟩ := by kernel_rfl
@[go_sem] theorem td58 : tdOf Try.prog 58 = some ⟨.func, 1, 8, [.nilf], false⟩ := by kernel_rfl
@[go_sem] theorem td59 : tdOf Try.prog 59 = some ⟨.func, 1, 8, [.nilf], false⟩ := by kernel_rfl
@[go_sem] theorem td60 : tdOf Try.prog 60 = some ⟨.other, 1, 0, [.junk], false⟩ := by kernel_rfl
@[go_sem] theorem td61 : tdOf Try.prog 61 = some ⟨.func, 1, 8, [.nilf], false⟩ := by kernel_rfl
@[go_sem] theorem td62 : tdOf Try.prog 62 = some ⟨.other, 1, 0, [.junk], false⟩ := by kernel_rfl
@[go_sem] theorem td63 : tdOf Try.prog 63 = some ⟨.func, 1, 8, [.nilf], false⟩ := by kernel_rfl
@[go_sem] theorem td64 : tdOf Try.prog 64 = some ⟨.func, 1, 8, [.nilf], false⟩ := by kernel_rfl
@[go_sem] theorem td65 : tdOf Try.prog 65 = some ⟨.func, 1, 8, [.nilf], false⟩ := by kernel_rfl
@[go_sem] theorem td66 : tdOf Try.prog 66 = some ⟨.func, 1, 8, [.nilf], false⟩ := by kernel_rfl
@[go_sem] theorem td67 : tdOf Try.prog 67 = some ⟨.func, 1, 8, [.nilf], false⟩ := by kernel_rfl
@[go_sem] theorem td68 : tdOf Try.prog 68 = some ⟨.struct [(0, 9), (1, 9), (2, 43), (3, 3), (4, 27)], 5, 56, [.str [], .str [], .int .u32 0, .int .i64 0, .int .u64 0], true⟩ := by kernel_rfl
@[go_sem] theorem td69 : tdOf Try.prog 69 = some ⟨.struct [(0, 9), (1, 9), (2, 43), (3, 3), (4, 27)], 5, 56, [.str [], .str [], .int .u32 0, .int .i64 0, .int .u64 0], true⟩ := by kernel_rfl
@[go_sem] theorem td70 : tdOf Try.prog 70 = some ⟨.struct [(0, 5), (1, 3), (2, 69), (7, 9), (8, 5), (9, 3), (10, 4)], 11, 112, [.int .u8 0, .int .i64 0, .str [], .str [], .int .u32 0, .int .i64 0, .int .u64 0, .str [], .int .u8 0, .int .i64 0, .bool false], true⟩ := by kernel_rfl
@[go_sem] theorem td71 : tdOf Try.prog 71 = some ⟨.struct [(0, 5), (1, 3), (2, 69), (7, 9), (8, 5), (9, 3), (10, 4)], 11, 112, [.int .u8 0, .int .i64 0, .str [], .str [], .int .u32 0, .int .i64 0, .int .u64 0, .str [], .int .u8 0, .int .i64 0, .bool false], true⟩ := by kernel_rfl
@[go_sem] theorem td72 : tdOf Try.prog 72 = some ⟨.func, 1, 8, [.nilf], false⟩ := by kernel_rfl
@[go_sem] theorem td73 : tdOf Try.prog 73 = some ⟨.func, 1, 8, [.nilf], false⟩ := by kernel_rfl
@[go_sem] theorem td74 : tdOf Try.prog 74 = some ⟨.other, 1, 0, [.junk], false⟩ := by kernel_rfl
@[go_sem] theorem td75 : tdOf Try.prog 75 = some ⟨.func, 1, 8, [.nilf], false⟩ := by kernel_rfl
@[go_sem] theorem td76 : tdOf Try.prog 76 = some ⟨.func, 1, 8, [.nilf], false⟩ := by kernel_rfl
@[go_sem] theorem td77 : tdOf Try.prog 77 = some ⟨.int .u64, 1, 8, [.int .u64 0], false⟩ := by kernel_rfl
@[go_sem] theorem td78 : tdOf Try.prog 78 = some ⟨.func, 1, 8, [.nilf], false⟩ := by kernel_rfl
@[go_sem] theorem td79 : tdOf Try.prog 79 = some ⟨.func, 1, 8, [.nilf], false⟩ := by kernel_rfl
@[go_sem] theorem td80 : tdOf Try.prog 80 = some ⟨.func, 1, 8, [.nilf], false⟩ := by kernel_rfl
@[go_sem] theorem td81 : tdOf Try.prog 81 = some ⟨.func, 1, 8, [.nilf], false⟩ := by kernel_rfl
@[go_sem] theorem td82 : tdOf Try.prog 82 = some ⟨.ptr 84, 1, 8, [.nilp], false⟩ := by kernel_rfl
@[go_sem] theorem td83 : tdOf Try.prog 83 = some ⟨.struct [(0, 30), (1, 4)], 2, 32, [.nils, .bool false], true⟩ := by kernel_rfl
@[go_sem] theorem td84 : tdOf Try.prog 84 = some ⟨.struct [(0, 30), (1, 4)], 2, 32, [.nils, .bool false], true⟩ := by kernel_rfl
@[go_sem] theorem td85 : tdOf Try.prog 85 = some ⟨.func, 1, 8, [.nilf], false⟩ := by kernel_rfl
@[go_sem] theorem td86 : tdOf Try.prog 86 = some ⟨.func, 1, 8, [.nilf], false⟩ := by kernel_rfl
@[go_sem] theorem td87 : tdOf Try.prog 87 = some ⟨.func, 1, 8, [.nilf], false⟩ := by kernel_rfl
@[go_sem] theorem td88 : tdOf Try.prog 88 = some ⟨.func, 1, 8, [.nilf], false⟩ := by kernel_rfl
@[go_sem] theorem td89 : tdOf Try.prog 89 = some ⟨.func, 1, 8, [.nilf], false⟩ := by kernel_rfl
@[go_sem] theorem td90 : tdOf Try.prog 90 = some ⟨.ptr 92, 1, 8, [.nilp], false⟩ := by kernel_rfl
@[go_sem] theorem td91 : tdOf Try.prog 91 = some ⟨.struct [(0, 30), (1, 4)], 2, 32, [.nils, .bool false], true⟩ := by kernel_rfl
@[go_sem] theorem td92 : tdOf Try.prog 92 = some ⟨.struct [(0, 30), (1, 4)], 2, 32, [.nils, .bool false], true⟩ := by kernel_rfl
@[go_sem] theorem td93 : tdOf Try.prog 93 = some ⟨.func, 1, 8, [.nilf], false⟩ := by kernel_rfl
@[go_sem] theorem td94 : tdOf Try.prog 94 = some ⟨.func, 1, 8, [.nilf], false⟩ := by kernel_rfl
@[go_sem] theorem td95 : tdOf Try.prog 95 = some ⟨.func, 1, 8, [.nilf], false⟩ := by kernel_rfl
@[go_sem] theorem td96 : tdOf Try.prog 96 = some ⟨.func, 1, 8, [.nilf], false⟩ := by kernel_rfl
@[go_sem] theorem td97 : tdOf Try.prog 97 = some ⟨.func, 1, 8, [.nilf], false⟩ := by kernel_rfl
@[go_sem] theorem td98 : tdOf Try.prog 98 = some ⟨.func, 1, 8, [.nilf], false⟩ := by kernel_rfl
@[go_sem] theorem td99 : tdOf Try.prog 99 = some ⟨.func, 1, 8, [.nilf], false⟩ := by kernel_rfl
@[go_sem] theorem td100 : tdOf Try.prog 100 = some ⟨.func, 1, 8, [.nilf], false⟩ := by kernel_rfl
@[go_sem] theorem td101 : tdOf Try.prog 101 = some ⟨.slice 3, 1, 24, [.nils], false⟩ := by kernel_rfl
@[go_sem] theorem td102 : tdOf Try.prog 102 = some ⟨.func, 1, 8, [.nilf], false⟩ := by kernel_rfl
@[go_sem] theorem td103 : tdOf Try.prog 103 = some ⟨.func, 1, 8, [.nilf], false⟩ := by kernel_rfl
@[go_sem] theorem td104 : tdOf Try.prog 104 = some ⟨.func, 1, 8, [.nilf], false⟩ := by kernel_rfl
@[go_sem] theorem td105 : tdOf Try.prog 105 = some ⟨.func, 1, 8, [.nilf], false⟩ := by kernel_rfl
@[go_sem] theorem td106 : tdOf Try.prog 106 = some ⟨.struct [(0, 17), (1, 17), (2, 17), (3, 9)], 4, 40, [.nilp, .nilp, .nilp, .str []], false⟩ := by kernel_rfl
@[go_sem] theorem td107 : tdOf Try.prog 107 = some ⟨.struct [(0, 17), (1, 17), (2, 17), (3, 9)], 4, 40, [.nilp, .nilp, .nilp, .str []], false⟩ := by kernel_rfl
@[go_sem] theorem td108 : tdOf Try.prog 108 = some ⟨.other, 0, 0, [], false⟩ := by kernel_rfl
@[go_sem] theorem td109 : tdOf Try.prog 109 = some ⟨.struct [(0, 108)], 0, 0, [], false⟩ := by kernel_rfl
@[go_sem] theorem td110 : tdOf Try.prog 110 = some ⟨.struct [(0, 108)], 0, 0, [], false⟩ := by kernel_rfl
@[go_sem] theorem td111 : tdOf Try.prog 111 = some ⟨.func, 1, 8, [.nilf], false⟩ := by kernel_rfl
@[go_sem] theorem td112 : tdOf Try.prog 112 = some ⟨.int .u8, 1, 1, [.int .u8 0], false⟩ := by kernel_rfl
@[go_sem] theorem td113 : tdOf Try.prog 113 = some ⟨.int .u8, 1, 1, [.int .u8 0], false⟩ := by kernel_rfl
@[go_sem] theorem td114 : tdOf Try.prog 114 = some ⟨.func, 1, 8, [.nilf], false⟩ := by kernel_rfl
@[go_sem] theorem td115 : tdOf Try.prog 115 = some ⟨.ptr 5, 1, 8, [.nilp], false⟩ := by kernel_rfl
@[go_sem] theorem td116 : tdOf Try.prog 116 = some ⟨.int .i32, 1, 4, [.int .i32 0], false⟩ := by kernel_rfl
@[go_sem] theorem td117 : tdOf Try.prog 117 = some ⟨.int .i32, 1, 4, [.int .i32 0], false⟩ := by kernel_rfl
@[go_sem] theorem td118 : tdOf Try.prog 118 = some ⟨.struct [(0, 12), (1, 12), (2, 43), (3, 112), (4, 5), (5, 5), (6, 113), (7, 114), (8, 115), (9, 116), (10, 117)], 11, 48, [.int .u64 0, .int .u64 0, .int .u32 0, .int .u8 0, .int .u8 0, .int .u8 0, .int .u8 0, .nilf, .nilp, .int .i32 0, .int .i32 0], false⟩ := by kernel_rfl
@[go_sem] theorem td119 : tdOf Try.prog 119 = some ⟨.struct [(0, 12), (1, 12), (2, 43), (3, 112), (4, 5), (5, 5), (6, 113), (7, 114), (8, 115), (9, 116), (10, 117)], 11, 48, [.int .u64 0, .int .u64 0, .int .u32 0, .int .u8 0, .int .u8 0, .int .u8 0, .int .u8 0, .nilf, .nilp, .int .i32 0, .int .i32 0], false⟩ := by kernel_rfl
@[go_sem] theorem td120 : tdOf Try.prog 120 = some ⟨.other, 1, 8, [.nilp], false⟩ := by kernel_rfl
theorem tk0 : tk T 0 = .other := by simp only [tk, td0]
theorem az1 : azero T 1 = some [.nilf] := by simp [azero, td1, AV.one]
theorem tk1 : tk T 1 = .func := by simp only [tk, td1]
theorem az2 : azero T 2 = some [.int .i64 0] := by simp [azero, td2, AV.one]
theorem tk2 : tk T 2 = .int .i64 := by simp only [tk, td2]
theorem az3 : azero T 3 = some [.int .i64 0] := by simp [azero, td3, AV.one]
theorem tk3 : tk T 3 = .int .i64 := by simp only [tk, td3]
theorem az4 : azero T 4 = some [.bool false] := by simp [azero, td4, AV.one]
theorem tk4 : tk T 4 = .bool := by simp only [tk, td4]
theorem az5 : azero T 5 = some [.int .u8 0] := by simp [azero, td5, AV.one]
theorem tk5 : tk T 5 = .int .u8 := by simp only [tk, td5]
theorem az6 : azero T 6 = some [.int .u8 0] := by simp [azero, td6, AV.one]
theorem tk6 : tk T 6 = .int .u8 := by simp only [tk, td6]
theorem az7 : azero T 7 = some [.int .i64 0, .int .i64 0, .bool false, .int .u8 0] := by simp [azero, td7, AV.one]
theorem tk7 : tk T 7 = .struct [(0, 2), (1, 3), (2, 4), (3, 6)] := by simp only [tk, td7]
theorem az8 : azero T 8 = some [.int .i64 0, .int .i64 0, .bool false, .int .u8 0] := by simp [azero, td8, AV.one]
theorem tk8 : tk T 8 = .struct [(0, 2), (1, 3), (2, 4), (3, 6)] := by simp only [tk, td8]
theorem az9 : azero T 9 = some [.str []] := by simp [azero, td9, AV.one]
theorem tk9 : tk T 9 = .str := by simp only [tk, td9]
theorem az10 : azero T 10 = some [.str []] := by simp [azero, td10, AV.one]
theorem tk10 : tk T 10 = .str := by simp only [tk, td10]
theorem az11 : azero T 11 = some [.str []] := by simp [azero, td11, AV.one]
theorem tk11 : tk T 11 = .str := by simp only [tk, td11]
theorem az12 : azero T 12 = some [.int .u64 0] := by simp [azero, td12, AV.one]
theorem tk12 : tk T 12 = .int .u64 := by simp only [tk, td12]
theorem az13 : azero T 13 = some [.str [], .int .u64 0] := by simp [azero, td13, AV.one]
theorem tk13 : tk T 13 = .struct [(0, 9), (1, 12)] := by simp only [tk, td13]
theorem az14 : azero T 14 = some [.str [], .int .u64 0] := by simp [azero, td14, AV.one]
theorem tk14 : tk T 14 = .struct [(0, 9), (1, 12)] := by simp only [tk, td14]
theorem az15 : azero T 15 = some [.nilp] := by simp [azero, td15, AV.one]
theorem tk15 : tk T 15 = .ptr 107 := by simp only [tk, td15]
theorem az16 : azero T 16 = some [.nilp] := by simp [azero, td16, AV.one]
theorem tk16 : tk T 16 = .ptr 110 := by simp only [tk, td16]
theorem az17 : azero T 17 = some [.nilp] := by simp [azero, td17, AV.one]
theorem tk17 : tk T 17 = .ptr 119 := by simp only [tk, td17]
theorem az18 : azero T 18 = some [.nilp] := by simp [azero, td18, AV.one]
theorem tk18 : tk T 18 = .struct [(0, 17)] := by simp only [tk, td18]
theorem az19 : azero T 19 = some [.nilp] := by simp [azero, td19, AV.one]
theorem tk19 : tk T 19 = .struct [(0, 17)] := by simp only [tk, td19]
theorem tk20 : tk T 20 = .other := by simp only [tk, td20]
theorem az21 : azero T 21 = some [.int .i32 0] := by simp [azero, td21, AV.one]
theorem tk21 : tk T 21 = .int .i32 := by simp only [tk, td21]
theorem az22 : azero T 22 = some [.int .i64 0] := by simp [azero, td22, AV.one]
theorem tk22 : tk T 22 = .int .i64 := by simp only [tk, td22]
theorem tk23 : tk T 23 = .other := by simp only [tk, td23]
theorem az24 : azero T 24 = some [.nilf] := by simp [azero, td24, AV.one]
theorem tk24 : tk T 24 = .func := by simp only [tk, td24]
theorem tk25 : tk T 25 = .other := by simp only [tk, td25]
theorem az26 : azero T 26 = some [.nilf] := by simp [azero, td26, AV.one]
theorem tk26 : tk T 26 = .func := by simp only [tk, td26]
theorem az27 : azero T 27 = some [.int .u64 0] := by simp [azero, td27, AV.one]
theorem tk27 : tk T 27 = .int .u64 := by simp only [tk, td27]
theorem az28 : azero T 28 = some [.nilf] := by simp [azero, td28, AV.one]
theorem tk28 : tk T 28 = .func := by simp only [tk, td28]
theorem az29 : azero T 29 = some [.nilf] := by simp [azero, td29, AV.one]
theorem tk29 : tk T 29 = .func := by simp only [tk, td29]
theorem se30 : asliceElem T 30 = some (5, 1) := by simp only [asliceElem, tk, asize, td30, td5, Option.map_some]
theorem az30 : azero T 30 = some [.nils] := by simp [azero, td30, AV.one]
theorem tk30 : tk T 30 = .slice 5 := by simp only [tk, td30]
theorem tk31 : tk T 31 = .other := by simp only [tk, td31]
theorem az32 : azero T 32 = some [.nilf] := by simp [azero, td32, AV.one]
theorem tk32 : tk T 32 = .func := by simp only [tk, td32]
theorem tk33 : tk T 33 = .other := by simp only [tk, td33]
theorem az34 : azero T 34 = some [.nilf] := by simp [azero, td34, AV.one]
theorem tk34 : tk T 34 = .func := by simp only [tk, td34]
theorem tk35 : tk T 35 = .other := by simp only [tk, td35]
theorem az36 : azero T 36 = some [.nilf] := by simp [azero, td36, AV.one]
theorem tk36 : tk T 36 = .func := by simp only [tk, td36]
theorem tk37 : tk T 37 = .other := by simp only [tk, td37]
theorem az38 : azero T 38 = some [.nilf] := by simp [azero, td38, AV.one]
theorem tk38 : tk T 38 = .func := by simp only [tk, td38]
theorem az39 : azero T 39 = some [.nilf] := by simp [azero, td39, AV.one]
theorem tk39 : tk T 39 = .func := by simp only [tk, td39]
theorem az40 : azero T 40 = some [.nilf] := by simp [azero, td40, AV.one]
theorem tk40 : tk T 40 = .func := by simp only [tk, td40]
theorem az41 : azero T 41 = some [.nilf] := by simp [azero, td41, AV.one]
theorem tk41 : tk T 41 = .func := by simp only [tk, td41]
theorem se42 : asliceElem T 42 = some (9, 1) := by simp only [asliceElem, tk, asize, td42, td9, Option.map_some]
theorem az42 : azero T 42 = some [.nils] := by simp [azero, td42, AV.one]
theorem tk42 : tk T 42 = .slice 9 := by simp only [tk, td42]
theorem az43 : azero T 43 = some [.int .u32 0] := by simp [azero, td43, AV.one]
theorem tk43 : tk T 43 = .int .u32 := by simp only [tk, td43]
theorem az44 : azero T 44 = some [.int .u8 0, .int .i64 0, .nils, .str [], .int .u32 0, .int .i64 0, .int .u64 0, .int .u64 0] := by simp [azero, td44, AV.one]
theorem tk44 : tk T 44 = .struct [(0, 5), (1, 3), (2, 42), (3, 9), (4, 43), (5, 3), (6, 27), (7, 27)] := by simp only [tk, td44]
theorem az45 : azero T 45 = some [.int .u8 0, .int .i64 0, .nils, .str [], .int .u32 0, .int .i64 0, .int .u64 0, .int .u64 0] := by simp [azero, td45, AV.one]
theorem tk45 : tk T 45 = .struct [(0, 5), (1, 3), (2, 42), (3, 9), (4, 43), (5, 3), (6, 27), (7, 27)] := by simp only [tk, td45]
theorem tk46 : tk T 46 = .other := by simp only [tk, td46]
theorem az47 : azero T 47 = some [.nilf] := by simp [azero, td47, AV.one]
theorem tk47 : tk T 47 = .func := by simp only [tk, td47]
theorem tk48 : tk T 48 = .other := by simp only [tk, td48]
theorem az49 : azero T 49 = some [.nilf] := by simp [azero, td49, AV.one]
theorem tk49 : tk T 49 = .func := by simp only [tk, td49]
theorem tk50 : tk T 50 = .other := by simp only [tk, td50]
theorem az51 : azero T 51 = some [.nilf] := by simp [azero, td51, AV.one]
theorem tk51 : tk T 51 = .func := by simp only [tk, td51]
theorem tk52 : tk T 52 = .other := by simp only [tk, td52]
theorem az53 : azero T 53 = some [.nilf] := by simp [azero, td53, AV.one]
theorem tk53 : tk T 53 = .func := by simp only [tk, td53]
theorem az54 : azero T 54 = some [.nilf] := by simp [azero, td54, AV.one]
theorem tk54 : tk T 54 = .func := by simp only [tk, td54]
theorem az55 : azero T 55 = some [.nilf] := by simp [azero, td55, AV.one]
theorem tk55 : tk T 55 = .func := by simp only [tk, td55]
theorem se56 : asliceElem T 56 = some (71, 11) := by simp only [asliceElem, tk, asize, td56, td71, Option.map_some]
theorem az56 : azero T 56 = some [.nils] := by simp [azero, td56, AV.one]
theorem tk56 : tk T 56 = .slice 71 := by simp only [tk, td56]
theorem az57 : azero T 57 = some [.nilf] := by simp [azero, td57, AV.one]
theorem tk57 : tk T 57 = .func := by simp only [tk, td57]
theorem az58 : azero T 58 = some [.nilf] := by simp [azero, td58, AV.one]
theorem tk58 : tk T 58 = .func := by simp only [tk, td58]
theorem az59 : azero T 59 = some [.nilf] := by simp [azero, td59, AV.one]
theorem tk59 : tk T 59 = .func := by simp only [tk, td59]
theorem tk60 : tk T 60 = .other := by simp only [tk, td60]
theorem az61 : azero T 61 = some [.nilf] := by simp [azero, td61, AV.one]
theorem tk61 : tk T 61 = .func := by simp only [tk, td61]
theorem tk62 : tk T 62 = .other := by simp only [tk, td62]
theorem az63 : azero T 63 = some [.nilf] := by simp [azero, td63, AV.one]
theorem tk63 : tk T 63 = .func := by simp only [tk, td63]
theorem az64 : azero T 64 = some [.nilf] := by simp [azero, td64, AV.one]
theorem tk64 : tk T 64 = .func := by simp only [tk, td64]
theorem az65 : azero T 65 = some [.nilf] := by simp [azero, td65, AV.one]
theorem tk65 : tk T 65 = .func := by simp only [tk, td65]
theorem az66 : azero T 66 = some [.nilf] := by simp [azero, td66, AV.one]
theorem tk66 : tk T 66 = .func := by simp only [tk, td66]
theorem az67 : azero T 67 = some [.nilf] := by simp [azero, td67, AV.one]
theorem tk67 : tk T 67 = .func := by simp only [tk, td67]
theorem az68 : azero T 68 = some [.str [], .str [], .int .u32 0, .int .i64 0, .int .u64 0] := by simp [azero, td68, AV.one]
theorem tk68 : tk T 68 = .struct [(0, 9), (1, 9), (2, 43), (3, 3), (4, 27)] := by simp only [tk, td68]
theorem az69 : azero T 69 = some [.str [], .str [], .int .u32 0, .int .i64 0, .int .u64 0] := by simp [azero, td69, AV.one]
theorem tk69 : tk T 69 = .struct [(0, 9), (1, 9), (2, 43), (3, 3), (4, 27)] := by simp only [tk, td69]
theorem az70 : azero T 70 = some [.int .u8 0, .int .i64 0, .str [], .str [], .int .u32 0, .int .i64 0, .int .u64 0, .str [], .int .u8 0, .int .i64 0, .bool false] := by simp [azero, td70, AV.one]
theorem tk70 : tk T 70 = .struct [(0, 5), (1, 3), (2, 69), (7, 9), (8, 5), (9, 3), (10, 4)] := by simp only [tk, td70]
theorem az71 : azero T 71 = some [.int .u8 0, .int .i64 0, .str [], .str [], .int .u32 0, .int .i64 0, .int .u64 0, .str [], .int .u8 0, .int .i64 0, .bool false] := by simp [azero, td71, AV.one]
theorem tk71 : tk T 71 = .struct [(0, 5), (1, 3), (2, 69), (7, 9), (8, 5), (9, 3), (10, 4)] := by simp only [tk, td71]
theorem az72 : azero T 72 = some [.nilf] := by simp [azero, td72, AV.one]
theorem tk72 : tk T 72 = .func := by simp only [tk, td72]
theorem az73 : azero T 73 = some [.nilf] := by simp [azero, td73, AV.one]
theorem tk73 : tk T 73 = .func := by simp only [tk, td73]
theorem tk74 : tk T 74 = .other := by simp only [tk, td74]
theorem az75 : azero T 75 = some [.nilf] := by simp [azero, td75, AV.one]
theorem tk75 : tk T 75 = .func := by simp only [tk, td75]
theorem az76 : azero T 76 = some [.nilf] := by simp [azero, td76, AV.one]
theorem tk76 : tk T 76 = .func := by simp only [tk, td76]
theorem az77 : azero T 77 = some [.int .u64 0] := by simp [azero, td77, AV.one]
theorem tk77 : tk T 77 = .int .u64 := by simp only [tk, td77]
theorem az78 : azero T 78 = some [.nilf] := by simp [azero, td78, AV.one]
theorem tk78 : tk T 78 = .func := by simp only [tk, td78]
theorem az79 : azero T 79 = some [.nilf] := by simp [azero, td79, AV.one]
theorem tk79 : tk T 79 = .func := by simp only [tk, td79]
theorem az80 : azero T 80 = some [.nilf] := by simp [azero, td80, AV.one]
theorem tk80 : tk T 80 = .func := by simp only [tk, td80]
theorem az81 : azero T 81 = some [.nilf] := by simp [azero, td81, AV.one]
theorem tk81 : tk T 81 = .func := by simp only [tk, td81]
theorem az82 : azero T 82 = some [.nilp] := by simp [azero, td82, AV.one]
theorem tk82 : tk T 82 = .ptr 84 := by simp only [tk, td82]
theorem az83 : azero T 83 = some [.nils, .bool false] := by simp [azero, td83, AV.one]
theorem tk83 : tk T 83 = .struct [(0, 30), (1, 4)] := by simp only [tk, td83]
theorem az84 : azero T 84 = some [.nils, .bool false] := by simp [azero, td84, AV.one]
theorem tk84 : tk T 84 = .struct [(0, 30), (1, 4)] := by simp only [tk, td84]
theorem az85 : azero T 85 = some [.nilf] := by simp [azero, td85, AV.one]
theorem tk85 : tk T 85 = .func := by simp only [tk, td85]
theorem az86 : azero T 86 = some [.nilf] := by simp [azero, td86, AV.one]
theorem tk86 : tk T 86 = .func := by simp only [tk, td86]
theorem az87 : azero T 87 = some [.nilf] := by simp [azero, td87, AV.one]
theorem tk87 : tk T 87 = .func := by simp only [tk, td87]
theorem az88 : azero T 88 = some [.nilf] := by simp [azero, td88, AV.one]
theorem tk88 : tk T 88 = .func := by simp only [tk, td88]
theorem az89 : azero T 89 = some [.nilf] := by simp [azero, td89, AV.one]
theorem tk89 : tk T 89 = .func := by simp only [tk, td89]
theorem az90 : azero T 90 = some [.nilp] := by simp [azero, td90, AV.one]
theorem tk90 : tk T 90 = .ptr 92 := by simp only [tk, td90]
theorem az91 : azero T 91 = some [.nils, .bool false] := by simp [azero, td91, AV.one]
theorem tk91 : tk T 91 = .struct [(0, 30), (1, 4)] := by simp only [tk, td91]
theorem az92 : azero T 92 = some [.nils, .bool false] := by simp [azero, td92, AV.one]
theorem tk92 : tk T 92 = .struct [(0, 30), (1, 4)] := by simp only [tk, td92]
theorem az93 : azero T 93 = some [.nilf] := by simp [azero, td93, AV.one]
theorem tk93 : tk T 93 = .func := by simp only [tk, td93]
theorem az94 : azero T 94 = some [.nilf] := by simp [azero, td94, AV.one]
theorem tk94 : tk T 94 = .func := by simp only [tk, td94]
theorem az95 : azero T 95 = some [.nilf] := by simp [azero, td95, AV.one]
theorem tk95 : tk T 95 = .func := by simp only [tk, td95]
theorem az96 : azero T 96 = some [.nilf] := by simp [azero, td96, AV.one]
theorem tk96 : tk T 96 = .func := by simp only [tk, td96]
theorem az97 : azero T 97 = some [.nilf] := by simp [azero, td97, AV.one]
theorem tk97 : tk T 97 = .func := by simp only [tk, td97]
theorem az98 : azero T 98 = some [.nilf] := by simp [azero, td98, AV.one]
theorem tk98 : tk T 98 = .func := by simp only [tk, td98]
theorem az99 : azero T 99 = some [.nilf] := by simp [azero, td99, AV.one]
theorem tk99 : tk T 99 = .func := by simp only [tk, td99]
theorem az100 : azero T 100 = some [.nilf] := by simp [azero, td100, AV.one]
theorem tk100 : tk T 100 = .func := by simp only [tk, td100]
theorem se101 : asliceElem T 101 = some (3, 1) := by simp only [asliceElem, tk, asize, td101, td3, Option.map_some]
theorem az101 : azero T 101 = some [.nils] := by simp [azero, td101, AV.one]
theorem tk101 : tk T 101 = .slice 3 := by simp only [tk, td101]
theorem az102 : azero T 102 = some [.nilf] := by simp [azero, td102, AV.one]
theorem tk102 : tk T 102 = .func := by simp only [tk, td102]
theorem az103 : azero T 103 = some [.nilf] := by simp [azero, td103, AV.one]
theorem tk103 : tk T 103 = .func := by simp only [tk, td103]
theorem az104 : azero T 104 = some [.nilf] := by simp [azero, td104, AV.one]
theorem tk104 : tk T 104 = .func := by simp only [tk, td104]
theorem az105 : azero T 105 = some [.nilf] := by simp [azero, td105, AV.one]
theorem tk105 : tk T 105 = .func := by simp only [tk, td105]
theorem az106 : azero T 106 = some [.nilp, .nilp, .nilp, .str []] := by simp [azero, td106, AV.one]
theorem tk106 : tk T 106 = .struct [(0, 17), (1, 17), (2, 17), (3, 9)] := by simp only [tk, td106]
theorem az107 : azero T 107 = some [.nilp, .nilp, .nilp, .str []] := by simp [azero, td107, AV.one]
theorem tk107 : tk T 107 = .struct [(0, 17), (1, 17), (2, 17), (3, 9)] := by simp only [tk, td107]
theorem tk108 : tk T 108 = .other := by simp only [tk, td108]
theorem az109 : azero T 109 = some [] := by simp [azero, td109, AV.one]
theorem tk109 : tk T 109 = .struct [(0, 108)] := by simp only [tk, td109]
theorem az110 : azero T 110 = some [] := by simp [azero, td110, AV.one]
theorem tk110 : tk T 110 = .struct [(0, 108)] := by simp only [tk, td110]
theorem az111 : azero T 111 = some [.nilf] := by simp [azero, td111, AV.one]
theorem tk111 : tk T 111 = .func := by simp only [tk, td111]
theorem az112 : azero T 112 = some [.int .u8 0] := by simp [azero, td112, AV.one]
theorem tk112 : tk T 112 = .int .u8 := by simp only [tk, td112]
theorem az113 : azero T 113 = some [.int .u8 0] := by simp [azero, td113, AV.one]
theorem tk113 : tk T 113 = .int .u8 := by simp only [tk, td113]
theorem az114 : azero T 114 = some [.nilf] := by simp [azero, td114, AV.one]
theorem tk114 : tk T 114 = .func := by simp only [tk, td114]
theorem az115 : azero T 115 = some [.nilp] := by simp [azero, td115, AV.one]
theorem tk115 : tk T 115 = .ptr 5 := by simp only [tk, td115]
theorem az116 : azero T 116 = some [.int .i32 0] := by simp [azero, td116, AV.one]
theorem tk116 : tk T 116 = .int .i32 := by simp only [tk, td116]
theorem az117 : azero T 117 = some [.int .i32 0] := by simp [azero, td117, AV.one]
theorem tk117 : tk T 117 = .int .i32 := by simp only [tk, td117]
theorem az118 : azero T 118 = some [.int .u64 0, .int .u64 0, .int .u32 0, .int .u8 0, .int .u8 0, .int .u8 0, .int .u8 0, .nilf, .nilp, .int .i32 0, .int .i32 0] := by simp [azero, td118, AV.one]
theorem tk118 : tk T 118 = .struct [(0, 12), (1, 12), (2, 43), (3, 112), (4, 5), (5, 5), (6, 113), (7, 114), (8, 115), (9, 116), (10, 117)] := by simp only [tk, td118]
theorem az119 : azero T 119 = some [.int .u64 0, .int .u64 0, .int .u32 0, .int .u8 0, .int .u8 0, .int .u8 0, .int .u8 0, .nilf, .nilp, .int .i32 0, .int .i32 0] := by simp [azero, td119, AV.one]
theorem tk119 : tk T 119 = .struct [(0, 12), (1, 12), (2, 43), (3, 112), (4, 5), (5, 5), (6, 113), (7, 114), (8, 115), (9, 116), (10, 117)] := by simp only [tk, td119]
theorem tk120 : tk T 120 = .other := by simp only [tk, td120]
theorem hmix : Try.prog.follows .mixedOrders = true := by kernel_rfl
theorem hT : TOk Try.prog T := fun _ _ h => h
end Go.Proofs.Ytakmlfbejbelaaa
/-! Numbers and texts as bytes: what is said, with no program in sight. -/
namespace Go.Proofs.PI

def small (n : Nat) : List UInt8 := if h : n > 127 then UInt8.ofNat (n % 128 + 128) :: small (n / 128) else [UInt8.ofNat n]
termination_by n
theorem small_big {n : Nat} (h : n > 127) : small n = UInt8.ofNat (n % 128 + 128) :: small (n / 128) := by rw [small, dif_pos h]
theorem small_low {n : Nat} (h : n ≤ 127) : small n = [UInt8.ofNat n] := by rw [small, dif_neg (by omega)]
theorem small_len : ∀ (k n : Nat), n < 128 ^ (k + 1) → (small n).length ≤ k + 1
  | 0, n, h => by rw [small_low (by simpa using Nat.lt_succ_iff.1 h)]; simp
  | k + 1, n, h => by
    by_cases hn : n > 127
    · rw [small_big hn, List.length_cons]
      have := small_len k (n / 128) (by rw [Nat.pow_succ] at h; omega)
      omega
    · rw [small_low (by omega)]; simp
theorem small_len10 {n : Nat} (h : n < 2 ^ 64) : (small n).length ≤ 10 := small_len 9 n (by omega)
theorem small_pos (n : Nat) : 0 < (small n).length := by rw [small]; split <;> simp

/-- What is read from byte i on. -/
def rd : Nat → List UInt8 → Option (Nat × Nat)
  | _, [] => none
  | i, x :: l => if i = 9 ∧ x.toNat > 1 then none else if x.toNat < 128 then (if x.toNat = 0 ∧ i > 0 then none else some (x.toNat, 1)) else (rd (i + 1) l).map fun p => (p.1 * 128 + x.toNat % 128, p.2 + 1)
theorem rd_len : ∀ (l : List UInt8) (i : Nat) {p : Nat × Nat}, rd i l = some p → 1 ≤ p.2 ∧ p.2 ≤ l.length
  | [], i, p, h => by simp [rd] at h
  | x :: l, i, p, h => by
    simp only [rd] at h
    split at h
    · cases h
    · split at h
      · split at h
        · cases h
        · simp only [Option.some.injEq] at h; subst h; simp
      · cases hr : rd (i + 1) l with
        | none => rw [hr] at h; cases h
        | some q =>
          rw [hr] at h
          simp only [Option.map_some, Option.some.injEq] at h; subst h
          have := rd_len l (i + 1) hr
          simp; omega
theorem rd_lt : ∀ (l : List UInt8) (i j : Nat) {p : Nat × Nat}, i + j = 9 → rd i l = some p → p.1 < 2 * 128 ^ j
  | [], i, j, p, _, h => by simp [rd] at h
  | x :: l, i, j, p, hij, h => by
    simp only [rd] at h
    split at h
    · cases h
    · rename_i h9
      split at h
      · split at h
        · cases h
        · rename_i h128 _
          simp only [Option.some.injEq] at h; subst h
          simp only
          cases j with
          | zero => simp; by_cases h1 : x.toNat > 1
                    · exact absurd ⟨by omega, h1⟩ h9
                    · omega
          | succ j => have : 0 < 128 ^ j := Nat.pow_pos (by omega); rw [Nat.pow_succ]; omega
      · rename_i h128
        cases hr : rd (i + 1) l with
        | none => rw [hr] at h; cases h
        | some q =>
          rw [hr] at h
          simp only [Option.map_some, Option.some.injEq] at h; subst h
          cases j with
          | zero => exact absurd ⟨by omega, by omega⟩ h9
          | succ j =>
            have := rd_lt l (i + 1) j (by omega) hr
            simp only
            rw [Nat.pow_succ]; omega
theorem rd_lt64 {l : List UInt8} {p : Nat × Nat} (h : rd 0 l = some p) : p.1 < 2 ^ 64 := by have := rd_lt l 0 9 rfl h; omega
theorem rd_small : ∀ (n i j : Nat) (r : List UInt8), i + j = 9 → n < 2 * 128 ^ j → (n = 0 → i = 0) → rd i (small n ++ r) = some (n, (small n).length) := by
  intro n
  induction n using Nat.strongRecOn with
  | _ n ih =>
    intro i j r hij hn h0
    by_cases hb : n > 127
    · rw [small_big hb, List.cons_append]
      have hx : (UInt8.ofNat (n % 128 + 128)).toNat = n % 128 + 128 := by simp; omega
      cases j with
      | zero => omega
      | succ j =>
        rw [rd, hx, if_neg (by omega), if_neg (by omega), ih (n / 128) (by omega) (i + 1) j r (by omega) (by rw [Nat.pow_succ] at hn; omega) (by omega)]
        simp; omega
    · rw [small_low (by omega), List.singleton_append]
      have hx : (UInt8.ofNat n).toNat = n := by simp; omega
      rw [rd, hx, if_neg, if_pos (by omega), if_neg (by omega)]
      · rfl
      · rintro ⟨rfl, h1⟩
        have : j = 0 := by omega
        subst this; omega
theorem rd_small0 {n : Nat} (h : n < 2 ^ 64) (r : List UInt8) : rd 0 (small n ++ r) = some (n, (small n).length) := rd_small n 0 9 r rfl (by omega) (fun _ => rfl)
theorem rd_pos : ∀ (l : List UInt8) (i : Nat) {p : Nat × Nat}, rd (i + 1) l = some p → p.1 > 0
  | [], i, p, h => by simp [rd] at h
  | x :: l, i, p, h => by
    simp only [rd] at h
    split at h
    · cases h
    · split at h
      · split at h
        · cases h
        · simp only [Option.some.injEq] at h; subst h; simp only; omega
      · cases hr : rd (i + 1 + 1) l with
        | none => rw [hr] at h; cases h
        | some q =>
          have ih := rd_pos l (i + 1) hr
          rw [hr] at h
          simp only [Option.map_some, Option.some.injEq] at h; subst h
          simp only; omega
/-- What is read was written so. -/
theorem small_rd : ∀ (l : List UInt8) (i : Nat) {p : Nat × Nat}, rd i l = some p → l.take p.2 = small p.1
  | [], i, p, h => by simp [rd] at h
  | x :: l, i, p, h => by
    simp only [rd] at h
    split at h
    · cases h
    · split at h
      · split at h
        · cases h
        · simp only [Option.some.injEq] at h; subst h
          rw [small_low (by simp only; omega)]; simp
      · rename_i h128
        cases hr : rd (i + 1) l with
        | none => rw [hr] at h; cases h
        | some q =>
          have ih := small_rd l (i + 1) hr
          have hpos := rd_pos l i hr
          rw [hr] at h
          simp only [Option.map_some, Option.some.injEq] at h; subst h
          have hlt := x.toNat_lt
          have e1 : small (q.1 * 128 + x.toNat % 128) = UInt8.ofNat ((q.1 * 128 + x.toNat % 128) % 128 + 128) :: small ((q.1 * 128 + x.toNat % 128) / 128) := small_big (by omega)
          have e2 : UInt8.ofNat ((q.1 * 128 + x.toNat % 128) % 128 + 128) = x := by
            apply UInt8.toNat.inj; simp; omega
          have e3 : (q.1 * 128 + x.toNat % 128) / 128 = q.1 := by omega
          simp only
          rw [List.take_succ_cons, ih, e1, e2, e3]

/-- A text cut off: it, and the rest. -/
def cutL (l : List UInt8) : Option (List UInt8 × List UInt8) := match rd 0 l with
  | some (n, k) => if n ≤ l.length - k then some ((l.drop k).take n, l.drop (k + n)) else none
  | none => none
def textL (s : List UInt8) : List UInt8 := small s.length ++ s
theorem cutL_text {s r : List UInt8} (h : s.length < 2 ^ 64) : cutL (textL s ++ r) = some (s, r) := by
  unfold cutL textL
  rw [List.append_assoc, rd_small0 h]
  simp only
  simp [List.drop_append, List.drop_eq_nil_of_le]
theorem cutL_some {l s r : List UInt8} (h : cutL l = some (s, r)) : l = textL s ++ r := by
  unfold cutL at h
  cases hr : rd 0 l with
  | none => rw [hr] at h; cases h
  | some p =>
    obtain ⟨n, k⟩ := p
    rw [hr] at h
    simp only at h
    split at h
    · rename_i hn
      simp only [Option.some.injEq, Prod.mk.injEq] at h
      obtain ⟨rfl, rfl⟩ := h
      have h1 := small_rd l 0 hr
      have h2 := rd_len l 0 hr
      simp only at h1 h2
      have h3 : ((l.drop k).take n).length = n := by simp; omega
      unfold textL
      rw [h3, ← h1, List.append_assoc]
      have : l.drop (k + n) = (l.drop k).drop n := by rw [List.drop_drop]
      rw [this, List.take_append_drop, List.take_append_drop]
    · cases h

/-! ### the way up and the way down -/
/-- Read up: with the first i bytes in hand. -/
def rdUp (l : List UInt8) (i acc : Nat) : Option (Nat × Nat) := (rd i (l.drop i)).map fun p => (acc + p.1 * 128 ^ i, i + p.2)
theorem rdUp_zero (l : List UInt8) : rdUp l 0 0 = rd 0 l := by
  unfold rdUp
  rw [List.drop_zero]
  cases rd 0 l <;> simp
theorem rdUp_end {l : List UInt8} {i : Nat} (h : l.length ≤ i) (acc : Nat) : rdUp l i acc = none := by
  rw [rdUp, List.drop_eq_nil_of_le h]; simp [rd]
theorem rdUp_step {l : List UInt8} {i : Nat} (h : i < l.length) (acc : Nat) :
    rdUp l i acc = if i = 9 ∧ l[i].toNat > 1 then none else if l[i].toNat < 128 then (if l[i].toNat = 0 ∧ i > 0 then none else some (acc + l[i].toNat * 128 ^ i, i + 1)) else rdUp l (i + 1) (acc + l[i].toNat % 128 * 128 ^ i) := by
  unfold rdUp
  rw [List.drop_eq_getElem_cons h]
  simp only [rd]
  split
  · simp
  · split
    · split
      · simp
      · simp
    · cases rd (i + 1) (l.drop (i + 1)) with
      | none => simp
      | some p =>
        simp only [Option.map_some, Option.some.injEq, Prod.mk.injEq]
        constructor
        · rw [Nat.pow_succ, Nat.add_mul, Nat.mul_assoc, Nat.mul_comm 128]; omega
        · omega
theorem rd_skip {l : List UInt8} {i : Nat} (h : i < l.length) (hx : 128 ≤ l[i].toNat) (h9 : i ≠ 9) :
    rd i (l.drop i) = (rd (i + 1) (l.drop (i + 1))).map fun p => (p.1 * 128 + l[i].toNat % 128, p.2 + 1) := by
  rw [List.drop_eq_getElem_cons h]
  simp only [rd]
  rw [if_neg (by omega), if_neg (by omega)]
theorem rd_here {l : List UInt8} {i : Nat} (h : i < l.length) (hx : l[i].toNat < 128) : rd i (l.drop i) = if i = 9 ∧ l[i].toNat > 1 then none else if l[i].toNat = 0 ∧ i > 0 then none else some (l[i].toNat, 1) := by
  rw [List.drop_eq_getElem_cons h]
  simp only [rd]
  rw [if_pos hx]
theorem rd_none {l : List UInt8} : ∀ (k : Nat), (∀ j (h : j < l.length), j < k → 128 ≤ l[j].toNat) → k ≤ l.length → k ≤ 9 → rd k (l.drop k) = none → rd 0 l = none
  | 0, _, _, _, h => by simpa using h
  | k + 1, hb, hl, h9, h => by
    refine rd_none k (fun j hj hk => hb j hj (by omega)) (by omega) (by omega) ?_
    rw [rd_skip (by omega) (hb k (by omega) (by omega)) (by omega), h]; rfl
theorem rd_nine {l : List UInt8} (h : 9 < l.length) (hx : l[9].toNat > 1) : rd 9 (l.drop 9) = none := by
  rw [List.drop_eq_getElem_cons h]
  simp only [rd]
  rw [if_pos ⟨trivial, hx⟩]
end Go.Proofs.PI
namespace Go.Proofs.Ytakmlfbejbelaaa
open Go Go.Proofs Go.Proofs.PI
theorem i64_id (x : Int) (h0 : -9223372036854775808 ≤ x) (h1 : x < 9223372036854775808) : IntKind.i64.wrap x = x := by
  rw [IntKind.wrap_i64]; omega
theorem inc_id {i n : Nat} (h : i < n) (hn : n ≤ 140737488355328) : IntKind.i64.wrap ((i : Int) + 1) = ((i + 1 : Nat) : Int) := by
  rw [IntKind.wrap_i64]; omega
/-! ### numbers and texts as bytes (over values) -/
theorem u8_cells (x : UInt8) : Enc.u8.cells x = [.int .u8 x.toNat] := rfl
theorem Thaw.ob {m : Nat} {H : Heap} {v : AV} {l : List UInt8} (h : Ob m H v l) : Thaw m H v (Enc.u8.lst l) := by
  have h' : OwnE Enc.u8 m H v l := by unfold OwnE; rw [Enc.u8_row]; exact h
  exact h'.thaw (by decide)
theorem or128 (y : Nat) : IntKind.u8.wrap (BitVec.ofInt IntKind.u8.bits (IntKind.u8.wrap y) ||| BitVec.ofInt IntKind.u8.bits 128).toNat = (UInt8.ofNat (y % 128 + 128)).toNat := by
  have h1 : (UInt8.ofNat (y % 128 + 128)).toNat = y % 128 + 128 := by simp; omega
  rw [h1, IntKind.wrap_u8, IntKind.wrap_u8]
  have h2 : (BitVec.ofInt IntKind.u8.bits ((y : Int) % 256) ||| BitVec.ofInt IntKind.u8.bits 128).toNat = (y % 256) ||| 128 := by
    rw [BitVec.toNat_or, BitVec.toNat_ofInt, BitVec.toNat_ofInt]
    congr 1
    simp only [IntKind.bits]; omega
  rw [h2]
  have h3 : (y % 256) ||| 128 = y % 128 + 128 := by
    have : ∀ z < 256, z ||| 128 = z % 128 + 128 := by decide
    rw [this _ (by omega)]; omega
  rw [h3]; omega
theorem wrap8 (y : Nat) (h : y ≤ 127) : IntKind.u8.wrap y = (UInt8.ofNat y).toNat := by
  rw [IntKind.wrap_u8]; simp
theorem shr7 (y : Nat) : (y : Int).fdiv (2 ^ min (Int.toNat 7) IntKind.u64.bits) = ((y / 128 : Nat) : Int) := by
  rw [Int.fdiv_eq_ediv_of_nonneg _ (by exact Int.pow_nonneg (by omega))]
  simp [IntKind.bits]
theorem small_spec (x : Nat) (hx : x < 2 ^ 64) (H : Heap) : WC Try.prog 20 [.int .u64 x] H fun r H' => Ob H.length H' r (small x) ∧ Keep none H H' := by
  refine WC_of_K fun K hK => ?_
  refine WC_of_body hT Try.func20 rfl (by simp [Try.f20]) (by simp [Try.f20]) (wx_sound hT _ ?_)
  simp only [Try.f20]
  simp only [go_sem, Nat.reduceLT, Nat.reduceEqDiff, Nat.reduceAdd, Nat.reduceMul, Nat.reduceSub, Nat.reduceLeDiff, Int.reduceToNat, Int.reduceNeg, Int.reduceLT, Int.reduceLE, Int.reduceEq, reduceCtorEq]
  refine WX_loop (fun m fr' H' => ∃ (y : Nat) (v : AV) (pre : List UInt8), m = y ∧ fr'.get 0 = .int .u64 y ∧ fr'.get 3 = v ∧ Ob H.length H' v pre ∧ Keep none H H' ∧ y < 2 ^ 64 ∧ pre ++ small y = small x) x ⟨x, .nils, [], rfl, ?_, ?_, Ob.nils _ _, Keep.refl _ _, hx, rfl⟩ ?_
  · simp only [go_sem, Nat.reduceLT, Nat.reduceEqDiff, Nat.reduceAdd, Nat.reduceMul, Nat.reduceSub, Nat.reduceLeDiff, Int.reduceToNat, Int.reduceNeg, Int.reduceLT, Int.reduceLE, Int.reduceEq, reduceCtorEq]
  · simp only [go_sem, Nat.reduceLT, Nat.reduceEqDiff, Nat.reduceAdd, Nat.reduceMul, Nat.reduceSub, Nat.reduceLeDiff, Int.reduceToNat, Int.reduceNeg, Int.reduceLT, Int.reduceLE, Int.reduceEq, reduceCtorEq]
  · rintro m fr' H' ⟨y, v, pre, rfl, h0, h3, hown, hkeep, hy, hpre⟩
    have hlen : pre.length + (small m).length ≤ 10 := by have := small_len10 hx; rw [← hpre, List.length_append] at this; exact this
    have hpos := small_pos m
    refine wx_sound hT _ ?_
    simp only [go_sem, Nat.reduceLT, Nat.reduceEqDiff, Nat.reduceAdd, Nat.reduceMul, Nat.reduceSub, Nat.reduceLeDiff, Int.reduceToNat, Int.reduceNeg, Int.reduceLT, Int.reduceLE, Int.reduceEq, reduceCtorEq, h0]
    refine IfB_dec (fun hgt => ?_) (fun hle => ?_)
    · simp only [go_sem, Nat.reduceLT, Nat.reduceEqDiff, Nat.reduceAdd, Nat.reduceMul, Nat.reduceSub, Nat.reduceLeDiff, Int.reduceToNat, Int.reduceNeg, Int.reduceLT, Int.reduceLE, Int.reduceEq, reduceCtorEq, h0, h3]
      have o8 := or128 m
      simp only [IntKind.bits] at o8 ⊢
      rw [o8]
      refine append_ob (r := [UInt8.ofNat (m % 128 + 128)]) (hown.keep0 (Keep.snoc none _ _)) se30 az5 td5 rfl ((snoc_bs _ rfl rfl rfl).src tk30) (by simp; omega) (by have := hkeep.len; simp; omega) ?_
      intro v' H'' hown' hkeep' hfresh
      simp only [go_sem, Nat.reduceLT, Nat.reduceEqDiff, Nat.reduceAdd, Nat.reduceMul, Nat.reduceSub, Nat.reduceLeDiff, Int.reduceToNat, Int.reduceNeg, Int.reduceLT, Int.reduceLE, Int.reduceEq, reduceCtorEq, h0, h3, shr7]
      have hs : small m = UInt8.ofNat (m % 128 + 128) :: small (m / 128) := small_big (by omega)
      refine ⟨m / 128, by omega, m / 128, v', pre ++ [UInt8.ofNat (m % 128 + 128)], rfl, ?_, by simp only [go_sem, Nat.reduceLT, Nat.reduceEqDiff, Nat.reduceAdd, Nat.reduceMul, Nat.reduceSub, Nat.reduceLeDiff, Int.reduceToNat, Int.reduceNeg, Int.reduceLT, Int.reduceLE, Int.reduceEq, reduceCtorEq], hown', ?_, by omega, by rw [← hpre, hs]; simp⟩
      · simp only [go_sem, Nat.reduceLT, Nat.reduceEqDiff, Nat.reduceAdd, Nat.reduceMul, Nat.reduceSub, Nat.reduceLeDiff, Int.reduceToNat, Int.reduceNeg, Int.reduceLT, Int.reduceLE, Int.reduceEq, reduceCtorEq]
        exact congrArg _ (shr7 m)
      exact Own.new hown (hkeep.trans (Keep.snoc none _ _)) hkeep'
    · simp only [go_sem, Nat.reduceLT, Nat.reduceEqDiff, Nat.reduceAdd, Nat.reduceMul, Nat.reduceSub, Nat.reduceLeDiff, Int.reduceToNat, Int.reduceNeg, Int.reduceLT, Int.reduceLE, Int.reduceEq, reduceCtorEq, h0, h3]
      rw [wrap8 m (by omega)]
      refine append_ob (r := [UInt8.ofNat m]) (hown.keep0 (Keep.snoc none _ _)) se30 az5 td5 rfl ((snoc_bs _ rfl rfl rfl).src tk30) (by simp; omega) (by have := hkeep.len; simp; omega) ?_
      intro v' H'' hown' hkeep' hfresh
      simp only [go_sem, Nat.reduceLT, Nat.reduceEqDiff, Nat.reduceAdd, Nat.reduceMul, Nat.reduceSub, Nat.reduceLeDiff, Int.reduceToNat, Int.reduceNeg, Int.reduceLT, Int.reduceLE, Int.reduceEq, reduceCtorEq, h0, h3]
      rw [← small_low (by omega), hpre] at hown'
      exact hK _ _ ⟨hown', Own.new hown (hkeep.trans (Keep.snoc none _ _)) hkeep'⟩

theorem smallP (n : Int) (h0 : 0 ≤ n) (h1 : n < 18446744073709551616) (H : Heap) : WC Try.prog 20 [.int .u64 n] H fun r H' => r = Enc.u8.lst (small n.toNat) ∧ H' = H := by
  have := small_spec n.toNat (by omega) H
  rw [show ((n.toNat : Nat) : Int) = n by omega] at this
  exact WC_froze (Q := fun r => r = _) (this.mono fun r H' ⟨h1, h2⟩ => ⟨_, Thaw.ob h1, h2, rfl⟩)
theorem orAcc (x : UInt8) (i acc : Nat) (hi : i ≤ 9) (hacc : acc < 128 ^ i) (hno : ¬ (i = 9 ∧ x.toNat > 1)) :
    IntKind.u64.wrap (BitVec.ofInt IntKind.u64.bits acc ||| BitVec.ofInt IntKind.u64.bits (IntKind.u64.wrap (IntKind.u64.wrap (IntKind.u8.wrap (BitVec.ofInt IntKind.u8.bits x.toNat &&& BitVec.ofInt IntKind.u8.bits 127).toNat) * 2 ^ min (7 * (i : Int)).toNat IntKind.u64.bits))).toNat
      = ((acc + x.toNat % 128 * 128 ^ i : Nat) : Int) := by
  have hx := x.toNat_lt
  have h7 : (2 : Nat) ^ (7 * i) = 128 ^ i := by rw [Nat.pow_mul]
  have e1 : (BitVec.ofInt IntKind.u8.bits x.toNat &&& BitVec.ofInt IntKind.u8.bits 127).toNat = x.toNat % 128 := by
    rw [BitVec.toNat_and, BitVec.toNat_ofInt, BitVec.toNat_ofInt]
    have e : ∀ z < 256, z &&& 127 = z % 128 := by decide
    simp only [IntKind.bits]
    have e2 : ((x.toNat : Int) % ((2 ^ 8 : Nat) : Int)).toNat = x.toNat := by omega
    rw [e2]; exact e _ (by omega)
  have e2 : IntKind.u64.wrap (IntKind.u8.wrap ((x.toNat % 128 : Nat) : Int)) = ((x.toNat % 128 : Nat) : Int) := by
    rw [IntKind.wrap_u8, IntKind.wrap_u64]; omega
  have e3 : min (7 * (i : Int)).toNat IntKind.u64.bits = 7 * i := by simp only [IntKind.bits]; omega
  have hbound : acc + x.toNat % 128 * 128 ^ i < 2 ^ 64 := by
    have hm : x.toNat % 128 * 128 ^ i ≤ 127 * 128 ^ i := Nat.mul_le_mul_right _ (by omega)
    by_cases h9 : i = 9
    · subst h9
      have : x.toNat % 128 * 128 ^ 9 ≤ 1 * 128 ^ 9 := Nat.mul_le_mul_right _ (by omega)
      omega
    · have : 128 ^ i ≤ 128 ^ 8 := Nat.pow_le_pow_right (by omega) (by omega)
      omega
  have e4 : ((2 : Int) ^ (7 * i)) = ((128 ^ i : Nat) : Int) := by rw [← h7]; simp
  rw [e1, e2, e3, e4]
  have e5 : (((x.toNat % 128 : Nat) : Int) * ((128 ^ i : Nat) : Int)) = ((x.toNat % 128 * 128 ^ i : Nat) : Int) := by rw [Int.natCast_mul]
  rw [e5]
  have e6 : IntKind.u64.wrap ((x.toNat % 128 * 128 ^ i : Nat) : Int) = ((x.toNat % 128 * 128 ^ i : Nat) : Int) := by rw [IntKind.wrap_u64]; omega
  rw [e6]
  have e7 : (BitVec.ofInt IntKind.u64.bits (acc : Int) ||| BitVec.ofInt IntKind.u64.bits ((x.toNat % 128 * 128 ^ i : Nat) : Int)).toNat = acc + x.toNat % 128 * 128 ^ i := by
    rw [BitVec.toNat_or, BitVec.toNat_ofInt, BitVec.toNat_ofInt]
    simp only [IntKind.bits]
    have a1 : ((acc : Int) % ((2 ^ 64 : Nat) : Int)).toNat = acc := by omega
    have a2 : (((x.toNat % 128 * 128 ^ i : Nat) : Int) % ((2 ^ 64 : Nat) : Int)).toNat = x.toNat % 128 * 128 ^ i := by omega
    rw [a1, a2]
    have := Nat.two_pow_add_eq_or_of_lt (i := 7 * i) (b := acc) (by rw [h7]; exact hacc) (x.toNat % 128)
    rw [h7, Nat.mul_comm] at this
    rw [Nat.or_comm, ← this, Nat.add_comm]
  rw [e7, IntKind.wrap_u64]; omega
def rdV : Option (Nat × Nat) → AV
  | some p => .tup [.int .u64 p.1, .int .i64 p.2, .int .i64 0]
  | none => .tup [.int .u64 0, .int .i64 0, .int .i64 8]
theorem readP (l : List UInt8) (hl : l.length ≤ 140737488355328) (H : Heap) : WC Try.prog 16 [Enc.u8.lst l] H fun r H' => r = rdV (rd 0 l) ∧ H' = H := by
  refine WC_of_K fun K hK => ?_
  refine WC_of_body hT Try.func16 rfl (by simp [Try.f16]) (by simp [Try.f16]) (wx_sound hT _ ?_)
  simp only [Try.f16]
  simp only [go_sem, Nat.reduceLT, Nat.reduceEqDiff, Nat.reduceAdd, Nat.reduceMul, Nat.reduceSub, Nat.reduceLeDiff, Int.reduceToNat, Int.reduceNeg, Int.reduceLT, Int.reduceLE, Int.reduceEq, reduceCtorEq]
  refine WX_loop (fun m fr' H' => ∃ i acc : Nat, m = l.length - i ∧ i ≤ 9 ∧ fr'.get 8 = Enc.u8.lst l ∧ fr'.get 9 = .int .i64 l.length ∧ fr'.get 10 = .int .i64 i ∧ fr'.get 5 = .int .u64 acc ∧ acc < 128 ^ i ∧ rd 0 l = rdUp l i acc ∧ H' = H) l.length ⟨0, 0, rfl, by omega, ?_, ?_, ?_, ?_, by omega, (rdUp_zero l).symm, rfl⟩ ?_
  · simp only [go_sem, Nat.reduceLT, Nat.reduceEqDiff, Nat.reduceAdd, Nat.reduceMul, Nat.reduceSub, Nat.reduceLeDiff, Int.reduceToNat, Int.reduceNeg, Int.reduceLT, Int.reduceLE, Int.reduceEq, reduceCtorEq]
  · simp only [go_sem, Nat.reduceLT, Nat.reduceEqDiff, Nat.reduceAdd, Nat.reduceMul, Nat.reduceSub, Nat.reduceLeDiff, Int.reduceToNat, Int.reduceNeg, Int.reduceLT, Int.reduceLE, Int.reduceEq, reduceCtorEq]
  · simp only [go_sem, Nat.reduceLT, Nat.reduceEqDiff, Nat.reduceAdd, Nat.reduceMul, Nat.reduceSub, Nat.reduceLeDiff, Int.reduceToNat, Int.reduceNeg, Int.reduceLT, Int.reduceLE, Int.reduceEq, reduceCtorEq]
    rfl
  · simp only [go_sem, Nat.reduceLT, Nat.reduceEqDiff, Nat.reduceAdd, Nat.reduceMul, Nat.reduceSub, Nat.reduceLeDiff, Int.reduceToNat, Int.reduceNeg, Int.reduceLT, Int.reduceLE, Int.reduceEq, reduceCtorEq]
    rfl
  · rintro m fr' H' ⟨i, acc, rfl, hi, h8, h9, h10, h5, hacc, hrd, rfl⟩
    refine wx_sound hT _ ?_
    simp only [go_sem, Nat.reduceLT, Nat.reduceEqDiff, Nat.reduceAdd, Nat.reduceMul, Nat.reduceSub, Nat.reduceLeDiff, Int.reduceToNat, Int.reduceNeg, Int.reduceLT, Int.reduceLE, Int.reduceEq, reduceCtorEq, h8, h9, h10, h5]
    refine IfB_dec (fun hlt => ?_) (fun hge => ?_)
    · have hlt' : i < l.length := by omega
      have e1 := at_enc (E := Enc.u8) (T := T) (xs := l) se30 hlt' (k := .i64) (z := i) rfl
      simp only [go_sem, Nat.reduceLT, Nat.reduceEqDiff, Nat.reduceAdd, Nat.reduceMul, Nat.reduceSub, Nat.reduceLeDiff, Int.reduceToNat, Int.reduceNeg, Int.reduceLT, Int.reduceLE, Int.reduceEq, reduceCtorEq, h8, h9, h10, h5, e1, u8_cells]
      rw [rdUp_step hlt'] at hrd
      have hx := l[i].toNat_lt
      refine Guard_split (fun g9 => ?_) (fun g9 => ?_)
      · simp only [go_sem, Nat.reduceLT, Nat.reduceEqDiff, Nat.reduceAdd, Nat.reduceMul, Nat.reduceSub, Nat.reduceLeDiff, Int.reduceToNat, Int.reduceNeg, Int.reduceLT, Int.reduceLE, Int.reduceEq, reduceCtorEq, h8, h9, h10, h5, g9]
        refine IfB_dec (fun g1 => ?_) (fun g1 => ?_)
        · simp only [go_sem, Nat.reduceLT, Nat.reduceEqDiff, Nat.reduceAdd, Nat.reduceMul, Nat.reduceSub, Nat.reduceLeDiff, Int.reduceToNat, Int.reduceNeg, Int.reduceLT, Int.reduceLE, Int.reduceEq, reduceCtorEq]
          rw [if_pos ⟨by simp at g9; omega, by omega⟩] at hrd
          exact hK _ _ ⟨by rw [hrd]; rfl, rfl⟩
        · have hno : ¬ (i = 9 ∧ l[i].toNat > 1) := by omega
          simp only [go_sem, Nat.reduceLT, Nat.reduceEqDiff, Nat.reduceAdd, Nat.reduceMul, Nat.reduceSub, Nat.reduceLeDiff, Int.reduceToNat, Int.reduceNeg, Int.reduceLT, Int.reduceLE, Int.reduceEq, reduceCtorEq, h8, h9, h10, h5, g9]
          rw [i64_id (7 * (i : Int)) (by omega) (by omega), if_neg (by omega)]
          simp only [go_sem, Nat.reduceLT, Nat.reduceEqDiff, Nat.reduceAdd, Nat.reduceMul, Nat.reduceSub, Nat.reduceLeDiff, Int.reduceToNat, Int.reduceNeg, Int.reduceLT, Int.reduceLE, Int.reduceEq, reduceCtorEq, h8, h9, h10, h5]
          rw [if_neg hno] at hrd
          have o8 := orAcc l[i] i acc hi hacc hno
          simp only [IntKind.bits] at o8 ⊢
          rw [o8]
          have hpow : 128 ^ (i + 1) = 128 * 128 ^ i := by rw [Nat.pow_succ, Nat.mul_comm]
          refine IfB_dec (fun hl8 => ?_) (fun hl8 => ?_)
          · simp only [go_sem, Nat.reduceLT, Nat.reduceEqDiff, Nat.reduceAdd, Nat.reduceMul, Nat.reduceSub, Nat.reduceLeDiff, Int.reduceToNat, Int.reduceNeg, Int.reduceLT, Int.reduceLE, Int.reduceEq, reduceCtorEq, h8, h9, h10, h5]
            rw [if_pos (by omega)] at hrd
            refine Guard_split (fun g0 => ?_) (fun g0 => ?_)
            · simp only [go_sem, Nat.reduceLT, Nat.reduceEqDiff, Nat.reduceAdd, Nat.reduceMul, Nat.reduceSub, Nat.reduceLeDiff, Int.reduceToNat, Int.reduceNeg, Int.reduceLT, Int.reduceLE, Int.reduceEq, reduceCtorEq, h8, h9, h10, h5, g0]
              simp at g0
              refine IfB_dec (fun gi => ?_) (fun gi => ?_)
              · simp only [go_sem, Nat.reduceLT, Nat.reduceEqDiff, Nat.reduceAdd, Nat.reduceMul, Nat.reduceSub, Nat.reduceLeDiff, Int.reduceToNat, Int.reduceNeg, Int.reduceLT, Int.reduceLE, Int.reduceEq, reduceCtorEq]
                rw [if_pos ⟨by omega, by omega⟩] at hrd
                exact hK _ _ ⟨by rw [hrd]; rfl, rfl⟩
              · simp only [go_sem, Nat.reduceLT, Nat.reduceEqDiff, Nat.reduceAdd, Nat.reduceMul, Nat.reduceSub, Nat.reduceLeDiff, Int.reduceToNat, Int.reduceNeg, Int.reduceLT, Int.reduceLE, Int.reduceEq, reduceCtorEq, h8, h9, h10, h5, g0]
                rw [if_neg (by omega)] at hrd
                refine hK _ _ ⟨?_, rfl⟩
                rw [hrd, i64_id (i + 1 : Int) (by omega) (by omega), Nat.mod_eq_of_lt (by omega)]
                simp [rdV, g0]
            · simp only [go_sem, Nat.reduceLT, Nat.reduceEqDiff, Nat.reduceAdd, Nat.reduceMul, Nat.reduceSub, Nat.reduceLeDiff, Int.reduceToNat, Int.reduceNeg, Int.reduceLT, Int.reduceLE, Int.reduceEq, reduceCtorEq, h8, h9, h10, h5, g0]
              simp at g0
              rw [if_neg (by omega)] at hrd
              refine hK _ _ ⟨?_, rfl⟩
              rw [hrd, i64_id (i + 1 : Int) (by omega) (by omega), Nat.mod_eq_of_lt (by omega)]
              simp [rdV]
          · simp only [go_sem, Nat.reduceLT, Nat.reduceEqDiff, Nat.reduceAdd, Nat.reduceMul, Nat.reduceSub, Nat.reduceLeDiff, Int.reduceToNat, Int.reduceNeg, Int.reduceLT, Int.reduceLE, Int.reduceEq, reduceCtorEq, h8, h9, h10, h5]
            rw [if_neg (by omega)] at hrd
            have hi9 : i ≠ 9 := by intro h; exact hno ⟨h, by omega⟩
            refine ⟨l.length - (i + 1), by omega, i + 1, acc + l[i].toNat % 128 * 128 ^ i, rfl, by omega, ?_, ?_, ?_, ?_, ?_, hrd, rfl⟩
            · simp only [go_sem, Nat.reduceLT, Nat.reduceEqDiff, Nat.reduceAdd, Nat.reduceMul, Nat.reduceSub, Nat.reduceLeDiff, Int.reduceToNat, Int.reduceNeg, Int.reduceLT, Int.reduceLE, Int.reduceEq, reduceCtorEq, h8]
            · simp only [go_sem, Nat.reduceLT, Nat.reduceEqDiff, Nat.reduceAdd, Nat.reduceMul, Nat.reduceSub, Nat.reduceLeDiff, Int.reduceToNat, Int.reduceNeg, Int.reduceLT, Int.reduceLE, Int.reduceEq, reduceCtorEq, h9]
            · simp only [go_sem, Nat.reduceLT, Nat.reduceEqDiff, Nat.reduceAdd, Nat.reduceMul, Nat.reduceSub, Nat.reduceLeDiff, Int.reduceToNat, Int.reduceNeg, Int.reduceLT, Int.reduceLE, Int.reduceEq, reduceCtorEq]
              rw [i64_id (i + 1 : Int) (by omega) (by omega)]; rfl
            · simp only [go_sem, Nat.reduceLT, Nat.reduceEqDiff, Nat.reduceAdd, Nat.reduceMul, Nat.reduceSub, Nat.reduceLeDiff, Int.reduceToNat, Int.reduceNeg, Int.reduceLT, Int.reduceLE, Int.reduceEq, reduceCtorEq]
            · have : l[i].toNat % 128 * 128 ^ i ≤ 127 * 128 ^ i := Nat.mul_le_mul_right _ (by omega)
              omega
      · have hno : ¬ (i = 9 ∧ l[i].toNat > 1) := by simp at g9; omega
        simp only [go_sem, Nat.reduceLT, Nat.reduceEqDiff, Nat.reduceAdd, Nat.reduceMul, Nat.reduceSub, Nat.reduceLeDiff, Int.reduceToNat, Int.reduceNeg, Int.reduceLT, Int.reduceLE, Int.reduceEq, reduceCtorEq, h8, h9, h10, h5, g9]
        rw [i64_id (7 * (i : Int)) (by omega) (by omega), if_neg (by omega)]
        simp only [go_sem, Nat.reduceLT, Nat.reduceEqDiff, Nat.reduceAdd, Nat.reduceMul, Nat.reduceSub, Nat.reduceLeDiff, Int.reduceToNat, Int.reduceNeg, Int.reduceLT, Int.reduceLE, Int.reduceEq, reduceCtorEq, h8, h9, h10, h5]
        rw [if_neg hno] at hrd
        have o8 := orAcc l[i] i acc hi hacc hno
        simp only [IntKind.bits] at o8 ⊢
        rw [o8]
        have hpow : 128 ^ (i + 1) = 128 * 128 ^ i := by rw [Nat.pow_succ, Nat.mul_comm]
        refine IfB_dec (fun hl8 => ?_) (fun hl8 => ?_)
        · simp only [go_sem, Nat.reduceLT, Nat.reduceEqDiff, Nat.reduceAdd, Nat.reduceMul, Nat.reduceSub, Nat.reduceLeDiff, Int.reduceToNat, Int.reduceNeg, Int.reduceLT, Int.reduceLE, Int.reduceEq, reduceCtorEq, h8, h9, h10, h5]
          rw [if_pos (by omega)] at hrd
          refine Guard_split (fun g0 => ?_) (fun g0 => ?_)
          · simp only [go_sem, Nat.reduceLT, Nat.reduceEqDiff, Nat.reduceAdd, Nat.reduceMul, Nat.reduceSub, Nat.reduceLeDiff, Int.reduceToNat, Int.reduceNeg, Int.reduceLT, Int.reduceLE, Int.reduceEq, reduceCtorEq, h8, h9, h10, h5, g0]
            simp at g0
            refine IfB_dec (fun gi => ?_) (fun gi => ?_)
            · simp only [go_sem, Nat.reduceLT, Nat.reduceEqDiff, Nat.reduceAdd, Nat.reduceMul, Nat.reduceSub, Nat.reduceLeDiff, Int.reduceToNat, Int.reduceNeg, Int.reduceLT, Int.reduceLE, Int.reduceEq, reduceCtorEq]
              rw [if_pos ⟨by omega, by omega⟩] at hrd
              exact hK _ _ ⟨by rw [hrd]; rfl, rfl⟩
            · simp only [go_sem, Nat.reduceLT, Nat.reduceEqDiff, Nat.reduceAdd, Nat.reduceMul, Nat.reduceSub, Nat.reduceLeDiff, Int.reduceToNat, Int.reduceNeg, Int.reduceLT, Int.reduceLE, Int.reduceEq, reduceCtorEq, h8, h9, h10, h5, g0]
              rw [if_neg (by omega)] at hrd
              refine hK _ _ ⟨?_, rfl⟩
              rw [hrd, i64_id (i + 1 : Int) (by omega) (by omega), Nat.mod_eq_of_lt (by omega)]
              simp [rdV, g0]
          · simp only [go_sem, Nat.reduceLT, Nat.reduceEqDiff, Nat.reduceAdd, Nat.reduceMul, Nat.reduceSub, Nat.reduceLeDiff, Int.reduceToNat, Int.reduceNeg, Int.reduceLT, Int.reduceLE, Int.reduceEq, reduceCtorEq, h8, h9, h10, h5, g0]
            simp at g0
            rw [if_neg (by omega)] at hrd
            refine hK _ _ ⟨?_, rfl⟩
            rw [hrd, i64_id (i + 1 : Int) (by omega) (by omega), Nat.mod_eq_of_lt (by omega)]
            simp [rdV]
        · simp only [go_sem, Nat.reduceLT, Nat.reduceEqDiff, Nat.reduceAdd, Nat.reduceMul, Nat.reduceSub, Nat.reduceLeDiff, Int.reduceToNat, Int.reduceNeg, Int.reduceLT, Int.reduceLE, Int.reduceEq, reduceCtorEq, h8, h9, h10, h5]
          rw [if_neg (by omega)] at hrd
          have hi9 : i ≠ 9 := by intro h; exact hno ⟨h, by omega⟩
          refine ⟨l.length - (i + 1), by omega, i + 1, acc + l[i].toNat % 128 * 128 ^ i, rfl, by omega, ?_, ?_, ?_, ?_, ?_, hrd, rfl⟩
          · simp only [go_sem, Nat.reduceLT, Nat.reduceEqDiff, Nat.reduceAdd, Nat.reduceMul, Nat.reduceSub, Nat.reduceLeDiff, Int.reduceToNat, Int.reduceNeg, Int.reduceLT, Int.reduceLE, Int.reduceEq, reduceCtorEq, h8]
          · simp only [go_sem, Nat.reduceLT, Nat.reduceEqDiff, Nat.reduceAdd, Nat.reduceMul, Nat.reduceSub, Nat.reduceLeDiff, Int.reduceToNat, Int.reduceNeg, Int.reduceLT, Int.reduceLE, Int.reduceEq, reduceCtorEq, h9]
          · simp only [go_sem, Nat.reduceLT, Nat.reduceEqDiff, Nat.reduceAdd, Nat.reduceMul, Nat.reduceSub, Nat.reduceLeDiff, Int.reduceToNat, Int.reduceNeg, Int.reduceLT, Int.reduceLE, Int.reduceEq, reduceCtorEq]
            rw [i64_id (i + 1 : Int) (by omega) (by omega)]; rfl
          · simp only [go_sem, Nat.reduceLT, Nat.reduceEqDiff, Nat.reduceAdd, Nat.reduceMul, Nat.reduceSub, Nat.reduceLeDiff, Int.reduceToNat, Int.reduceNeg, Int.reduceLT, Int.reduceLE, Int.reduceEq, reduceCtorEq]
          · have : l[i].toNat % 128 * 128 ^ i ≤ 127 * 128 ^ i := Nat.mul_le_mul_right _ (by omega)
            omega
    · simp only [go_sem, Nat.reduceLT, Nat.reduceEqDiff, Nat.reduceAdd, Nat.reduceMul, Nat.reduceSub, Nat.reduceLeDiff, Int.reduceToNat, Int.reduceNeg, Int.reduceLT, Int.reduceLE, Int.reduceEq, reduceCtorEq]
      rw [rdUp_end (by omega)] at hrd
      exact hK _ _ ⟨by rw [hrd]; rfl, rfl⟩

theorem len_u64 (n : Nat) (h : n < 2 ^ 64) : IntKind.u64.wrap n = n := by rw [IntKind.wrap_u64]; omega
theorem text_spec (s : List UInt8) (hs : s.length ≤ 140737488355000) (H : Heap) : WC Try.prog 22 [.str s] H fun r H' => Ob H.length H' r (textL s) ∧ Keep none H H' := by
  refine WC_of_K fun K hK => ?_
  refine WC_of_body hT Try.func22 rfl (by simp [Try.f22]) (by simp [Try.f22]) (wx_sound hT _ ?_)
  simp only [Try.f22]
  simp only [go_sem, Nat.reduceLT, Nat.reduceEqDiff, Nat.reduceAdd, Nat.reduceMul, Nat.reduceSub, Nat.reduceLeDiff, Int.reduceToNat, Int.reduceNeg, Int.reduceLT, Int.reduceLE, Int.reduceEq, reduceCtorEq, len_u64 _ (show s.length < 2 ^ 64 by omega)]
  refine (small_spec s.length (by omega) _).mono ?_
  rintro r H1 ⟨ho, k1⟩
  simp only [go_sem, Nat.reduceLT, Nat.reduceEqDiff, Nat.reduceAdd, Nat.reduceMul, Nat.reduceSub, Nat.reduceLeDiff, Int.reduceToNat, Int.reduceNeg, Int.reduceLT, Int.reduceLE, Int.reduceEq, reduceCtorEq]
  have := small_len10 (n := s.length) (by omega)
  refine append_ob ho se30 az5 td5 rfl (str_src s tk9) (by omega) k1.len ?_
  intro v' H2 ho2 k2 hf
  simp only [go_sem, Nat.reduceLT, Nat.reduceEqDiff, Nat.reduceAdd, Nat.reduceMul, Nat.reduceSub, Nat.reduceLeDiff, Int.reduceToNat, Int.reduceNeg, Int.reduceLT, Int.reduceLE, Int.reduceEq, reduceCtorEq]
  exact hK _ _ ⟨ho2, Own.new ho k1 k2⟩
theorem textP (s : List UInt8) (hs : s.length ≤ 140737488355000) (H : Heap) : WC Try.prog 22 [.str s] H fun r H' => r = Enc.u8.lst (textL s) ∧ H' = H :=
  WC_froze (Q := fun r => r = _) ((text_spec s hs H).mono fun r H' ⟨h1, h2⟩ => ⟨_, Thaw.ob h1, h2, rfl⟩)
theorem cutInP (l : List UInt8) (hl : l.length ≤ 140737488355328) (H : Heap) : WC Try.prog 40 [Enc.u8.lst l] H fun r H' => r = (match cutL l with
  | some p => .tup [Enc.u8.lst p.1, Enc.u8.lst p.2, .int .i64 0]
  | none => .tup [.lst 0 [], .lst 0 [], .int .i64 8]) ∧ H' = H := by
  refine WC_val fun K hK => ?_
  refine WC_of_body hT Try.func40 rfl (by simp [Try.f40]) (by simp [Try.f40]) (wx_sound hT _ ?_)
  simp only [Try.f40]
  simp only [go_sem, Nat.reduceLT, Nat.reduceEqDiff, Nat.reduceAdd, Nat.reduceMul, Nat.reduceSub, Nat.reduceLeDiff, Int.reduceToNat, Int.reduceNeg, Int.reduceLT, Int.reduceLE, Int.reduceEq, reduceCtorEq]
  refine (readP l hl _).mono ?_
  rintro r H' ⟨rfl, rfl⟩
  cases hr : rd 0 l with
  | none =>
    have hc : cutL l = none := by unfold cutL; rw [hr]
    rw [hc] at hK
    simp only [go_sem, Nat.reduceLT, Nat.reduceEqDiff, Nat.reduceAdd, Nat.reduceMul, Nat.reduceSub, Nat.reduceLeDiff, Int.reduceToNat, Int.reduceNeg, Int.reduceLT, Int.reduceLE, Int.reduceEq, reduceCtorEq, rdV]
    exact hK _ _ (Thaw.tup_row ⟨.nils, .nils, .int _ _, trivial⟩) (Keep.refl _ _)
  | some p =>
    obtain ⟨n, k⟩ := p
    have h64 := rd_lt64 hr
    have hk := rd_len l 0 hr
    simp only at h64 hk
    have e1 : IntKind.u64.wrap (IntKind.i64.wrap ((l.length : Int) - k)) = ((l.length - k : Nat) : Int) := by
      rw [IntKind.wrap_i64, IntKind.wrap_u64]; omega
    simp only [go_sem, Nat.reduceLT, Nat.reduceEqDiff, Nat.reduceAdd, Nat.reduceMul, Nat.reduceSub, Nat.reduceLeDiff, Int.reduceToNat, Int.reduceNeg, Int.reduceLT, Int.reduceLE, Int.reduceEq, reduceCtorEq, rdV, e1]
    refine IfB_dec (fun hgt => ?_) (fun hle => ?_)
    · simp only [go_sem, Nat.reduceLT, Nat.reduceEqDiff, Nat.reduceAdd, Nat.reduceMul, Nat.reduceSub, Nat.reduceLeDiff, Int.reduceToNat, Int.reduceNeg, Int.reduceLT, Int.reduceLE, Int.reduceEq, reduceCtorEq]
      have hc : cutL l = none := by unfold cutL; rw [hr]; simp only; rw [if_neg (by omega)]
      rw [hc] at hK
      exact hK _ _ (Thaw.tup_row ⟨.nils, .nils, .int _ _, trivial⟩) (Keep.refl _ _)
    · simp only [go_sem, Nat.reduceLT, Nat.reduceEqDiff, Nat.reduceAdd, Nat.reduceMul, Nat.reduceSub, Nat.reduceLeDiff, Int.reduceToNat, Int.reduceNeg, Int.reduceLT, Int.reduceLE, Int.reduceEq, reduceCtorEq]
      refine WX_rows hT hmix [(0, none), (1, none), (2, none), (3, none), (4, none), (5, none), (6, none), (7, none), (8, none), (9, none), (10, none), (11, none), (12, none), (13, none)] (by kernel_rfl) ?_
      have hc : cutL l = some ((l.drop k).take n, l.drop (k + n)) := by unfold cutL; rw [hr]; simp only; rw [if_pos (by omega)]
      rw [hc] at hK
      have s1 := fun J => slice_enc (H := J) (E := Enc.u8) (xs := l) (l := k) (u := l.length) (lo := some (.int .i64 k)) (hi := none) se30 (abound_nat k rfl) rfl (by omega) (by omega)
      have s2 := fun J => slice_enc (H := J) (E := Enc.u8) (xs := (l.take l.length).drop k) (l := 0) (u := n) (lo := none) (hi := some (.int .u64 n)) se30 rfl (abound_nat n rfl) (by omega) (by simp; omega)
      have e2 : IntKind.i64.wrap ((k : Int) + IntKind.i64.wrap n) = ((k + n : Nat) : Int) := by
        rw [IntKind.wrap_i64, IntKind.wrap_i64]; omega
      have s3 := fun J => slice_enc (H := J) (E := Enc.u8) (xs := l) (l := k + n) (u := l.length) (lo := some (.int .i64 ((k + n : Nat) : Int))) (hi := none) se30 (abound_nat (k + n) rfl) rfl (by omega) (by omega)
      rw [List.take_length] at s2
      simp only [List.take_length, List.drop_zero] at s1 s2 s3
      simp only [go_sem, Nat.reduceLT, Nat.reduceEqDiff, Nat.reduceAdd, Nat.reduceMul, Nat.reduceSub, Nat.reduceLeDiff, Int.reduceToNat, Int.reduceNeg, Int.reduceLT, Int.reduceLE, Int.reduceEq, reduceCtorEq, e2, s1, s2, s3]
      exact hK _ _ (Thaw.tup_row ⟨.lst _ _, .lst _ _, .int _ _, trivial⟩) (Keep.refl _ _)
theorem rem128 (m : Nat) : IntKind.u8.wrap (IntKind.u8.wrap ((m : Int).tmod 128) + 128) = (UInt8.ofNat (m % 128 + 128)).toNat := by
  have : (m : Int).tmod 128 = ((m % 128 : Nat) : Int) := by rw [Int.ofNat_tmod]; rfl
  rw [this, IntKind.wrap_u8, IntKind.wrap_u8]; simp
theorem quo128 (m : Nat) : (m : Int).tdiv 128 = ((m / 128 : Nat) : Int) := by rw [Int.ofNat_tdiv]; rfl
theorem refSmall_spec (x : Nat) (hx : x < 2 ^ 64) (H : Heap) : WC Try.prog 21 [.int .u64 x] H fun r H' => Ob H.length H' r (small x) ∧ Keep none H H' := by
  refine WC_of_K fun K hK => ?_
  refine WC_of_body hT Try.func21 rfl (by simp [Try.f21]) (by simp [Try.f21]) (wx_sound hT _ ?_)
  simp only [Try.f21]
  simp only [go_sem, Nat.reduceLT, Nat.reduceEqDiff, Nat.reduceAdd, Nat.reduceMul, Nat.reduceSub, Nat.reduceLeDiff, Int.reduceToNat, Int.reduceNeg, Int.reduceLT, Int.reduceLE, Int.reduceEq, reduceCtorEq]
  refine WX_loop (fun m fr' H' => ∃ (y : Nat) (v : AV) (pre : List UInt8), m = y ∧ fr'.get 0 = .int .u64 y ∧ fr'.get 3 = v ∧ Ob H.length H' v pre ∧ Keep none H H' ∧ y < 2 ^ 64 ∧ pre ++ small y = small x) x ⟨x, .nils, [], rfl, ?_, ?_, Ob.nils _ _, Keep.refl _ _, hx, rfl⟩ ?_
  · simp only [go_sem, Nat.reduceLT, Nat.reduceEqDiff, Nat.reduceAdd, Nat.reduceMul, Nat.reduceSub, Nat.reduceLeDiff, Int.reduceToNat, Int.reduceNeg, Int.reduceLT, Int.reduceLE, Int.reduceEq, reduceCtorEq]
  · simp only [go_sem, Nat.reduceLT, Nat.reduceEqDiff, Nat.reduceAdd, Nat.reduceMul, Nat.reduceSub, Nat.reduceLeDiff, Int.reduceToNat, Int.reduceNeg, Int.reduceLT, Int.reduceLE, Int.reduceEq, reduceCtorEq]
  · rintro m fr' H' ⟨y, v, pre, rfl, h0, h3, hown, hkeep, hy, hpre⟩
    have hlen : pre.length + (small m).length ≤ 10 := by have := small_len10 hx; rw [← hpre, List.length_append] at this; exact this
    have hpos := small_pos m
    refine wx_sound hT _ ?_
    simp only [go_sem, Nat.reduceLT, Nat.reduceEqDiff, Nat.reduceAdd, Nat.reduceMul, Nat.reduceSub, Nat.reduceLeDiff, Int.reduceToNat, Int.reduceNeg, Int.reduceLT, Int.reduceLE, Int.reduceEq, reduceCtorEq, h0]
    refine IfB_dec (fun hgt => ?_) (fun hle => ?_)
    · simp only [go_sem, Nat.reduceLT, Nat.reduceEqDiff, Nat.reduceAdd, Nat.reduceMul, Nat.reduceSub, Nat.reduceLeDiff, Int.reduceToNat, Int.reduceNeg, Int.reduceLT, Int.reduceLE, Int.reduceEq, reduceCtorEq, h0, h3]
      rw [rem128]
      refine append_ob (r := [UInt8.ofNat (m % 128 + 128)]) (hown.keep0 (Keep.snoc none _ _)) se30 az5 td5 rfl ((snoc_bs _ rfl rfl rfl).src tk30) (by simp; omega) (by have := hkeep.len; simp; omega) ?_
      intro v' H'' hown' hkeep' hfresh
      simp only [go_sem, Nat.reduceLT, Nat.reduceEqDiff, Nat.reduceAdd, Nat.reduceMul, Nat.reduceSub, Nat.reduceLeDiff, Int.reduceToNat, Int.reduceNeg, Int.reduceLT, Int.reduceLE, Int.reduceEq, reduceCtorEq, h0, h3, quo128]
      have hs : small m = UInt8.ofNat (m % 128 + 128) :: small (m / 128) := small_big (by omega)
      refine ⟨m / 128, by omega, m / 128, v', pre ++ [UInt8.ofNat (m % 128 + 128)], rfl, ?_, by simp only [go_sem, Nat.reduceLT, Nat.reduceEqDiff, Nat.reduceAdd, Nat.reduceMul, Nat.reduceSub, Nat.reduceLeDiff, Int.reduceToNat, Int.reduceNeg, Int.reduceLT, Int.reduceLE, Int.reduceEq, reduceCtorEq], hown', ?_, by omega, by rw [← hpre, hs]; simp⟩
      · simp only [go_sem, Nat.reduceLT, Nat.reduceEqDiff, Nat.reduceAdd, Nat.reduceMul, Nat.reduceSub, Nat.reduceLeDiff, Int.reduceToNat, Int.reduceNeg, Int.reduceLT, Int.reduceLE, Int.reduceEq, reduceCtorEq]
        rw [len_u64 _ (by omega)]
      exact Own.new hown (hkeep.trans (Keep.snoc none _ _)) hkeep'
    · simp only [go_sem, Nat.reduceLT, Nat.reduceEqDiff, Nat.reduceAdd, Nat.reduceMul, Nat.reduceSub, Nat.reduceLeDiff, Int.reduceToNat, Int.reduceNeg, Int.reduceLT, Int.reduceLE, Int.reduceEq, reduceCtorEq, h0, h3]
      rw [wrap8 m (by omega)]
      refine append_ob (r := [UInt8.ofNat m]) (hown.keep0 (Keep.snoc none _ _)) se30 az5 td5 rfl ((snoc_bs _ rfl rfl rfl).src tk30) (by simp; omega) (by have := hkeep.len; simp; omega) ?_
      intro v' H'' hown' hkeep' hfresh
      simp only [go_sem, Nat.reduceLT, Nat.reduceEqDiff, Nat.reduceAdd, Nat.reduceMul, Nat.reduceSub, Nat.reduceLeDiff, Int.reduceToNat, Int.reduceNeg, Int.reduceLT, Int.reduceLE, Int.reduceEq, reduceCtorEq, h0, h3]
      rw [← small_low (by omega), hpre] at hown'
      exact hK _ _ ⟨hown', Own.new hown (hkeep.trans (Keep.snoc none _ _)) hkeep'⟩
theorem refText_spec (s : List UInt8) (hs : s.length ≤ 140737488355000) (H : Heap) : WC Try.prog 23 [.str s] H fun r H' => Ob H.length H' r (textL s) ∧ Keep none H H' := by
  refine WC_of_K fun K hK => ?_
  refine WC_of_body hT Try.func23 rfl (by simp [Try.f23]) (by simp [Try.f23]) (wx_sound hT _ ?_)
  simp only [Try.f23]
  simp only [go_sem, Nat.reduceLT, Nat.reduceEqDiff, Nat.reduceAdd, Nat.reduceMul, Nat.reduceSub, Nat.reduceLeDiff, Int.reduceToNat, Int.reduceNeg, Int.reduceLT, Int.reduceLE, Int.reduceEq, reduceCtorEq, len_u64 _ (show s.length < 2 ^ 64 by omega)]
  refine (refSmall_spec s.length (by omega) _).mono ?_
  rintro r H1 ⟨ho, k1⟩
  simp only [go_sem, Nat.reduceLT, Nat.reduceEqDiff, Nat.reduceAdd, Nat.reduceMul, Nat.reduceSub, Nat.reduceLeDiff, Int.reduceToNat, Int.reduceNeg, Int.reduceLT, Int.reduceLE, Int.reduceEq, reduceCtorEq]
  have := small_len10 (n := s.length) (by omega)
  refine append_ob ho se30 az5 td5 rfl (str_src s tk9) (by omega) k1.len ?_
  intro v' H2 ho2 k2 hf
  simp only [go_sem, Nat.reduceLT, Nat.reduceEqDiff, Nat.reduceAdd, Nat.reduceMul, Nat.reduceSub, Nat.reduceLeDiff, Int.reduceToNat, Int.reduceNeg, Int.reduceLT, Int.reduceLE, Int.reduceEq, reduceCtorEq]
  exact hK _ _ ⟨ho2, Own.new ho k1 k2⟩
theorem refSmallP (n : Int) (h0 : 0 ≤ n) (h1 : n < 18446744073709551616) (H : Heap) : WC Try.prog 21 [.int .u64 n] H fun r H' => r = Enc.u8.lst (small n.toNat) ∧ H' = H := by
  have := refSmall_spec n.toNat (by omega) H
  rw [show ((n.toNat : Nat) : Int) = n by omega] at this
  exact WC_froze (Q := fun r => r = _) (this.mono fun r H' ⟨h1, h2⟩ => ⟨_, Thaw.ob h1, h2, rfl⟩)
theorem refTextP (s : List UInt8) (hs : s.length ≤ 140737488355000) (H : Heap) : WC Try.prog 23 [.str s] H fun r H' => r = Enc.u8.lst (textL s) ∧ H' = H :=
  WC_froze (Q := fun r => r = _) ((refText_spec s hs H).mono fun r H' ⟨h1, h2⟩ => ⟨_, Thaw.ob h1, h2, rfl⟩)
theorem downStep (n : Nat) (x : UInt8) (hn : n < 2 * 128 ^ 8) : IntKind.u64.wrap (IntKind.u64.wrap ((n : Int) * 128) + IntKind.u64.wrap ((x.toNat : Int).tmod 128)) = ((n * 128 + x.toNat % 128 : Nat) : Int) := by
  have : (x.toNat : Int).tmod 128 = ((x.toNat % 128 : Nat) : Int) := by rw [Int.ofNat_tmod]; rfl
  rw [this, IntKind.wrap_u64, IntKind.wrap_u64, IntKind.wrap_u64]; omega
theorem refReadP (l : List UInt8) (hl : l.length ≤ 140737488355328) (H : Heap) : WC Try.prog 17 [Enc.u8.lst l] H fun r H' => r = rdV (rd 0 l) ∧ H' = H := by
  refine WC_of_K fun K hK => ?_
  refine WC_of_body hT Try.func17 rfl (by simp [Try.f17]) (by simp [Try.f17]) (wx_sound hT _ ?_)
  simp only [Try.f17]
  simp only [go_sem, Nat.reduceLT, Nat.reduceEqDiff, Nat.reduceAdd, Nat.reduceMul, Nat.reduceSub, Nat.reduceLeDiff, Int.reduceToNat, Int.reduceNeg, Int.reduceLT, Int.reduceLE, Int.reduceEq, reduceCtorEq]
  refine WX_loop (fun m fr' H' => ∃ i : Nat, m = l.length - i ∧ i ≤ 10 ∧ i ≤ l.length ∧ fr'.get 0 = Enc.u8.lst l ∧ fr'.get 5 = .int .i64 i ∧ (∀ j (h : j < l.length), j < i → 128 ≤ l[j].toNat) ∧ H' = H) l.length ⟨0, rfl, by omega, by omega, ?_, ?_, by omega, rfl⟩ ?_
  · simp only [go_sem, Nat.reduceLT, Nat.reduceEqDiff, Nat.reduceAdd, Nat.reduceMul, Nat.reduceSub, Nat.reduceLeDiff, Int.reduceToNat, Int.reduceNeg, Int.reduceLT, Int.reduceLE, Int.reduceEq, reduceCtorEq]
  · simp only [go_sem, Nat.reduceLT, Nat.reduceEqDiff, Nat.reduceAdd, Nat.reduceMul, Nat.reduceSub, Nat.reduceLeDiff, Int.reduceToNat, Int.reduceNeg, Int.reduceLT, Int.reduceLE, Int.reduceEq, reduceCtorEq]
    rfl
  · rintro m fr' H' ⟨i, rfl, hi, hil, h0, h5, hall, rfl⟩
    refine wx_sound hT _ ?_
    simp only [go_sem, Nat.reduceLT, Nat.reduceEqDiff, Nat.reduceAdd, Nat.reduceMul, Nat.reduceSub, Nat.reduceLeDiff, Int.reduceToNat, Int.reduceNeg, Int.reduceLT, Int.reduceLE, Int.reduceEq, reduceCtorEq, h0, h5]
    refine Guard_dec (fun g1 => ?_) (fun g1 => ?_)
    · have g1' : i < l.length := by omega
      simp only [go_sem, Nat.reduceLT, Nat.reduceEqDiff, Nat.reduceAdd, Nat.reduceMul, Nat.reduceSub, Nat.reduceLeDiff, Int.reduceToNat, Int.reduceNeg, Int.reduceLT, Int.reduceLE, Int.reduceEq, reduceCtorEq, h0, h5, g1]
      refine Guard_dec (fun g2 => ?_) (fun g2 => ?_)
      · have e1 := at_enc (E := Enc.u8) (T := T) (xs := l) se30 g1' (k := .i64) (z := i) rfl
        simp only [go_sem, Nat.reduceLT, Nat.reduceEqDiff, Nat.reduceAdd, Nat.reduceMul, Nat.reduceSub, Nat.reduceLeDiff, Int.reduceToNat, Int.reduceNeg, Int.reduceLT, Int.reduceLE, Int.reduceEq, reduceCtorEq, h0, h5, g1, g2, e1, u8_cells]
        refine IfB_dec (fun g3 => ?_) (fun g3 => ?_)
        · simp only [go_sem, Nat.reduceLT, Nat.reduceEqDiff, Nat.reduceAdd, Nat.reduceMul, Nat.reduceSub, Nat.reduceLeDiff, Int.reduceToNat, Int.reduceNeg, Int.reduceLT, Int.reduceLE, Int.reduceEq, reduceCtorEq, h0, h5]
          refine ⟨l.length - (i + 1), by omega, i + 1, rfl, by omega, by omega, ?_, ?_, ?_, rfl⟩
          · simp only [go_sem, Nat.reduceLT, Nat.reduceEqDiff, Nat.reduceAdd, Nat.reduceMul, Nat.reduceSub, Nat.reduceLeDiff, Int.reduceToNat, Int.reduceNeg, Int.reduceLT, Int.reduceLE, Int.reduceEq, reduceCtorEq, h0]
          · simp only [go_sem, Nat.reduceLT, Nat.reduceEqDiff, Nat.reduceAdd, Nat.reduceMul, Nat.reduceSub, Nat.reduceLeDiff, Int.reduceToNat, Int.reduceNeg, Int.reduceLT, Int.reduceLE, Int.reduceEq, reduceCtorEq]
            rw [i64_id (i + 1 : Int) (by omega) (by omega)]; rfl
          · intro j hj hji
            by_cases e : j = i
            · subst e; omega
            · exact hall j hj (by omega)
        · have hrd := rd_here g1' (by omega)
          have hz := rd_none i hall (by omega) (by omega)
          simp only [go_sem, Nat.reduceLT, Nat.reduceEqDiff, Nat.reduceAdd, Nat.reduceMul, Nat.reduceSub, Nat.reduceLeDiff, Int.reduceToNat, Int.reduceNeg, Int.reduceLT, Int.reduceLE, Int.reduceEq, reduceCtorEq, h0, h5, show ¬ ((l.length : Int) ≤ i) by omega, show ¬ (10 ≤ (i : Int)) by omega]
          have q1 : ¬ ((l.length : Int) ≤ i) := by omega
          have q2 : ¬ (10 ≤ (i : Int)) := by omega
          refine Guard_dec (fun g4 => ?_) (fun g4 => ?_)
          · have f1 := at_enc (E := Enc.u8) (T := T) (xs := l) se30 (i := 9) (by omega) (k := .i64) (z := 9) rfl
            have hi9 : i = 9 := by omega
            simp only [go_sem, Nat.reduceLT, Nat.reduceEqDiff, Nat.reduceAdd, Nat.reduceMul, Nat.reduceSub, Nat.reduceLeDiff, Int.reduceToNat, Int.reduceNeg, Int.reduceLT, Int.reduceLE, Int.reduceEq, reduceCtorEq, h0, h5, f1, u8_cells, g4, q1, q2]
            refine Guard_ndec (fun g6 => ?_) (fun g6 => ?_)
            · have hno : ¬ (i = 9 ∧ l[i].toNat > 1) := by subst hi9; omega
              have h9 : fr'.get 5 = .int .i64 9 := by rw [h5, g4]
              have f3 : (l[9]'(by omega)) = l[i] := by congr 1; exact hi9.symm
              rw [f3] at f1
              simp only [go_sem, Nat.reduceLT, Nat.reduceEqDiff, Nat.reduceAdd, Nat.reduceMul, Nat.reduceSub, Nat.reduceLeDiff, Int.reduceToNat, Int.reduceNeg, Int.reduceLT, Int.reduceLE, Int.reduceEq, reduceCtorEq, h0, h9, g6, show (0 : Int) < 9 by omega, f1, u8_cells]
              refine IfB_dec (fun g7 => ?_) (fun g7 => ?_)
              · simp only [go_sem, Nat.reduceLT, Nat.reduceEqDiff, Nat.reduceAdd, Nat.reduceMul, Nat.reduceSub, Nat.reduceLeDiff, Int.reduceToNat, Int.reduceNeg, Int.reduceLT, Int.reduceLE, Int.reduceEq, reduceCtorEq]
                refine hK _ _ ⟨?_, rfl⟩
                rw [hz (by rw [hrd, if_neg hno, if_pos ⟨by omega, by omega⟩])]; rfl
              · have hkey : rd i (l.drop i) = some (l[i].toNat, 1) := by rw [hrd, if_neg hno, if_neg (by omega)]
                simp only [go_sem, Nat.reduceLT, Nat.reduceEqDiff, Nat.reduceAdd, Nat.reduceMul, Nat.reduceSub, Nat.reduceLeDiff, Int.reduceToNat, Int.reduceNeg, Int.reduceLT, Int.reduceLE, Int.reduceEq, reduceCtorEq, h0, h5, g6]
                refine WX_loop (fun m fr' H'' => ∃ j n : Nat, m = j ∧ j ≤ i + 1 ∧ fr'.get 0 = Enc.u8.lst l ∧ fr'.get 5 = .int .i64 i ∧ fr'.get 7 = .int .i64 ((j : Int) - 1) ∧ fr'.get 6 = .int .u64 n ∧ ((j = i + 1 ∧ n = 0) ∨ (j ≤ i ∧ rd j (l.drop j) = some (n, i + 1 - j))) ∧ H'' = H') (i + 1) ⟨i + 1, 0, rfl, by omega, ?_, ?_, ?_, ?_, .inl ⟨rfl, rfl⟩, rfl⟩ ?_
                · simp only [go_sem, Nat.reduceLT, Nat.reduceEqDiff, Nat.reduceAdd, Nat.reduceMul, Nat.reduceSub, Nat.reduceLeDiff, Int.reduceToNat, Int.reduceNeg, Int.reduceLT, Int.reduceLE, Int.reduceEq, reduceCtorEq, h0]
                · simp only [go_sem, Nat.reduceLT, Nat.reduceEqDiff, Nat.reduceAdd, Nat.reduceMul, Nat.reduceSub, Nat.reduceLeDiff, Int.reduceToNat, Int.reduceNeg, Int.reduceLT, Int.reduceLE, Int.reduceEq, reduceCtorEq, h5]
                · simp only [go_sem, Nat.reduceLT, Nat.reduceEqDiff, Nat.reduceAdd, Nat.reduceMul, Nat.reduceSub, Nat.reduceLeDiff, Int.reduceToNat, Int.reduceNeg, Int.reduceLT, Int.reduceLE, Int.reduceEq, reduceCtorEq]
                  rw [show ((i + 1 : Nat) : Int) - 1 = i by omega]
                · simp only [go_sem, Nat.reduceLT, Nat.reduceEqDiff, Nat.reduceAdd, Nat.reduceMul, Nat.reduceSub, Nat.reduceLeDiff, Int.reduceToNat, Int.reduceNeg, Int.reduceLT, Int.reduceLE, Int.reduceEq, reduceCtorEq]
                  rfl
                · rintro m fr'' H'' ⟨j, n, rfl, hj, d0, d5, d7, d6, hn, rfl⟩
                  refine wx_sound hT _ ?_
                  simp only [go_sem, Nat.reduceLT, Nat.reduceEqDiff, Nat.reduceAdd, Nat.reduceMul, Nat.reduceSub, Nat.reduceLeDiff, Int.reduceToNat, Int.reduceNeg, Int.reduceLT, Int.reduceLE, Int.reduceEq, reduceCtorEq, d0, d5, d7, d6]
                  refine IfB_dec (fun gj => ?_) (fun gj => ?_)
                  · have y1 := at_enc (E := Enc.u8) (T := T) (xs := l) se30 (i := m - 1) (by omega) (k := .i64) (z := (m : Int) - 1) (by omega)
                    simp only [go_sem, Nat.reduceLT, Nat.reduceEqDiff, Nat.reduceAdd, Nat.reduceMul, Nat.reduceSub, Nat.reduceLeDiff, Int.reduceToNat, Int.reduceNeg, Int.reduceLT, Int.reduceLE, Int.reduceEq, reduceCtorEq, d0, d5, d7, d6, y1, u8_cells]
                    have hn8 : n < 2 * 128 ^ 8 := by
                      rcases hn with ⟨_, rfl⟩ | ⟨h1, h2⟩
                      · omega
                      · have := rd_lt _ m (9 - m) (by omega) h2
                        have h3 : 128 ^ (9 - m) ≤ 128 ^ 8 := Nat.pow_le_pow_right (by omega) (by omega)
                        simp only at this; omega
                    rw [downStep n _ hn8]
                    refine ⟨m - 1, by omega, m - 1, n * 128 + l[m - 1].toNat % 128, rfl, by omega, ?_, ?_, ?_, ?_, .inr ⟨by omega, ?_⟩, rfl⟩
                    · simp only [go_sem, Nat.reduceLT, Nat.reduceEqDiff, Nat.reduceAdd, Nat.reduceMul, Nat.reduceSub, Nat.reduceLeDiff, Int.reduceToNat, Int.reduceNeg, Int.reduceLT, Int.reduceLE, Int.reduceEq, reduceCtorEq, d0]
                    · simp only [go_sem, Nat.reduceLT, Nat.reduceEqDiff, Nat.reduceAdd, Nat.reduceMul, Nat.reduceSub, Nat.reduceLeDiff, Int.reduceToNat, Int.reduceNeg, Int.reduceLT, Int.reduceLE, Int.reduceEq, reduceCtorEq, d5]
                    · simp only [go_sem, Nat.reduceLT, Nat.reduceEqDiff, Nat.reduceAdd, Nat.reduceMul, Nat.reduceSub, Nat.reduceLeDiff, Int.reduceToNat, Int.reduceNeg, Int.reduceLT, Int.reduceLE, Int.reduceEq, reduceCtorEq]
                      rw [i64_id ((m : Int) - 1 - 1) (by omega) (by omega), show ((m - 1 : Nat) : Int) = (m : Int) - 1 by omega]
                    · simp only [go_sem, Nat.reduceLT, Nat.reduceEqDiff, Nat.reduceAdd, Nat.reduceMul, Nat.reduceSub, Nat.reduceLeDiff, Int.reduceToNat, Int.reduceNeg, Int.reduceLT, Int.reduceLE, Int.reduceEq, reduceCtorEq]
                    · rcases hn with ⟨rfl, rfl⟩ | ⟨h1, h2⟩
                      · simp only [Nat.add_sub_cancel]
                        rw [hkey, Nat.mod_eq_of_lt (by omega)]; simp
                      · rw [rd_skip (by omega) (hall _ (by omega) (by omega)) (by omega), show m - 1 + 1 = m by omega, h2]
                        simp only [Option.map_some, Option.some.injEq, Prod.mk.injEq, true_and]
                        omega
                  · obtain rfl : m = 0 := by omega
                    simp only [go_sem, Nat.reduceLT, Nat.reduceEqDiff, Nat.reduceAdd, Nat.reduceMul, Nat.reduceSub, Nat.reduceLeDiff, Int.reduceToNat, Int.reduceNeg, Int.reduceLT, Int.reduceLE, Int.reduceEq, reduceCtorEq, d0, d5, d7, d6]
                    refine hK _ _ ⟨?_, rfl⟩
                    rcases hn with ⟨h1, _⟩ | ⟨h1, h2⟩
                    · omega
                    · rw [List.drop_zero] at h2
                      rw [h2, i64_id ((i : Int) + 1) (by omega) (by omega)]; rfl
            · simp only [go_sem, Nat.reduceLT, Nat.reduceEqDiff, Nat.reduceAdd, Nat.reduceMul, Nat.reduceSub, Nat.reduceLeDiff, Int.reduceToNat, Int.reduceNeg, Int.reduceLT, Int.reduceLE, Int.reduceEq, reduceCtorEq, h0, h5, g6]
              refine hK _ _ ⟨?_, rfl⟩
              rw [hz (by rw [hrd, if_pos ⟨hi9, by subst hi9; omega⟩])]; rfl
          · have hno : ¬ (i = 9 ∧ l[i].toNat > 1) := by omega
            simp only [go_sem, Nat.reduceLT, Nat.reduceEqDiff, Nat.reduceAdd, Nat.reduceMul, Nat.reduceSub, Nat.reduceLeDiff, Int.reduceToNat, Int.reduceNeg, Int.reduceLT, Int.reduceLE, Int.reduceEq, reduceCtorEq, h0, h5, g4, q1, q2]
            refine Guard_dec (fun g6 => ?_) (fun g6 => ?_)
            · simp only [go_sem, Nat.reduceLT, Nat.reduceEqDiff, Nat.reduceAdd, Nat.reduceMul, Nat.reduceSub, Nat.reduceLeDiff, Int.reduceToNat, Int.reduceNeg, Int.reduceLT, Int.reduceLE, Int.reduceEq, reduceCtorEq, h0, h5, g6, e1, u8_cells]
              refine IfB_dec (fun g7 => ?_) (fun g7 => ?_)
              · simp only [go_sem, Nat.reduceLT, Nat.reduceEqDiff, Nat.reduceAdd, Nat.reduceMul, Nat.reduceSub, Nat.reduceLeDiff, Int.reduceToNat, Int.reduceNeg, Int.reduceLT, Int.reduceLE, Int.reduceEq, reduceCtorEq]
                refine hK _ _ ⟨?_, rfl⟩
                rw [hz (by rw [hrd, if_neg hno, if_pos ⟨by omega, by omega⟩])]; rfl
              · have hkey : rd i (l.drop i) = some (l[i].toNat, 1) := by rw [hrd, if_neg hno, if_neg (by omega)]
                simp only [go_sem, Nat.reduceLT, Nat.reduceEqDiff, Nat.reduceAdd, Nat.reduceMul, Nat.reduceSub, Nat.reduceLeDiff, Int.reduceToNat, Int.reduceNeg, Int.reduceLT, Int.reduceLE, Int.reduceEq, reduceCtorEq, h0, h5, g6]
                refine WX_loop (fun m fr' H'' => ∃ j n : Nat, m = j ∧ j ≤ i + 1 ∧ fr'.get 0 = Enc.u8.lst l ∧ fr'.get 5 = .int .i64 i ∧ fr'.get 7 = .int .i64 ((j : Int) - 1) ∧ fr'.get 6 = .int .u64 n ∧ ((j = i + 1 ∧ n = 0) ∨ (j ≤ i ∧ rd j (l.drop j) = some (n, i + 1 - j))) ∧ H'' = H') (i + 1) ⟨i + 1, 0, rfl, by omega, ?_, ?_, ?_, ?_, .inl ⟨rfl, rfl⟩, rfl⟩ ?_
                · simp only [go_sem, Nat.reduceLT, Nat.reduceEqDiff, Nat.reduceAdd, Nat.reduceMul, Nat.reduceSub, Nat.reduceLeDiff, Int.reduceToNat, Int.reduceNeg, Int.reduceLT, Int.reduceLE, Int.reduceEq, reduceCtorEq, h0]
                · simp only [go_sem, Nat.reduceLT, Nat.reduceEqDiff, Nat.reduceAdd, Nat.reduceMul, Nat.reduceSub, Nat.reduceLeDiff, Int.reduceToNat, Int.reduceNeg, Int.reduceLT, Int.reduceLE, Int.reduceEq, reduceCtorEq, h5]
                · simp only [go_sem, Nat.reduceLT, Nat.reduceEqDiff, Nat.reduceAdd, Nat.reduceMul, Nat.reduceSub, Nat.reduceLeDiff, Int.reduceToNat, Int.reduceNeg, Int.reduceLT, Int.reduceLE, Int.reduceEq, reduceCtorEq]
                  rw [show ((i + 1 : Nat) : Int) - 1 = i by omega]
                · simp only [go_sem, Nat.reduceLT, Nat.reduceEqDiff, Nat.reduceAdd, Nat.reduceMul, Nat.reduceSub, Nat.reduceLeDiff, Int.reduceToNat, Int.reduceNeg, Int.reduceLT, Int.reduceLE, Int.reduceEq, reduceCtorEq]
                  rfl
                · rintro m fr'' H'' ⟨j, n, rfl, hj, d0, d5, d7, d6, hn, rfl⟩
                  refine wx_sound hT _ ?_
                  simp only [go_sem, Nat.reduceLT, Nat.reduceEqDiff, Nat.reduceAdd, Nat.reduceMul, Nat.reduceSub, Nat.reduceLeDiff, Int.reduceToNat, Int.reduceNeg, Int.reduceLT, Int.reduceLE, Int.reduceEq, reduceCtorEq, d0, d5, d7, d6]
                  refine IfB_dec (fun gj => ?_) (fun gj => ?_)
                  · have y1 := at_enc (E := Enc.u8) (T := T) (xs := l) se30 (i := m - 1) (by omega) (k := .i64) (z := (m : Int) - 1) (by omega)
                    simp only [go_sem, Nat.reduceLT, Nat.reduceEqDiff, Nat.reduceAdd, Nat.reduceMul, Nat.reduceSub, Nat.reduceLeDiff, Int.reduceToNat, Int.reduceNeg, Int.reduceLT, Int.reduceLE, Int.reduceEq, reduceCtorEq, d0, d5, d7, d6, y1, u8_cells]
                    have hn8 : n < 2 * 128 ^ 8 := by
                      rcases hn with ⟨_, rfl⟩ | ⟨h1, h2⟩
                      · omega
                      · have := rd_lt _ m (9 - m) (by omega) h2
                        have h3 : 128 ^ (9 - m) ≤ 128 ^ 8 := Nat.pow_le_pow_right (by omega) (by omega)
                        simp only at this; omega
                    rw [downStep n _ hn8]
                    refine ⟨m - 1, by omega, m - 1, n * 128 + l[m - 1].toNat % 128, rfl, by omega, ?_, ?_, ?_, ?_, .inr ⟨by omega, ?_⟩, rfl⟩
                    · simp only [go_sem, Nat.reduceLT, Nat.reduceEqDiff, Nat.reduceAdd, Nat.reduceMul, Nat.reduceSub, Nat.reduceLeDiff, Int.reduceToNat, Int.reduceNeg, Int.reduceLT, Int.reduceLE, Int.reduceEq, reduceCtorEq, d0]
                    · simp only [go_sem, Nat.reduceLT, Nat.reduceEqDiff, Nat.reduceAdd, Nat.reduceMul, Nat.reduceSub, Nat.reduceLeDiff, Int.reduceToNat, Int.reduceNeg, Int.reduceLT, Int.reduceLE, Int.reduceEq, reduceCtorEq, d5]
                    · simp only [go_sem, Nat.reduceLT, Nat.reduceEqDiff, Nat.reduceAdd, Nat.reduceMul, Nat.reduceSub, Nat.reduceLeDiff, Int.reduceToNat, Int.reduceNeg, Int.reduceLT, Int.reduceLE, Int.reduceEq, reduceCtorEq]
                      rw [i64_id ((m : Int) - 1 - 1) (by omega) (by omega), show ((m - 1 : Nat) : Int) = (m : Int) - 1 by omega]
                    · simp only [go_sem, Nat.reduceLT, Nat.reduceEqDiff, Nat.reduceAdd, Nat.reduceMul, Nat.reduceSub, Nat.reduceLeDiff, Int.reduceToNat, Int.reduceNeg, Int.reduceLT, Int.reduceLE, Int.reduceEq, reduceCtorEq]
                    · rcases hn with ⟨rfl, rfl⟩ | ⟨h1, h2⟩
                      · simp only [Nat.add_sub_cancel]
                        rw [hkey, Nat.mod_eq_of_lt (by omega)]; simp
                      · rw [rd_skip (by omega) (hall _ (by omega) (by omega)) (by omega), show m - 1 + 1 = m by omega, h2]
                        simp only [Option.map_some, Option.some.injEq, Prod.mk.injEq, true_and]
                        omega
                  · obtain rfl : m = 0 := by omega
                    simp only [go_sem, Nat.reduceLT, Nat.reduceEqDiff, Nat.reduceAdd, Nat.reduceMul, Nat.reduceSub, Nat.reduceLeDiff, Int.reduceToNat, Int.reduceNeg, Int.reduceLT, Int.reduceLE, Int.reduceEq, reduceCtorEq, d0, d5, d7, d6]
                    refine hK _ _ ⟨?_, rfl⟩
                    rcases hn with ⟨h1, _⟩ | ⟨h1, h2⟩
                    · omega
                    · rw [List.drop_zero] at h2
                      rw [h2, i64_id ((i : Int) + 1) (by omega) (by omega)]; rfl
            · have hkey : rd i (l.drop i) = some (l[i].toNat, 1) := by rw [hrd, if_neg hno, if_neg (by omega)]
              simp only [go_sem, Nat.reduceLT, Nat.reduceEqDiff, Nat.reduceAdd, Nat.reduceMul, Nat.reduceSub, Nat.reduceLeDiff, Int.reduceToNat, Int.reduceNeg, Int.reduceLT, Int.reduceLE, Int.reduceEq, reduceCtorEq, h0, h5, g6]
              refine WX_loop (fun m fr' H'' => ∃ j n : Nat, m = j ∧ j ≤ i + 1 ∧ fr'.get 0 = Enc.u8.lst l ∧ fr'.get 5 = .int .i64 i ∧ fr'.get 7 = .int .i64 ((j : Int) - 1) ∧ fr'.get 6 = .int .u64 n ∧ ((j = i + 1 ∧ n = 0) ∨ (j ≤ i ∧ rd j (l.drop j) = some (n, i + 1 - j))) ∧ H'' = H') (i + 1) ⟨i + 1, 0, rfl, by omega, ?_, ?_, ?_, ?_, .inl ⟨rfl, rfl⟩, rfl⟩ ?_
              · simp only [go_sem, Nat.reduceLT, Nat.reduceEqDiff, Nat.reduceAdd, Nat.reduceMul, Nat.reduceSub, Nat.reduceLeDiff, Int.reduceToNat, Int.reduceNeg, Int.reduceLT, Int.reduceLE, Int.reduceEq, reduceCtorEq, h0]
              · simp only [go_sem, Nat.reduceLT, Nat.reduceEqDiff, Nat.reduceAdd, Nat.reduceMul, Nat.reduceSub, Nat.reduceLeDiff, Int.reduceToNat, Int.reduceNeg, Int.reduceLT, Int.reduceLE, Int.reduceEq, reduceCtorEq, h5]
              · simp only [go_sem, Nat.reduceLT, Nat.reduceEqDiff, Nat.reduceAdd, Nat.reduceMul, Nat.reduceSub, Nat.reduceLeDiff, Int.reduceToNat, Int.reduceNeg, Int.reduceLT, Int.reduceLE, Int.reduceEq, reduceCtorEq]
                rw [show ((i + 1 : Nat) : Int) - 1 = i by omega]
              · simp only [go_sem, Nat.reduceLT, Nat.reduceEqDiff, Nat.reduceAdd, Nat.reduceMul, Nat.reduceSub, Nat.reduceLeDiff, Int.reduceToNat, Int.reduceNeg, Int.reduceLT, Int.reduceLE, Int.reduceEq, reduceCtorEq]
                rfl
              · rintro m fr'' H'' ⟨j, n, rfl, hj, d0, d5, d7, d6, hn, rfl⟩
                refine wx_sound hT _ ?_
                simp only [go_sem, Nat.reduceLT, Nat.reduceEqDiff, Nat.reduceAdd, Nat.reduceMul, Nat.reduceSub, Nat.reduceLeDiff, Int.reduceToNat, Int.reduceNeg, Int.reduceLT, Int.reduceLE, Int.reduceEq, reduceCtorEq, d0, d5, d7, d6]
                refine IfB_dec (fun gj => ?_) (fun gj => ?_)
                · have y1 := at_enc (E := Enc.u8) (T := T) (xs := l) se30 (i := m - 1) (by omega) (k := .i64) (z := (m : Int) - 1) (by omega)
                  simp only [go_sem, Nat.reduceLT, Nat.reduceEqDiff, Nat.reduceAdd, Nat.reduceMul, Nat.reduceSub, Nat.reduceLeDiff, Int.reduceToNat, Int.reduceNeg, Int.reduceLT, Int.reduceLE, Int.reduceEq, reduceCtorEq, d0, d5, d7, d6, y1, u8_cells]
                  have hn8 : n < 2 * 128 ^ 8 := by
                    rcases hn with ⟨_, rfl⟩ | ⟨h1, h2⟩
                    · omega
                    · have := rd_lt _ m (9 - m) (by omega) h2
                      have h3 : 128 ^ (9 - m) ≤ 128 ^ 8 := Nat.pow_le_pow_right (by omega) (by omega)
                      simp only at this; omega
                  rw [downStep n _ hn8]
                  refine ⟨m - 1, by omega, m - 1, n * 128 + l[m - 1].toNat % 128, rfl, by omega, ?_, ?_, ?_, ?_, .inr ⟨by omega, ?_⟩, rfl⟩
                  · simp only [go_sem, Nat.reduceLT, Nat.reduceEqDiff, Nat.reduceAdd, Nat.reduceMul, Nat.reduceSub, Nat.reduceLeDiff, Int.reduceToNat, Int.reduceNeg, Int.reduceLT, Int.reduceLE, Int.reduceEq, reduceCtorEq, d0]
                  · simp only [go_sem, Nat.reduceLT, Nat.reduceEqDiff, Nat.reduceAdd, Nat.reduceMul, Nat.reduceSub, Nat.reduceLeDiff, Int.reduceToNat, Int.reduceNeg, Int.reduceLT, Int.reduceLE, Int.reduceEq, reduceCtorEq, d5]
                  · simp only [go_sem, Nat.reduceLT, Nat.reduceEqDiff, Nat.reduceAdd, Nat.reduceMul, Nat.reduceSub, Nat.reduceLeDiff, Int.reduceToNat, Int.reduceNeg, Int.reduceLT, Int.reduceLE, Int.reduceEq, reduceCtorEq]
                    rw [i64_id ((m : Int) - 1 - 1) (by omega) (by omega), show ((m - 1 : Nat) : Int) = (m : Int) - 1 by omega]
                  · simp only [go_sem, Nat.reduceLT, Nat.reduceEqDiff, Nat.reduceAdd, Nat.reduceMul, Nat.reduceSub, Nat.reduceLeDiff, Int.reduceToNat, Int.reduceNeg, Int.reduceLT, Int.reduceLE, Int.reduceEq, reduceCtorEq]
                  · rcases hn with ⟨rfl, rfl⟩ | ⟨h1, h2⟩
                    · simp only [Nat.add_sub_cancel]
                      rw [hkey, Nat.mod_eq_of_lt (by omega)]; simp
                    · rw [rd_skip (by omega) (hall _ (by omega) (by omega)) (by omega), show m - 1 + 1 = m by omega, h2]
                      simp only [Option.map_some, Option.some.injEq, Prod.mk.injEq, true_and]
                      omega
                · obtain rfl : m = 0 := by omega
                  simp only [go_sem, Nat.reduceLT, Nat.reduceEqDiff, Nat.reduceAdd, Nat.reduceMul, Nat.reduceSub, Nat.reduceLeDiff, Int.reduceToNat, Int.reduceNeg, Int.reduceLT, Int.reduceLE, Int.reduceEq, reduceCtorEq, d0, d5, d7, d6]
                  refine hK _ _ ⟨?_, rfl⟩
                  rcases hn with ⟨h1, _⟩ | ⟨h1, h2⟩
                  · omega
                  · rw [List.drop_zero] at h2
                    rw [h2, i64_id ((i : Int) + 1) (by omega) (by omega)]; rfl
      · simp only [go_sem, Nat.reduceLT, Nat.reduceEqDiff, Nat.reduceAdd, Nat.reduceMul, Nat.reduceSub, Nat.reduceLeDiff, Int.reduceToNat, Int.reduceNeg, Int.reduceLT, Int.reduceLE, Int.reduceEq, reduceCtorEq, h0, h5, g1, g2, show ¬ ((l.length : Int) ≤ i) by omega, show 10 ≤ (i : Int) by omega]
        refine hK _ _ ⟨?_, rfl⟩
        have hi : i = 10 := by omega
        subst hi
        rw [rd_none 9 (fun j hj hk => hall j hj (by omega)) (by omega) (by omega) (rd_nine (by omega) (by have := hall 9 (by omega) (by omega); omega))]
        rfl
    · simp only [go_sem, Nat.reduceLT, Nat.reduceEqDiff, Nat.reduceAdd, Nat.reduceMul, Nat.reduceSub, Nat.reduceLeDiff, Int.reduceToNat, Int.reduceNeg, Int.reduceLT, Int.reduceLE, Int.reduceEq, reduceCtorEq, h0, h5, g1, show (l.length : Int) ≤ i by omega]
      refine hK _ _ ⟨?_, rfl⟩
      by_cases hi : i = 10
      · subst hi
        rw [rd_none 9 (fun j hj hk => hall j hj (by omega)) (by omega) (by omega) (rd_nine (by omega) (by have := hall 9 (by omega) (by omega); omega))]
        rfl
      · rw [rd_none i hall hil (by omega) (by rw [List.drop_eq_nil_of_le (by omega)]; rfl)]
        rfl
open Go Go.Proofs Go.Proofs.PI
/-! ### plain: readers, commands and changes as bytes -/
theorem mem_short {l : List (List UInt8)} {n : Nat} (h : (l.map List.length).sum ≤ n) : ∀ x ∈ l, x.length ≤ n := by
  induction l with
  | nil => simp
  | cons a l ih =>
    simp only [List.map_cons, List.sum_cons] at h
    intro x hx
    rcases List.mem_cons.1 hx with rfl | hx
    · omega
    · exact ih (by omega) x hx
structure RS where
  l : List UInt8
  bad : Bool
/-- The code's own reader: what is read is gone, though it was too great. -/
def wideS (s : RS) : Nat × RS := match rd 0 s.l with
  | some p => (p.1, ⟨s.l.drop p.2, s.bad⟩)
  | none => (0, ⟨s.l, true⟩)
def numS (m : Nat) (s : RS) : Nat × RS := if (wideS s).1 > m then (0, ⟨(wideS s).2.l, true⟩) else wideS s
/-- The document's reader. -/
def numR (m : Nat) (s : RS) : Nat × RS := match rd 0 s.l with
  | some p => if p.1 > m then (0, ⟨s.l, true⟩) else (p.1, ⟨s.l.drop p.2, s.bad⟩)
  | none => (0, ⟨s.l, true⟩)
def textS (s : RS) : List UInt8 × RS := match cutL s.l with
  | some p => (p.1, ⟨p.2, s.bad⟩)
  | none => ([], ⟨s.l, true⟩)
def byteS (s : RS) : UInt8 × RS := match s.l with
  | [] => (0, ⟨[], true⟩)
  | x :: l => (x, ⟨l, s.bad⟩)
theorem wideS_enc {n : Nat} (h : n < 2 ^ 64) (r : List UInt8) (b : Bool) : wideS ⟨small n ++ r, b⟩ = (n, ⟨r, b⟩) := by
  unfold wideS; simp only [rd_small0 h r]; rw [List.drop_left]
theorem numS_enc {m n : Nat} (h : n < 2 ^ 64) (hm : n ≤ m) (r : List UInt8) (b : Bool) : numS m ⟨small n ++ r, b⟩ = (n, ⟨r, b⟩) := by
  unfold numS; rw [wideS_enc h]; simp only; rw [if_neg (by omega)]
theorem numR_enc {m n : Nat} (h : n < 2 ^ 64) (hm : n ≤ m) (r : List UInt8) (b : Bool) : numR m ⟨small n ++ r, b⟩ = (n, ⟨r, b⟩) := by
  unfold numR; simp only [rd_small0 h r]; rw [if_neg (by omega), List.drop_left]
theorem textS_enc {t : List UInt8} (h : t.length < 2 ^ 64) (r : List UInt8) (b : Bool) : textS ⟨textL t ++ r, b⟩ = (t, ⟨r, b⟩) := by
  unfold textS; simp only [cutL_text h]
theorem byteS_enc (x : UInt8) (r : List UInt8) (b : Bool) : byteS ⟨x :: r, b⟩ = (x, ⟨r, b⟩) := rfl
theorem wideS_lt (s : RS) : (wideS s).1 < 2 ^ 64 := by
  unfold wideS
  cases h : rd 0 s.l with
  | none => simp
  | some p => exact rd_lt64 h
theorem numS_le (m : Nat) (s : RS) : (numS m s).1 ≤ m := by
  unfold numS; split
  · simp
  · omega
theorem numR_le (m : Nat) (s : RS) : (numR m s).1 ≤ m := by
  unfold numR
  split
  · split
    · simp
    · simp only; omega
  · simp
theorem wideS_len (s : RS) : (wideS s).2.l.length ≤ s.l.length := by
  unfold wideS
  split
  · simp
  · simp
theorem numS_len (m : Nat) (s : RS) : (numS m s).2.l.length ≤ s.l.length := by
  unfold numS; split
  · exact wideS_len s
  · exact wideS_len s
theorem numR_len (m : Nat) (s : RS) : (numR m s).2.l.length ≤ s.l.length := by
  unfold numR
  split
  · split
    · simp
    · simp
  · simp
theorem textS_len (s : RS) : (textS s).1.length ≤ s.l.length ∧ (textS s).2.l.length ≤ s.l.length := by
  unfold textS
  cases h : cutL s.l with
  | none => simp
  | some p =>
    have := cutL_some (s := p.1) (r := p.2) h
    have h2 := congrArg List.length this
    rw [List.length_append, textL, List.length_append] at h2
    simp only; omega
theorem byteS_len (s : RS) : (byteS s).2.l.length ≤ s.l.length := by
  unfold byteS
  split
  · simp
  · rename_i h; rw [h]; simp
def numsL (l : List Int) : List UInt8 := l.flatMap fun x => small (IntKind.u64.wrap x).toNat
def textsL (l : List (List UInt8)) : List UInt8 := l.flatMap textL
theorem numsL_snoc (l : List Int) (i : Nat) (h : i < l.length) : numsL (l.take (i + 1)) = numsL (l.take i) ++ small (IntKind.u64.wrap l[i]).toNat := by
  rw [numsL, List.take_succ_eq_append_getElem h, List.flatMap_append]; simp [numsL]
theorem textsL_snoc (l : List (List UInt8)) (i : Nat) (h : i < l.length) : textsL (l.take (i + 1)) = textsL (l.take i) ++ textL l[i] := by
  rw [textsL, List.take_succ_eq_append_getElem h, List.flatMap_append]; simp [textsL]
theorem u64w_lt (x : Int) : (IntKind.u64.wrap x).toNat < 2 ^ 64 := by rw [IntKind.wrap_u64]; omega
theorem u64w_cast (x : Int) : (((IntKind.u64.wrap x).toNat : Nat) : Int) = IntKind.u64.wrap x := by rw [IntKind.wrap_u64]; omega
theorem u64w_id {x : Int} (h0 : 0 ≤ x) (h1 : x < 18446744073709551616) : IntKind.u64.wrap x = x := by rw [IntKind.wrap_u64]; omega
theorem numsL_len (l : List Int) : (numsL l).length ≤ 10 * l.length := by
  induction l with
  | nil => simp [numsL]
  | cons x l ih =>
    have := small_len10 (u64w_lt x)
    have e : numsL (x :: l) = small (IntKind.u64.wrap x).toNat ++ numsL l := rfl
    rw [e, List.length_append, List.length_cons]; omega
theorem textL_len {s : List UInt8} (h : s.length < 2 ^ 64) : (textL s).length ≤ s.length + 10 := by
  have := small_len10 h
  rw [textL, List.length_append]; omega
theorem textsL_len {l : List (List UInt8)} {m : Nat} (h : ∀ x ∈ l, x.length ≤ m) (hm : m < 2 ^ 64) : (textsL l).length ≤ (m + 10) * l.length := by
  induction l with
  | nil => simp [textsL]
  | cons x l ih =>
    have h1 := textL_len (s := x) (by have := h x (.head _); omega)
    have h2 := ih fun y hy => h y (.tail _ hy)
    have h3 := h x (.head _)
    have e : textsL (x :: l) = textL x ++ textsL l := rfl
    rw [e, List.length_append, List.length_cons, Nat.mul_add]; omega
/-! #### changes -/
structure Chg where
  kind : Int
  ten : Int
  ikey : List UInt8
  ival : List UInt8
  ifl : Int
  idue : Int
  iuniq : Int
  key : List UInt8
  why : Int
  to : Int
  prim : Bool
def Chg.cs (c : Chg) : List AV := [.int .u8 c.kind, .int .i64 c.ten, .str c.ikey, .str c.ival, .int .u32 c.ifl, .int .i64 c.idue, .int .u64 c.iuniq, .str c.key, .int .u8 c.why, .int .i64 c.to, .bool c.prim]
def Chg.av (c : Chg) : AV := .agg [.int .u8 c.kind, .int .i64 c.ten, .str c.ikey, .str c.ival, .int .u32 c.ifl, .int .i64 c.idue, .int .u64 c.iuniq, .str c.key, .int .u8 c.why, .int .i64 c.to, .bool c.prim]
def chgE : Enc Chg := ⟨11, Chg.cs, fun _ => rfl, fun x a ha => by
  simp only [Chg.cs, List.mem_cons, List.not_mem_nil, or_false] at ha; rcases ha with rfl | rfl | rfl | rfl | rfl | rfl | rfl | rfl | rfl | rfl | rfl <;> rfl⟩
theorem chgE_cells (c : Chg) : chgE.cells c = [.int .u8 c.kind, .int .i64 c.ten, .str c.ikey, .str c.ival, .int .u32 c.ifl, .int .i64 c.idue, .int .u64 c.iuniq, .str c.key, .int .u8 c.why, .int .i64 c.to, .bool c.prim] := rfl
structure Chg.Ok (c : Chg) : Prop where
  kind : 0 ≤ c.kind ∧ c.kind < 256
  ifl : 0 ≤ c.ifl ∧ c.ifl < 4294967296
  iuniq : 0 ≤ c.iuniq ∧ c.iuniq < 18446744073709551616
  why : 0 ≤ c.why ∧ c.why < 256
def chg0 (k : Int) : Chg := ⟨k, 0, [], [], 0, 0, 0, [], 0, 0, false⟩
def Chg.bare (c : Chg) : Chg :=
  if c.kind = 1 then ⟨c.kind, c.ten, c.ikey, c.ival, c.ifl, c.idue, c.iuniq, [], 0, 0, false⟩
  else if c.kind = 2 then ⟨c.kind, c.ten, [], [], 0, 0, 0, c.key, c.why, 0, false⟩
  else if c.kind = 3 then ⟨c.kind, c.ten, [], [], 0, 0, 0, [], 0, 0, false⟩
  else if c.kind = 4 then ⟨c.kind, 0, [], [], 0, 0, 0, [], 0, c.to, false⟩
  else if c.kind = 5 then ⟨c.kind, c.ten, [], [], 0, 0, 0, [], 0, c.to, false⟩
  else if c.kind = 6 then ⟨c.kind, 0, [], [], 0, 0, 0, [], 0, c.to, c.prim⟩
  else if c.kind = 7 then ⟨c.kind, 0, [], [], 0, 0, 0, [], 0, c.to, false⟩ else chg0 c.kind
def Chg.goodP (c : Chg) : Prop :=
  if c.kind = 1 then (1 ≤ c.ikey.length ∧ c.ikey.length ≤ 32) ∧ c.ival.length ≤ 512 ∧ 0 ≤ c.idue ∧ c.idue ≤ 1099511627776
  else if c.kind = 2 then (1 ≤ c.key.length ∧ c.key.length ≤ 32) ∧ (c.why = 1 ∨ c.why = 2)
  else if c.kind = 3 then True
  else if c.kind = 4 then 0 ≤ c.to ∧ c.to ≤ 1099511627776
  else if c.kind = 5 then 0 ≤ c.to ∧ c.to ≤ 16
  else if c.kind = 6 then 0 ≤ c.to ∧ c.to ≤ 2147483647
  else if c.kind = 7 then 0 ≤ c.to ∧ c.to ≤ 2147483647 else False
open Classical in
noncomputable def Chg.mayB (c : Chg) : Bool := decide (c.goodP ∧ (0 ≤ c.ten ∧ c.ten < 4) ∧ c.bare = c)
def Chg.putL (c : Chg) : List UInt8 := UInt8.ofNat c.kind.toNat ::
  (if c.kind = 1 then small c.ten.toNat ++ (textL c.ikey ++ (textL c.ival ++ (small c.ifl.toNat ++ (small c.idue.toNat ++ small c.iuniq.toNat))))
  else if c.kind = 2 then small c.ten.toNat ++ (textL c.key ++ [UInt8.ofNat c.why.toNat])
  else if c.kind = 3 then small c.ten.toNat
  else if c.kind = 4 then small c.to.toNat
  else if c.kind = 5 then small c.ten.toNat ++ small c.to.toNat
  else if c.kind = 6 then small c.to.toNat ++ [if c.prim then 1 else 0]
  else if c.kind = 7 then small c.to.toNat else [])
noncomputable def changesL (l : List Chg) : List UInt8 × Int :=
  if l.length > 4096 then ([], 4) else if l.all Chg.mayB = false then ([], 8)
  else if (small l.length ++ l.flatMap Chg.putL).length > 65536 then ([], 3) else (small l.length ++ l.flatMap Chg.putL, 0)
/-- One change is read, by readers of numbers. -/
def rd1 (num : Nat → RS → Nat × RS) (wide : RS → Nat × RS) (kd : Int) (s : RS) : Chg × RS :=
  let t := num 4 s; let a := textS t.2; let b := textS a.2; let f := num 4294967295 b.2; let d := num 1099511627776 f.2; let u := wide d.2
  (⟨kd, t.1, a.1, b.1, f.1, d.1, u.1, [], 0, 0, false⟩, u.2)
def rd2 (num : Nat → RS → Nat × RS) (kd : Int) (s : RS) : Chg × RS :=
  let t := num 4 s; let a := textS t.2; let w := byteS a.2
  (⟨kd, t.1, [], [], 0, 0, 0, a.1, w.1.toNat, 0, false⟩, w.2)
def rd3 (num : Nat → RS → Nat × RS) (kd : Int) (s : RS) : Chg × RS := (⟨kd, (num 4 s).1, [], [], 0, 0, 0, [], 0, 0, false⟩, (num 4 s).2)
def rdTo (num : Nat → RS → Nat × RS) (m : Nat) (kd : Int) (s : RS) : Chg × RS := (⟨kd, 0, [], [], 0, 0, 0, [], 0, (num m s).1, false⟩, (num m s).2)
def rd5 (num : Nat → RS → Nat × RS) (m : Nat) (kd : Int) (s : RS) : Chg × RS := (⟨kd, (num 4 s).1, [], [], 0, 0, 0, [], 0, (num m (num 4 s).2).1, false⟩, (num m (num 4 s).2).2)
def rd6 (num : Nat → RS → Nat × RS) (m : Nat) (kd : Int) (s : RS) : Chg × RS := (⟨kd, 0, [], [], 0, 0, 0, [], 0, (num m s).1, decide ((byteS (num m s).2).1.toNat = 1)⟩, (byteS (num m s).2).2)
def changeG (num : Nat → RS → Nat × RS) (wide : RS → Nat × RS) (mq me : Nat) (fin : RS → RS) (s : RS) : Chg × RS :=
  if (byteS s).1.toNat = 1 then rd1 num wide 1 (byteS s).2
  else if (byteS s).1.toNat = 2 then rd2 num 2 (byteS s).2
  else if (byteS s).1.toNat = 3 then rd3 num 3 (byteS s).2
  else if (byteS s).1.toNat = 4 then rdTo num 1099511627776 4 (byteS s).2
  else if (byteS s).1.toNat = 5 then rd5 num mq 5 (byteS s).2
  else if (byteS s).1.toNat = 6 then rd6 num me 6 (byteS s).2
  else if (byteS s).1.toNat = 7 then rdTo num me 7 (byteS s).2
  else (chg0 (byteS s).1.toNat, fin (byteS s).2)
/-- The code's own way, the document's way. -/
def changeS : RS → Chg × RS := changeG numS wideS 1099511627776 1099511627776 id
def changeR : RS → Chg × RS := changeG numR (numR 18446744073709551615) 16 2147483647 fun s => ⟨s.l, true⟩
def readsGo (f : RS → Chg × RS) : Nat → RS → List Chg → List Chg × RS
  | 0, s, acc => (acc, s)
  | n + 1, s, acc => if (f s).2.bad = true then (acc ++ [(f s).1], (f s).2) else readsGo f n (f s).2 (acc ++ [(f s).1])
theorem may_facts {c : Chg} (ho : c.Ok) (h : c.mayB = true) : (1 ≤ c.kind ∧ c.kind ≤ 7) ∧ (0 ≤ c.ten ∧ c.ten < 4) ∧ c.bare = c ∧ c.goodP := by
  simp only [Chg.mayB, decide_eq_true_eq] at h
  obtain ⟨h1, h2, h3⟩ := h
  refine ⟨?_, h2, h3, h1⟩
  unfold Chg.goodP at h1
  have := ho.kind
  refine ⟨?_, ?_⟩ <;> (repeat' split at h1) <;> first | exact h1.elim | omega
theorem kbyte {k : Int} (h : 0 ≤ k ∧ k < 256) : ((UInt8.ofNat k.toNat).toNat : Int) = k := by
  rw [UInt8.toNat_ofNat']; omega
theorem kbyte_i (b : UInt8) : UInt8.ofNat ((b.toNat : Int)).toNat = b := by simp
theorem pbyte (b : Bool) : decide ((if b = true then (1 : UInt8) else 0).toNat = 1) = b := by cases b <;> rfl
structure NumOk (num : Nat → RS → Nat × RS) (wide : RS → Nat × RS) : Prop where
  enc : ∀ m n r b, n < 2 ^ 64 → n ≤ m → num m ⟨small n ++ r, b⟩ = (n, ⟨r, b⟩)
  wenc : ∀ n r b, n < 2 ^ 64 → wide ⟨small n ++ r, b⟩ = (n, ⟨r, b⟩)
  le : ∀ m s, (num m s).1 ≤ m
  wlt : ∀ s, (wide s).1 < 2 ^ 64
theorem numS_ok : NumOk numS wideS := ⟨fun m n r b h h' => numS_enc h h' r b, fun n r b h => wideS_enc h r b, numS_le, wideS_lt⟩
theorem numR_ok : NumOk numR (numR 18446744073709551615) := ⟨fun m n r b h h' => numR_enc h h' r b, fun n r b h => numR_enc h (by omega) r b, numR_le, fun s => by have := numR_le 18446744073709551615 s; omega⟩
theorem changeG_enc {num : Nat → RS → Nat × RS} {wide : RS → Nat × RS} (hn : NumOk num wide) {mq me : Nat} (hmq : 16 ≤ mq) (hme : 2147483647 ≤ me) {fin : RS → RS} {c : Chg} (ho : c.Ok) (h : c.mayB = true) (r : List UInt8) (b : Bool) : changeG num wide mq me fin ⟨c.putL ++ r, b⟩ = (c, ⟨r, b⟩) := by
  obtain ⟨h1, h2, h3, h4⟩ := may_facts ho h
  have hk := kbyte ho.kind
  have hf := ho.ifl
  have hu := ho.iuniq
  have hw := kbyte ho.why
  unfold changeG Chg.putL
  rw [List.cons_append, byteS_enc]
  unfold Chg.bare at h3
  unfold Chg.goodP at h4
  have cases7 : c.kind = 1 ∨ c.kind = 2 ∨ c.kind = 3 ∨ c.kind = 4 ∨ c.kind = 5 ∨ c.kind = 6 ∨ c.kind = 7 := by omega
  obtain ⟨kind, ten, ikey, ival, ifl, idue, iuniq, key, why, to, prim⟩ := c
  simp only at *
  have e1 : (UInt8.ofNat (Int.toNat 1)).toNat = 1 := rfl
  have e2 : (UInt8.ofNat (Int.toNat 2)).toNat = 2 := rfl
  have e3 : (UInt8.ofNat (Int.toNat 3)).toNat = 3 := rfl
  have e4 : (UInt8.ofNat (Int.toNat 4)).toNat = 4 := rfl
  have e5 : (UInt8.ofNat (Int.toNat 5)).toNat = 5 := rfl
  have e6 : (UInt8.ofNat (Int.toNat 6)).toNat = 6 := rfl
  have e7 : (UInt8.ofNat (Int.toNat 7)).toNat = 7 := rfl
  rcases cases7 with rfl | rfl | rfl | rfl | rfl | rfl | rfl
  all_goals simp only [e1, e2, e3, e4, e5, e6, e7, Int.reduceEq, Nat.reduceEqDiff, if_true, if_false, Chg.mk.injEq, true_and, and_true] at h3 h4 ⊢
  · obtain ⟨rfl, rfl, rfl, rfl⟩ := h3
    simp only [rd1, List.append_assoc]
    rw [hn.enc _ _ _ _ (by omega) (by omega), textS_enc (by omega), textS_enc (by omega), hn.enc _ _ _ _ (by omega) (by omega), hn.enc _ _ _ _ (by omega) (by omega), ← List.append_nil (small (Int.toNat iuniq)), List.append_assoc, List.nil_append, hn.wenc _ _ _ (by omega)]
    simp only [Prod.mk.injEq, Chg.mk.injEq, true_and, and_true]
    omega
  · obtain ⟨rfl, rfl, rfl, rfl, rfl, rfl, rfl⟩ := h3
    simp only [rd2, List.append_assoc, List.cons_append, List.nil_append]
    rw [hn.enc _ _ _ _ (by omega) (by omega), textS_enc (by omega), byteS_enc]
    simp only [Prod.mk.injEq, Chg.mk.injEq, true_and, and_true]
    omega
  · obtain ⟨rfl, rfl, rfl, rfl, rfl, rfl, rfl, rfl, rfl⟩ := h3
    rw [rd3, hn.enc _ _ _ _ (by omega) (by omega)]
    simp only [Prod.mk.injEq, Chg.mk.injEq, true_and, and_true]
    omega
  · obtain ⟨rfl, rfl, rfl, rfl, rfl, rfl, rfl, rfl, rfl⟩ := h3
    rw [rdTo, hn.enc _ _ _ _ (by omega) (by omega)]
    simp only [Prod.mk.injEq, Chg.mk.injEq, true_and, and_true]
    omega
  · obtain ⟨rfl, rfl, rfl, rfl, rfl, rfl, rfl, rfl⟩ := h3
    simp only [rd5, List.append_assoc]
    rw [hn.enc _ _ _ _ (by omega) (by omega), hn.enc _ _ _ _ (by omega) (by omega)]
    simp only [Prod.mk.injEq, Chg.mk.injEq, true_and, and_true]
    omega
  · obtain ⟨rfl, rfl, rfl, rfl, rfl, rfl, rfl, rfl⟩ := h3
    simp only [rd6, List.append_assoc, List.cons_append, List.nil_append]
    rw [hn.enc _ _ _ _ (by omega) (by omega), byteS_enc]
    simp only [Prod.mk.injEq, Chg.mk.injEq, true_and, and_true, pbyte]
    omega
  · obtain ⟨rfl, rfl, rfl, rfl, rfl, rfl, rfl, rfl, rfl⟩ := h3
    rw [rdTo, hn.enc _ _ _ _ (by omega) (by omega)]
    simp only [Prod.mk.injEq, Chg.mk.injEq, true_and, and_true]
    omega
theorem changeS_enc {c : Chg} (ho : c.Ok) (h : c.mayB = true) (r : List UInt8) (b : Bool) : changeS ⟨c.putL ++ r, b⟩ = (c, ⟨r, b⟩) := changeG_enc numS_ok (by omega) (by omega) ho h r b
theorem changeR_enc {c : Chg} (ho : c.Ok) (h : c.mayB = true) (r : List UInt8) (b : Bool) : changeR ⟨c.putL ++ r, b⟩ = (c, ⟨r, b⟩) := changeG_enc numR_ok (by omega) (by omega) ho h r b
theorem readsGo_enc {f : RS → Chg × RS} (hf : ∀ (c : Chg) (r : List UInt8), c.Ok → c.mayB = true → f ⟨c.putL ++ r, false⟩ = (c, ⟨r, false⟩)) : ∀ (l acc : List Chg), (∀ c ∈ l, c.Ok) → l.all Chg.mayB = true → readsGo f l.length ⟨l.flatMap Chg.putL, false⟩ acc = (acc ++ l, ⟨[], false⟩)
  | [], acc, _, _ => by simp [readsGo]
  | c :: l, acc, ho, hm => by
    simp only [List.all_cons, Bool.and_eq_true] at hm
    have h1 := hf c (l.flatMap Chg.putL) (ho c (.head _)) hm.1
    simp only [List.length_cons, List.flatMap_cons, readsGo, h1, Bool.false_eq_true, if_false]
    rw [readsGo_enc hf l _ (fun c hc => ho c (.tail _ hc)) hm.2, List.append_assoc]; rfl
/-- The changes that bytes are of. -/
def ChgOf (b : List UInt8) (l : List Chg) : Prop := (∀ c ∈ l, c.Ok) ∧ changesL l = (b, 0)
theorem changesL_ok {l : List Chg} {b : List UInt8} (h : changesL l = (b, 0)) : l.length ≤ 4096 ∧ l.all Chg.mayB = true ∧ b = small l.length ++ l.flatMap Chg.putL ∧ b.length ≤ 65536 := by
  unfold changesL at h
  split at h
  · simp at h
  · split at h
    · simp at h
    · split at h
      · simp at h
      · rename_i h1 h2 h3
        simp only [Prod.mk.injEq, and_true] at h
        refine ⟨by omega, by simpa using h2, h.symm, by rw [← h]; omega⟩
def ofChgs (num : Nat → RS → Nat × RS) (f : RS → Chg × RS) (b : List UInt8) : List Chg × RS := readsGo f (num 4096 ⟨b, false⟩).1 (num 4096 ⟨b, false⟩).2 []
theorem ofChgs_enc {num : Nat → RS → Nat × RS} (hnum : ∀ m n r, n < 2 ^ 64 → n ≤ m → num m ⟨small n ++ r, false⟩ = (n, ⟨r, false⟩)) {f : RS → Chg × RS} (hf : ∀ (c : Chg) (r : List UInt8), c.Ok → c.mayB = true → f ⟨c.putL ++ r, false⟩ = (c, ⟨r, false⟩)) {b : List UInt8} {l : List Chg} (h : ChgOf b l) :
    ofChgs num f b = (l, ⟨[], false⟩) := by
  obtain ⟨h1, h2, h3, _⟩ := changesL_ok h.2
  unfold ofChgs
  rw [h3, hnum _ _ _ (by omega) (by omega)]
  simp only
  rw [readsGo_enc hf l [] h.1 h2]; rfl
open Classical in
noncomputable def ofChangesL (b : List UInt8) : List Chg × Int :=
  if b.length > 65536 then ([], 3) else if h : ∃ l, ChgOf b l then (Classical.choose h, 0) else ([], 8)
theorem ofChangesL_some {b : List UInt8} {l : List Chg} (h : ChgOf b l) : ofChangesL b = (l, 0) := by
  have hb := (changesL_ok h.2).2.2.2
  unfold ofChangesL
  rw [if_neg (by omega), dif_pos ⟨l, h⟩]
  have h1 := ofChgs_enc (num := numS) (f := changeS) (fun m n r a b => numS_enc a b r false) (fun c r a b => changeS_enc a b r false) h
  have h2 := ofChgs_enc (num := numS) (f := changeS) (fun m n r a b => numS_enc a b r false) (fun c r a b => changeS_enc a b r false) (Classical.choose_spec (⟨l, h⟩ : ∃ l, ChgOf b l))
  rw [h1] at h2
  exact congrArg (·, (0 : Int)) (congrArg Prod.fst h2).symm
theorem ofChangesL_none {b : List UInt8} (hb : b.length ≤ 65536) (h : ∀ l, ¬ ChgOf b l) : ofChangesL b = ([], 8) := by
  unfold ofChangesL
  rw [if_neg (by omega), dif_neg fun ⟨l, hl⟩ => h l hl]
theorem ofChangesL_e {b : List UInt8} : (ofChangesL b).2 = 0 → ChgOf b (ofChangesL b).1 := by
  unfold ofChangesL
  split
  · simp
  · split
    · rename_i h; exact fun _ => Classical.choose_spec h
    · simp
theorem ofChangesL_e2 {b : List UInt8} : (ofChangesL b).2 ≠ 0 → (ofChangesL b).1 = [] := by
  unfold ofChangesL
  split
  · simp
  · split
    · simp
    · simp
theorem changeG_ok {num : Nat → RS → Nat × RS} {wide : RS → Nat × RS} (hn : NumOk num wide) {mq me : Nat} {fin : RS → RS} (s : RS) : (changeG num wide mq me fin s).1.Ok := by
  have hb := (byteS s).1.toNat_lt
  have h0 : (0 : Int) ≤ 0 ∧ (0 : Int) < 256 := by omega
  have hk : ∀ x : UInt8, (0 : Int) ≤ (x.toNat : Int) ∧ (x.toNat : Int) < 256 := fun x => by have := x.toNat_lt; omega
  have o1 : ∀ k, (0 : Int) ≤ k ∧ k < 256 → ∀ s, (rd1 num wide k s).1.Ok := fun k hk' s => ⟨hk', by
      have := hn.le 4294967295 (textS (textS (num 4 s).2).2).2
      show (0 : Int) ≤ ((num 4294967295 (textS (textS (num 4 s).2).2).2).1 : Int) ∧ ((num 4294967295 (textS (textS (num 4 s).2).2).2).1 : Int) < _
      omega, by
      have := hn.wlt (num 1099511627776 (num 4294967295 (textS (textS (num 4 s).2).2).2).2).2
      show (0 : Int) ≤ ((wide (num 1099511627776 (num 4294967295 (textS (textS (num 4 s).2).2).2).2).2).1 : Int) ∧ ((wide (num 1099511627776 (num 4294967295 (textS (textS (num 4 s).2).2).2).2).2).1 : Int) < _
      omega, h0⟩
  have o2 : ∀ k, (0 : Int) ≤ k ∧ k < 256 → ∀ s, (rd2 num k s).1.Ok := fun k hk' s => ⟨hk', by show (0 : Int) ≤ 0 ∧ (0 : Int) < _; omega, by show (0 : Int) ≤ 0 ∧ (0 : Int) < _; omega, hk _⟩
  have oz : ∀ c : Chg, (0 ≤ c.kind ∧ c.kind < 256) → c.ifl = 0 → c.iuniq = 0 → c.why = 0 → c.Ok := fun c h1 h2 h3 h4 => ⟨h1, by omega, by omega, by omega⟩
  unfold changeG
  repeat' split
  · exact o1 _ (by omega) _
  · exact o2 _ (by omega) _
  · exact oz _ (show (0 : Int) ≤ 3 ∧ (3 : Int) < 256 by omega) rfl rfl rfl
  · exact oz _ (show (0 : Int) ≤ 4 ∧ (4 : Int) < 256 by omega) rfl rfl rfl
  · exact oz _ (show (0 : Int) ≤ 5 ∧ (5 : Int) < 256 by omega) rfl rfl rfl
  · exact oz _ (show (0 : Int) ≤ 6 ∧ (6 : Int) < 256 by omega) rfl rfl rfl
  · exact oz _ (show (0 : Int) ≤ 7 ∧ (7 : Int) < 256 by omega) rfl rfl rfl
  · exact oz _ (hk _) rfl rfl rfl
theorem changeS_ok (s : RS) : (changeS s).1.Ok := changeG_ok numS_ok s
theorem changeR_ok (s : RS) : (changeR s).1.Ok := changeG_ok numR_ok s
theorem readsGo_ok {f : RS → Chg × RS} (hf : ∀ s, (f s).1.Ok) : ∀ (n : Nat) (s : RS) (acc : List Chg), (∀ c ∈ acc, c.Ok) → ∀ c ∈ (readsGo f n s acc).1, c.Ok
  | 0, s, acc, h => h
  | n + 1, s, acc, h => by
    have h2 : ∀ c ∈ acc ++ [(f s).1], c.Ok := fun c hc => by
      rcases List.mem_append.1 hc with hc | hc
      · exact h c hc
      · simp at hc; rw [hc]; exact hf s
    rw [readsGo]
    split
    · exact h2
    · exact readsGo_ok hf n _ _ h2
theorem readsGo_bad {f : RS → Chg × RS} : ∀ (n : Nat) (s : RS) (acc : List Chg), (readsGo f n s acc).1.length ≤ acc.length + n
  | 0, s, acc => by simp [readsGo]
  | n + 1, s, acc => by
    rw [readsGo]
    split
    · simp
    · have := readsGo_bad (f := f) n (f s).2 (acc ++ [(f s).1]); simp at this; omega
/-! ### lists of numbers and texts -/
theorem nums_spec {m : Nat} (v w : AV) (bs : List UInt8) (l : List Int) (H : Heap) (ho : Ob m H v bs) (hm : m ≤ H.length) (hl : Is H w .i64 l) (hne : ∀ b, w.blk = some b → v.blk ≠ some b) (hc : bs.length + 10 * l.length ≤ 140737488355000) :
    WC Try.prog 44 [v, w] H fun r H' => Grow m H v H' r (bs ++ numsL l) := by
  refine WC_of_K fun K hK => ?_
  refine WC_of_body hT Try.func44 rfl (by simp [Try.f44]) (by simp [Try.f44]) (wx_sound hT _ ?_)
  simp only [Try.f44]
  simp only [go_sem, Nat.reduceLT, Nat.reduceEqDiff, Nat.reduceAdd, Nat.reduceMul, Nat.reduceSub, Nat.reduceLeDiff, Int.reduceToNat, Int.reduceNeg, Int.reduceLT, Int.reduceLE, Int.reduceEq, reduceCtorEq]
  rw [hl.alen tk101]
  simp only [go_sem, Nat.reduceLT, Nat.reduceEqDiff, Nat.reduceAdd, Nat.reduceMul, Nat.reduceSub, Nat.reduceLeDiff, Int.reduceToNat, Int.reduceNeg, Int.reduceLT, Int.reduceLE, Int.reduceEq, reduceCtorEq]
  refine WX_loop (fun k fr' H' => ∃ (i : Nat) (a : AV), k = l.length - i ∧ i ≤ l.length ∧ fr'.get 0 = a ∧ fr'.get 7 = w ∧ fr'.get 8 = .int .i64 l.length ∧ fr'.get 9 = .int .i64 i ∧ Grow m H v H' a (bs ++ numsL (l.take i))) l.length ⟨0, v, rfl, by omega, ?_, ?_, ?_, ?_, (Grow.refl ho).eq (by simp [numsL])⟩ ?_
  · simp only [go_sem, Nat.reduceLT, Nat.reduceEqDiff, Nat.reduceAdd, Nat.reduceMul, Nat.reduceSub, Nat.reduceLeDiff, Int.reduceToNat, Int.reduceNeg, Int.reduceLT, Int.reduceLE, Int.reduceEq, reduceCtorEq]
  · simp only [go_sem, Nat.reduceLT, Nat.reduceEqDiff, Nat.reduceAdd, Nat.reduceMul, Nat.reduceSub, Nat.reduceLeDiff, Int.reduceToNat, Int.reduceNeg, Int.reduceLT, Int.reduceLE, Int.reduceEq, reduceCtorEq]
  · simp only [go_sem, Nat.reduceLT, Nat.reduceEqDiff, Nat.reduceAdd, Nat.reduceMul, Nat.reduceSub, Nat.reduceLeDiff, Int.reduceToNat, Int.reduceNeg, Int.reduceLT, Int.reduceLE, Int.reduceEq, reduceCtorEq]
  · simp only [go_sem, Nat.reduceLT, Nat.reduceEqDiff, Nat.reduceAdd, Nat.reduceMul, Nat.reduceSub, Nat.reduceLeDiff, Int.reduceToNat, Int.reduceNeg, Int.reduceLT, Int.reduceLE, Int.reduceEq, reduceCtorEq]
    rfl
  · rintro k fr' H' ⟨i, a, rfl, hi, f0, f7, f8, f9, g⟩
    refine wx_sound hT _ ?_
    simp only [go_sem, Nat.reduceLT, Nat.reduceEqDiff, Nat.reduceAdd, Nat.reduceMul, Nat.reduceSub, Nat.reduceLeDiff, Int.reduceToNat, Int.reduceNeg, Int.reduceLT, Int.reduceLE, Int.reduceEq, reduceCtorEq, f0, f7, f8, f9]
    refine IfB_dec (fun hlt => ?_) (fun hge => ?_)
    · have hlt' : i < l.length := by omega
      obtain ⟨b, o, e1, e2, _⟩ := (Vs.keep hl g.keep hne).at1 se101 hlt' (k := .i64) (z := i) rfl
      have hlen := numsL_len (l.take i)
      rw [List.length_take] at hlen
      have hs := small_len10 (u64w_lt l[i])
      simp only [go_sem, Nat.reduceLT, Nat.reduceEqDiff, Nat.reduceAdd, Nat.reduceMul, Nat.reduceSub, Nat.reduceLeDiff, Int.reduceToNat, Int.reduceNeg, Int.reduceLT, Int.reduceLE, Int.reduceEq, reduceCtorEq, f0, f7, f8, f9, e1, e2]
      rw [← u64w_cast]
      refine (small_spec (IntKind.u64.wrap l[i]).toNat (u64w_lt _) _).mono ?_
      rintro r H1 ⟨o1, k1⟩
      simp only [go_sem, Nat.reduceLT, Nat.reduceEqDiff, Nat.reduceAdd, Nat.reduceMul, Nat.reduceSub, Nat.reduceLeDiff, Int.reduceToNat, Int.reduceNeg, Int.reduceLT, Int.reduceLE, Int.reduceEq, reduceCtorEq]
      refine append_gr (g.own.keep0 k1) se30 az5 td5 rfl (o1.bs.src tk30) (by simp; omega) (by have := g.keep.len; have := k1.len; omega) ?_
      intro v' H2 g2
      simp only [go_sem, Nat.reduceLT, Nat.reduceEqDiff, Nat.reduceAdd, Nat.reduceMul, Nat.reduceSub, Nat.reduceLeDiff, Int.reduceToNat, Int.reduceNeg, Int.reduceLT, Int.reduceLE, Int.reduceEq, reduceCtorEq, f0, f7, f8, f9]
      refine ⟨l.length - (i + 1), by omega, i + 1, v', rfl, by omega, by simp only [go_sem, Nat.reduceLT, Nat.reduceEqDiff, Nat.reduceAdd, Nat.reduceMul, Nat.reduceSub, Nat.reduceLeDiff, Int.reduceToNat, Int.reduceNeg, Int.reduceLT, Int.reduceLE, Int.reduceEq, reduceCtorEq], by simp only [go_sem, Nat.reduceLT, Nat.reduceEqDiff, Nat.reduceAdd, Nat.reduceMul, Nat.reduceSub, Nat.reduceLeDiff, Int.reduceToNat, Int.reduceNeg, Int.reduceLT, Int.reduceLE, Int.reduceEq, reduceCtorEq, f7], by simp only [go_sem, Nat.reduceLT, Nat.reduceEqDiff, Nat.reduceAdd, Nat.reduceMul, Nat.reduceSub, Nat.reduceLeDiff, Int.reduceToNat, Int.reduceNeg, Int.reduceLT, Int.reduceLE, Int.reduceEq, reduceCtorEq, f8], ?_, (g.trans (Grow.pre k1 g2)).eq ?_⟩
      · simp only [go_sem, Nat.reduceLT, Nat.reduceEqDiff, Nat.reduceAdd, Nat.reduceMul, Nat.reduceSub, Nat.reduceLeDiff, Int.reduceToNat, Int.reduceNeg, Int.reduceLT, Int.reduceLE, Int.reduceEq, reduceCtorEq]
        rw [i64_id (i + 1 : Int) (by omega) (by omega)]; rfl
      · rw [numsL_snoc l i hlt']; simp
    · have : i = l.length := by omega
      subst this
      simp only [go_sem, Nat.reduceLT, Nat.reduceEqDiff, Nat.reduceAdd, Nat.reduceMul, Nat.reduceSub, Nat.reduceLeDiff, Int.reduceToNat, Int.reduceNeg, Int.reduceLT, Int.reduceLE, Int.reduceEq, reduceCtorEq, f0]
      rw [List.take_length] at g
      exact hK _ _ g
theorem texts_spec {m : Nat} (v w : AV) (bs : List UInt8) (l : List (List UInt8)) (H : Heap) (ho : Ob m H v bs) (hm : m ≤ H.length) (hl : Ss H w l) (hne : ∀ b, w.blk = some b → v.blk ≠ some b) (hc : bs.length + (textsL l).length ≤ 140737488354000) (hln : l.length ≤ 140737488355328) :
    WC Try.prog 43 [v, w] H fun r H' => Grow m H v H' r (bs ++ textsL l) := by
  refine WC_of_K fun K hK => ?_
  refine WC_of_body hT Try.func43 rfl (by simp [Try.f43]) (by simp [Try.f43]) (wx_sound hT _ ?_)
  simp only [Try.f43]
  simp only [go_sem, Nat.reduceLT, Nat.reduceEqDiff, Nat.reduceAdd, Nat.reduceMul, Nat.reduceSub, Nat.reduceLeDiff, Int.reduceToNat, Int.reduceNeg, Int.reduceLT, Int.reduceLE, Int.reduceEq, reduceCtorEq]
  rw [hl.alen tk42]
  simp only [go_sem, Nat.reduceLT, Nat.reduceEqDiff, Nat.reduceAdd, Nat.reduceMul, Nat.reduceSub, Nat.reduceLeDiff, Int.reduceToNat, Int.reduceNeg, Int.reduceLT, Int.reduceLE, Int.reduceEq, reduceCtorEq]
  refine WX_loop (fun k fr' H' => ∃ (i : Nat) (a : AV), k = l.length - i ∧ i ≤ l.length ∧ fr'.get 0 = a ∧ fr'.get 7 = w ∧ fr'.get 8 = .int .i64 l.length ∧ fr'.get 9 = .int .i64 i ∧ Grow m H v H' a (bs ++ textsL (l.take i))) l.length ⟨0, v, rfl, by omega, ?_, ?_, ?_, ?_, (Grow.refl ho).eq (by simp [textsL])⟩ ?_
  · simp only [go_sem, Nat.reduceLT, Nat.reduceEqDiff, Nat.reduceAdd, Nat.reduceMul, Nat.reduceSub, Nat.reduceLeDiff, Int.reduceToNat, Int.reduceNeg, Int.reduceLT, Int.reduceLE, Int.reduceEq, reduceCtorEq]
  · simp only [go_sem, Nat.reduceLT, Nat.reduceEqDiff, Nat.reduceAdd, Nat.reduceMul, Nat.reduceSub, Nat.reduceLeDiff, Int.reduceToNat, Int.reduceNeg, Int.reduceLT, Int.reduceLE, Int.reduceEq, reduceCtorEq]
  · simp only [go_sem, Nat.reduceLT, Nat.reduceEqDiff, Nat.reduceAdd, Nat.reduceMul, Nat.reduceSub, Nat.reduceLeDiff, Int.reduceToNat, Int.reduceNeg, Int.reduceLT, Int.reduceLE, Int.reduceEq, reduceCtorEq]
  · simp only [go_sem, Nat.reduceLT, Nat.reduceEqDiff, Nat.reduceAdd, Nat.reduceMul, Nat.reduceSub, Nat.reduceLeDiff, Int.reduceToNat, Int.reduceNeg, Int.reduceLT, Int.reduceLE, Int.reduceEq, reduceCtorEq]
    rfl
  · rintro k fr' H' ⟨i, a, rfl, hi, f0, f7, f8, f9, g⟩
    refine wx_sound hT _ ?_
    simp only [go_sem, Nat.reduceLT, Nat.reduceEqDiff, Nat.reduceAdd, Nat.reduceMul, Nat.reduceSub, Nat.reduceLeDiff, Int.reduceToNat, Int.reduceNeg, Int.reduceLT, Int.reduceLE, Int.reduceEq, reduceCtorEq, f0, f7, f8, f9]
    refine IfB_dec (fun hlt => ?_) (fun hge => ?_)
    · have hlt' : i < l.length := by omega
      obtain ⟨b, o, e1, e2, _⟩ := (Vs.keep hl g.keep hne).at1 se42 hlt' (k := .i64) (z := i) rfl
      have hsum : (textsL l).length = (textsL (l.take i)).length + (textL l[i]).length + (textsL (l.drop (i + 1))).length := by
        have : textsL l = textsL (l.take (i + 1)) ++ textsL (l.drop (i + 1)) := by rw [textsL, textsL, textsL, ← List.flatMap_append, List.take_append_drop]
        rw [this, textsL_snoc l i hlt', List.length_append, List.length_append]
      have hone : (textL l[i]).length = (small l[i].length).length + l[i].length := by simp [textL]
      simp only [go_sem, Nat.reduceLT, Nat.reduceEqDiff, Nat.reduceAdd, Nat.reduceMul, Nat.reduceSub, Nat.reduceLeDiff, Int.reduceToNat, Int.reduceNeg, Int.reduceLT, Int.reduceLE, Int.reduceEq, reduceCtorEq, f0, f7, f8, f9, e1, e2]
      refine (text_spec l[i] (by omega) _).mono ?_
      rintro r H1 ⟨o1, k1⟩
      simp only [go_sem, Nat.reduceLT, Nat.reduceEqDiff, Nat.reduceAdd, Nat.reduceMul, Nat.reduceSub, Nat.reduceLeDiff, Int.reduceToNat, Int.reduceNeg, Int.reduceLT, Int.reduceLE, Int.reduceEq, reduceCtorEq]
      refine append_gr (g.own.keep0 k1) se30 az5 td5 rfl (o1.bs.src tk30) (by rw [List.length_append]; omega) (by have := g.keep.len; have := k1.len; omega) ?_
      intro v' H2 g2
      simp only [go_sem, Nat.reduceLT, Nat.reduceEqDiff, Nat.reduceAdd, Nat.reduceMul, Nat.reduceSub, Nat.reduceLeDiff, Int.reduceToNat, Int.reduceNeg, Int.reduceLT, Int.reduceLE, Int.reduceEq, reduceCtorEq, f0, f7, f8, f9]
      refine ⟨l.length - (i + 1), by omega, i + 1, v', rfl, by omega, by simp only [go_sem, Nat.reduceLT, Nat.reduceEqDiff, Nat.reduceAdd, Nat.reduceMul, Nat.reduceSub, Nat.reduceLeDiff, Int.reduceToNat, Int.reduceNeg, Int.reduceLT, Int.reduceLE, Int.reduceEq, reduceCtorEq], by simp only [go_sem, Nat.reduceLT, Nat.reduceEqDiff, Nat.reduceAdd, Nat.reduceMul, Nat.reduceSub, Nat.reduceLeDiff, Int.reduceToNat, Int.reduceNeg, Int.reduceLT, Int.reduceLE, Int.reduceEq, reduceCtorEq, f7], by simp only [go_sem, Nat.reduceLT, Nat.reduceEqDiff, Nat.reduceAdd, Nat.reduceMul, Nat.reduceSub, Nat.reduceLeDiff, Int.reduceToNat, Int.reduceNeg, Int.reduceLT, Int.reduceLE, Int.reduceEq, reduceCtorEq, f8], ?_, (g.trans (Grow.pre k1 g2)).eq ?_⟩
      · simp only [go_sem, Nat.reduceLT, Nat.reduceEqDiff, Nat.reduceAdd, Nat.reduceMul, Nat.reduceSub, Nat.reduceLeDiff, Int.reduceToNat, Int.reduceNeg, Int.reduceLT, Int.reduceLE, Int.reduceEq, reduceCtorEq]
        rw [i64_id (i + 1 : Int) (by omega) (by omega)]; rfl
      · rw [textsL_snoc l i hlt']; simp
    · have : i = l.length := by omega
      subst this
      simp only [go_sem, Nat.reduceLT, Nat.reduceEqDiff, Nat.reduceAdd, Nat.reduceMul, Nat.reduceSub, Nat.reduceLeDiff, Int.reduceToNat, Int.reduceNeg, Int.reduceLT, Int.reduceLE, Int.reduceEq, reduceCtorEq, f0]
      rw [List.take_length] at g
      exact hK _ _ g
theorem texts_lst {m : Nat} (v : AV) (bs : List UInt8) (l : List (List UInt8)) (H : Heap) (ho : Ob m H v bs) (hm : m ≤ H.length) (hc : bs.length + (textsL l).length ≤ 140737488354000) (hln : l.length ≤ 140737488355328) :
    WC Try.prog 43 [v, Enc.str.lst l] H fun r H' => Grow m H v H' r (bs ++ textsL l) := by
  refine WC_of_K fun K hK => ?_
  refine WC_of_body hT Try.func43 rfl (by simp [Try.f43]) (by simp [Try.f43]) (wx_sound hT _ ?_)
  simp only [Try.f43]
  simp only [go_sem, Nat.reduceLT, Nat.reduceEqDiff, Nat.reduceAdd, Nat.reduceMul, Nat.reduceSub, Nat.reduceLeDiff, Int.reduceToNat, Int.reduceNeg, Int.reduceLT, Int.reduceLE, Int.reduceEq, reduceCtorEq]
  refine WX_loop (fun k fr' H' => ∃ (i : Nat) (a : AV), k = l.length - i ∧ i ≤ l.length ∧ fr'.get 0 = a ∧ fr'.get 7 = Enc.str.lst l ∧ fr'.get 8 = .int .i64 l.length ∧ fr'.get 9 = .int .i64 i ∧ Grow m H v H' a (bs ++ textsL (l.take i))) l.length ⟨0, v, rfl, by omega, ?_, ?_, ?_, ?_, (Grow.refl ho).eq (by simp [textsL])⟩ ?_
  · simp only [go_sem, Nat.reduceLT, Nat.reduceEqDiff, Nat.reduceAdd, Nat.reduceMul, Nat.reduceSub, Nat.reduceLeDiff, Int.reduceToNat, Int.reduceNeg, Int.reduceLT, Int.reduceLE, Int.reduceEq, reduceCtorEq]
  · simp only [go_sem, Nat.reduceLT, Nat.reduceEqDiff, Nat.reduceAdd, Nat.reduceMul, Nat.reduceSub, Nat.reduceLeDiff, Int.reduceToNat, Int.reduceNeg, Int.reduceLT, Int.reduceLE, Int.reduceEq, reduceCtorEq]
  · simp only [go_sem, Nat.reduceLT, Nat.reduceEqDiff, Nat.reduceAdd, Nat.reduceMul, Nat.reduceSub, Nat.reduceLeDiff, Int.reduceToNat, Int.reduceNeg, Int.reduceLT, Int.reduceLE, Int.reduceEq, reduceCtorEq]
  · simp only [go_sem, Nat.reduceLT, Nat.reduceEqDiff, Nat.reduceAdd, Nat.reduceMul, Nat.reduceSub, Nat.reduceLeDiff, Int.reduceToNat, Int.reduceNeg, Int.reduceLT, Int.reduceLE, Int.reduceEq, reduceCtorEq]
    rfl
  · rintro k fr' H' ⟨i, a, rfl, hi, f0, f7, f8, f9, g⟩
    refine wx_sound hT _ ?_
    simp only [go_sem, Nat.reduceLT, Nat.reduceEqDiff, Nat.reduceAdd, Nat.reduceMul, Nat.reduceSub, Nat.reduceLeDiff, Int.reduceToNat, Int.reduceNeg, Int.reduceLT, Int.reduceLE, Int.reduceEq, reduceCtorEq, f0, f7, f8, f9]
    refine IfB_dec (fun hlt => ?_) (fun hge => ?_)
    · have hlt' : i < l.length := by omega
      have e1 := at_enc (E := Enc.str) (T := T) (xs := l) se42 hlt' (k := .i64) (z := i) rfl
      have e2 : Enc.str.cells l[i] = [.str l[i]] := rfl
      have hsum : (textsL l).length = (textsL (l.take i)).length + (textL l[i]).length + (textsL (l.drop (i + 1))).length := by
        have : textsL l = textsL (l.take (i + 1)) ++ textsL (l.drop (i + 1)) := by rw [textsL, textsL, textsL, ← List.flatMap_append, List.take_append_drop]
        rw [this, textsL_snoc l i hlt', List.length_append, List.length_append]
      have hone : (textL l[i]).length = (small l[i].length).length + l[i].length := by simp [textL]
      simp only [go_sem, Nat.reduceLT, Nat.reduceEqDiff, Nat.reduceAdd, Nat.reduceMul, Nat.reduceSub, Nat.reduceLeDiff, Int.reduceToNat, Int.reduceNeg, Int.reduceLT, Int.reduceLE, Int.reduceEq, reduceCtorEq, f0, f7, f8, f9, e1, e2]
      refine (text_spec l[i] (by omega) _).mono ?_
      rintro r H1 ⟨o1, k1⟩
      simp only [go_sem, Nat.reduceLT, Nat.reduceEqDiff, Nat.reduceAdd, Nat.reduceMul, Nat.reduceSub, Nat.reduceLeDiff, Int.reduceToNat, Int.reduceNeg, Int.reduceLT, Int.reduceLE, Int.reduceEq, reduceCtorEq]
      refine append_gr (g.own.keep0 k1) se30 az5 td5 rfl (o1.bs.src tk30) (by rw [List.length_append]; omega) (by have := g.keep.len; have := k1.len; omega) ?_
      intro v' H2 g2
      simp only [go_sem, Nat.reduceLT, Nat.reduceEqDiff, Nat.reduceAdd, Nat.reduceMul, Nat.reduceSub, Nat.reduceLeDiff, Int.reduceToNat, Int.reduceNeg, Int.reduceLT, Int.reduceLE, Int.reduceEq, reduceCtorEq, f0, f7, f8, f9]
      refine ⟨l.length - (i + 1), by omega, i + 1, v', rfl, by omega, by simp only [go_sem, Nat.reduceLT, Nat.reduceEqDiff, Nat.reduceAdd, Nat.reduceMul, Nat.reduceSub, Nat.reduceLeDiff, Int.reduceToNat, Int.reduceNeg, Int.reduceLT, Int.reduceLE, Int.reduceEq, reduceCtorEq], by simp only [go_sem, Nat.reduceLT, Nat.reduceEqDiff, Nat.reduceAdd, Nat.reduceMul, Nat.reduceSub, Nat.reduceLeDiff, Int.reduceToNat, Int.reduceNeg, Int.reduceLT, Int.reduceLE, Int.reduceEq, reduceCtorEq, f7], by simp only [go_sem, Nat.reduceLT, Nat.reduceEqDiff, Nat.reduceAdd, Nat.reduceMul, Nat.reduceSub, Nat.reduceLeDiff, Int.reduceToNat, Int.reduceNeg, Int.reduceLT, Int.reduceLE, Int.reduceEq, reduceCtorEq, f8], ?_, (g.trans (Grow.pre k1 g2)).eq ?_⟩
      · simp only [go_sem, Nat.reduceLT, Nat.reduceEqDiff, Nat.reduceAdd, Nat.reduceMul, Nat.reduceSub, Nat.reduceLeDiff, Int.reduceToNat, Int.reduceNeg, Int.reduceLT, Int.reduceLE, Int.reduceEq, reduceCtorEq]
        rw [i64_id (i + 1 : Int) (by omega) (by omega)]; rfl
      · rw [textsL_snoc l i hlt']; simp
    · have : i = l.length := by omega
      subst this
      simp only [go_sem, Nat.reduceLT, Nat.reduceEqDiff, Nat.reduceAdd, Nat.reduceMul, Nat.reduceSub, Nat.reduceLeDiff, Int.reduceToNat, Int.reduceNeg, Int.reduceLT, Int.reduceLE, Int.reduceEq, reduceCtorEq, f0]
      rw [List.take_length] at g
      exact hK _ _ g
theorem in_spec (n k : Int) (H : Heap) : WC Try.prog 63 [.int .i64 n, .int .i64 k] H fun r H' => r = .bool (decide (0 ≤ n ∧ n ≤ k)) ∧ H' = H := by
  refine WC_of_K fun K hK => ?_
  refine WC_of_body hT Try.func63 rfl (by simp [Try.f63]) (by simp [Try.f63]) (wx_sound hT _ ?_)
  simp only [Try.f63]
  simp only [go_sem, Nat.reduceLT, Nat.reduceEqDiff, Nat.reduceAdd, Nat.reduceMul, Nat.reduceSub, Nat.reduceLeDiff, Int.reduceToNat, Int.reduceNeg, Int.reduceLT, Int.reduceLE, Int.reduceEq, reduceCtorEq]
  refine Guard_dec (fun h => ?_) (fun h => ?_)
  · simp only [go_sem, Nat.reduceLT, Nat.reduceEqDiff, Nat.reduceAdd, Nat.reduceMul, Nat.reduceSub, Nat.reduceLeDiff, Int.reduceToNat, Int.reduceNeg, Int.reduceLT, Int.reduceLE, Int.reduceEq, reduceCtorEq, h]
    refine hK _ _ ⟨?_, rfl⟩
    simp [h]
  · simp only [go_sem, Nat.reduceLT, Nat.reduceEqDiff, Nat.reduceAdd, Nat.reduceMul, Nat.reduceSub, Nat.reduceLeDiff, Int.reduceToNat, Int.reduceNeg, Int.reduceLT, Int.reduceLE, Int.reduceEq, reduceCtorEq, h]
    refine hK _ _ ⟨?_, rfl⟩
    simp; omega

theorem refNums_spec (w : AV) (l : List Int) (H : Heap) (hl : Is H w .i64 l) (hc : l.length ≤ 1000000) :
    WC Try.prog 46 [w] H fun r H' => Ob H.length H' r (numsL l) ∧ Keep none H H' := by
  refine WC_of_K fun K hK => ?_
  refine WC_of_body hT Try.func46 rfl (by simp [Try.f46]) (by simp [Try.f46]) (wx_sound hT _ ?_)
  simp only [Try.f46]
  simp only [go_sem, Nat.reduceLT, Nat.reduceEqDiff, Nat.reduceAdd, Nat.reduceMul, Nat.reduceSub, Nat.reduceLeDiff, Int.reduceToNat, Int.reduceNeg, Int.reduceLT, Int.reduceLE, Int.reduceEq, reduceCtorEq]
  refine WX_loop (fun k fr' H' => ∃ (i : Nat) (a : AV), k = l.length - i ∧ i ≤ l.length ∧ fr'.get 3 = a ∧ fr'.get 0 = w ∧ fr'.get 4 = .int .i64 i ∧ Grow H.length H .nils H' a (numsL (l.take i))) l.length ⟨0, .nils, rfl, by omega, ?_, ?_, ?_, (Grow.refl (Ob.nils _ _)).eq (by simp [numsL])⟩ ?_
  · simp only [go_sem, Nat.reduceLT, Nat.reduceEqDiff, Nat.reduceAdd, Nat.reduceMul, Nat.reduceSub, Nat.reduceLeDiff, Int.reduceToNat, Int.reduceNeg, Int.reduceLT, Int.reduceLE, Int.reduceEq, reduceCtorEq]
  · simp only [go_sem, Nat.reduceLT, Nat.reduceEqDiff, Nat.reduceAdd, Nat.reduceMul, Nat.reduceSub, Nat.reduceLeDiff, Int.reduceToNat, Int.reduceNeg, Int.reduceLT, Int.reduceLE, Int.reduceEq, reduceCtorEq]
  · simp only [go_sem, Nat.reduceLT, Nat.reduceEqDiff, Nat.reduceAdd, Nat.reduceMul, Nat.reduceSub, Nat.reduceLeDiff, Int.reduceToNat, Int.reduceNeg, Int.reduceLT, Int.reduceLE, Int.reduceEq, reduceCtorEq]
    rfl
  · rintro k fr' H' ⟨i, a, rfl, hi, f3, f0, f4, g⟩
    refine wx_sound hT _ ?_
    have hl' : Is H' w .i64 l := Vs.keep hl g.keep (fun b _ => by simp [AV.blk])
    simp only [go_sem, Nat.reduceLT, Nat.reduceEqDiff, Nat.reduceAdd, Nat.reduceMul, Nat.reduceSub, Nat.reduceLeDiff, Int.reduceToNat, Int.reduceNeg, Int.reduceLT, Int.reduceLE, Int.reduceEq, reduceCtorEq, f3, f0, f4, hl'.alen tk101]
    refine IfB_dec (fun hlt => ?_) (fun hge => ?_)
    · have hlt' : i < l.length := by omega
      obtain ⟨b, o, e1, e2, _⟩ := Vs.at1 hl' se101 hlt' (k := .i64) (z := i) rfl
      have hlen := numsL_len (l.take i)
      rw [List.length_take] at hlen
      have hs := small_len10 (u64w_lt l[i])
      simp only [go_sem, Nat.reduceLT, Nat.reduceEqDiff, Nat.reduceAdd, Nat.reduceMul, Nat.reduceSub, Nat.reduceLeDiff, Int.reduceToNat, Int.reduceNeg, Int.reduceLT, Int.reduceLE, Int.reduceEq, reduceCtorEq, f3, f0, f4, e1, e2]
      rw [← u64w_cast]
      refine (refSmall_spec (IntKind.u64.wrap l[i]).toNat (u64w_lt _) _).mono ?_
      rintro r H1 ⟨o1, k1⟩
      simp only [go_sem, Nat.reduceLT, Nat.reduceEqDiff, Nat.reduceAdd, Nat.reduceMul, Nat.reduceSub, Nat.reduceLeDiff, Int.reduceToNat, Int.reduceNeg, Int.reduceLT, Int.reduceLE, Int.reduceEq, reduceCtorEq]
      refine append_gr (g.own.keep0 k1) se30 az5 td5 rfl (o1.bs.src tk30) (by omega) (by have := g.keep.len; have := k1.len; omega) ?_
      intro v' H2 g2
      simp only [go_sem, Nat.reduceLT, Nat.reduceEqDiff, Nat.reduceAdd, Nat.reduceMul, Nat.reduceSub, Nat.reduceLeDiff, Int.reduceToNat, Int.reduceNeg, Int.reduceLT, Int.reduceLE, Int.reduceEq, reduceCtorEq, f3, f0, f4]
      refine ⟨l.length - (i + 1), by omega, i + 1, v', rfl, by omega, by simp only [go_sem, Nat.reduceLT, Nat.reduceEqDiff, Nat.reduceAdd, Nat.reduceMul, Nat.reduceSub, Nat.reduceLeDiff, Int.reduceToNat, Int.reduceNeg, Int.reduceLT, Int.reduceLE, Int.reduceEq, reduceCtorEq], by simp only [go_sem, Nat.reduceLT, Nat.reduceEqDiff, Nat.reduceAdd, Nat.reduceMul, Nat.reduceSub, Nat.reduceLeDiff, Int.reduceToNat, Int.reduceNeg, Int.reduceLT, Int.reduceLE, Int.reduceEq, reduceCtorEq, f0], ?_, (g.trans (Grow.pre k1 g2)).eq ?_⟩
      · simp only [go_sem, Nat.reduceLT, Nat.reduceEqDiff, Nat.reduceAdd, Nat.reduceMul, Nat.reduceSub, Nat.reduceLeDiff, Int.reduceToNat, Int.reduceNeg, Int.reduceLT, Int.reduceLE, Int.reduceEq, reduceCtorEq]
        rw [i64_id (i + 1 : Int) (by omega) (by omega)]; rfl
      · rw [numsL_snoc l i hlt']
    · have : i = l.length := by omega
      subst this
      simp only [go_sem, Nat.reduceLT, Nat.reduceEqDiff, Nat.reduceAdd, Nat.reduceMul, Nat.reduceSub, Nat.reduceLeDiff, Int.reduceToNat, Int.reduceNeg, Int.reduceLT, Int.reduceLE, Int.reduceEq, reduceCtorEq, f3]
      rw [List.take_length] at g
      exact hK _ _ ⟨g.own, g.keep⟩
open Go Go.Proofs Go.Proofs.PI
/-! ### readers -/
def RS.blk (s : RS) : Blk := ⟨[Enc.u8.lst s.l, .bool s.bad], 0, .full⟩
theorem wide_spec (p : Nat) (l : List UInt8) (bad : Bool) (hl : l.length ≤ 140737488355328) (H : Heap) (hb : H[p]? = some ⟨[Enc.u8.lst l, .bool bad], 0, .full⟩) :
    WC Try.prog 50 [.ptr p 0] H fun r H' => r = .int .u64 (wideS ⟨l, bad⟩).1 ∧ H' = List.set H p (wideS ⟨l, bad⟩).2.blk := by
  refine WC_of_K fun K hK => ?_
  have rp := fun J => readP l hl J
  cases hr : rd 0 l with
  | none =>
    have e : wideS ⟨l, bad⟩ = (0, ⟨l, true⟩) := by unfold wideS; simp only [hr]
    have s0 := fun J => slice_enc (H := J) (E := Enc.u8) (xs := l) (l := 0) (u := l.length) (lo := some (.int .i64 0)) (hi := none) se30 (abound_nat 0 rfl) rfl (by omega) (by omega)
    simp only [List.take_length, List.drop_zero] at s0
    rw [e] at hK
    rw [hr] at rp
    unfold rdV at rp
    refine WC_of_body hT Try.func50 rfl (by simp [Try.f50]) (by simp [Try.f50]) (wx_sound hT _ ?_)
    simp only [Try.f50]
    cases bad
    all_goals
      repeat' (first | simp only [go_sem, Nat.reduceLT, Nat.reduceEqDiff, Nat.reduceAdd, Nat.reduceMul, Nat.reduceSub, Nat.reduceLeDiff, Int.reduceToNat, Int.reduceNeg, Int.reduceLT, Int.reduceLE, Int.reduceEq, reduceCtorEq, Int.natCast_zero, Int.natCast_one, Int.cast_ofNat_Int, Bool.not_not, false_eq_decide, true_eq_decide, hread0, hreadk, read_cons0, read_consk, astore_h0, astore_hk, hget0, hgetk, hset0, hsetk, hlen, hcat, Nat.add_assoc, Nat.add_zero, Nat.zero_add, List.length_append, and_true, true_and, AV.flat, hb, get_app hb, read_get hb, read_app hb, astore_get hb, astore_app hb, get_set hb, get_set_app hb, read_set hb, read_set_app hb, astore_set hb, astore_set_app hb, List.set_set, hget0s, hgetks, hread0s, hreadks, List.length_set, *, -hK, -rp] | refine WC.call (rp _) ?_ | with_reducible refine IfB_dec (fun h => ?_) (fun h => ?_) | with_reducible refine Guard_dec (fun h => ?_) (fun h => ?_) | with_reducible refine Guard_ndec (fun h => ?_) (fun h => ?_) | with_reducible refine Guard_not (fun h => ?_) (fun h => ?_) | with_reducible refine IfB_ndec (fun h => ?_) (fun h => ?_) | with_reducible refine IfB_not (fun h => ?_) (fun h => ?_) | with_reducible refine Guard_split (fun h => ?_) (fun h => ?_) | with_reducible refine IfB_split (fun h => ?_) (fun h => ?_))
      exact hK _ _ ⟨rfl, rfl⟩
  | some q =>
    obtain ⟨n, k⟩ := q
    have h64 := rd_lt64 hr
    have hk := rd_len l 0 hr
    simp only at h64 hk
    have e : wideS ⟨l, bad⟩ = (n, ⟨l.drop k, bad⟩) := by unfold wideS; simp only [hr]
    have s0 := fun J => slice_enc (H := J) (E := Enc.u8) (xs := l) (l := k) (u := l.length) (lo := some (.int .i64 k)) (hi := none) se30 (abound_nat k rfl) rfl (by omega) (by omega)
    simp only [List.take_length] at s0
    rw [e] at hK
    rw [hr] at rp
    unfold rdV at rp
    refine WC_of_body hT Try.func50 rfl (by simp [Try.f50]) (by simp [Try.f50]) (wx_sound hT _ ?_)
    simp only [Try.f50]
    cases bad
    all_goals
      repeat' (first | simp only [go_sem, Nat.reduceLT, Nat.reduceEqDiff, Nat.reduceAdd, Nat.reduceMul, Nat.reduceSub, Nat.reduceLeDiff, Int.reduceToNat, Int.reduceNeg, Int.reduceLT, Int.reduceLE, Int.reduceEq, reduceCtorEq, Int.natCast_zero, Int.natCast_one, Int.cast_ofNat_Int, Bool.not_not, false_eq_decide, true_eq_decide, hread0, hreadk, read_cons0, read_consk, astore_h0, astore_hk, hget0, hgetk, hset0, hsetk, hlen, hcat, Nat.add_assoc, Nat.add_zero, Nat.zero_add, List.length_append, and_true, true_and, AV.flat, hb, get_app hb, read_get hb, read_app hb, astore_get hb, astore_app hb, get_set hb, get_set_app hb, read_set hb, read_set_app hb, astore_set hb, astore_set_app hb, List.set_set, hget0s, hgetks, hread0s, hreadks, List.length_set, *, -hK, -rp] | refine WC.call (rp _) ?_ | with_reducible refine IfB_dec (fun h => ?_) (fun h => ?_) | with_reducible refine Guard_dec (fun h => ?_) (fun h => ?_) | with_reducible refine Guard_ndec (fun h => ?_) (fun h => ?_) | with_reducible refine Guard_not (fun h => ?_) (fun h => ?_) | with_reducible refine IfB_ndec (fun h => ?_) (fun h => ?_) | with_reducible refine IfB_not (fun h => ?_) (fun h => ?_) | with_reducible refine Guard_split (fun h => ?_) (fun h => ?_) | with_reducible refine IfB_split (fun h => ?_) (fun h => ?_))
      exact hK _ _ ⟨rfl, rfl⟩
theorem num_spec (p m : Nat) (hm : m < 2 ^ 62) (l : List UInt8) (bad : Bool) (hl : l.length ≤ 140737488355328) (H : Heap) (hb : H[p]? = some ⟨[Enc.u8.lst l, .bool bad], 0, .full⟩) :
    WC Try.prog 48 [.ptr p 0, .int .i64 m] H fun r H' => r = .int .i64 (numS m ⟨l, bad⟩).1 ∧ H' = List.set H p (numS m ⟨l, bad⟩).2.blk := by
  refine WC_of_K fun K hK => ?_
  have hw := fun J h => wide_spec p l bad hl J h
  have hle := numS_le m ⟨l, bad⟩
  have hlt := wideS_lt ⟨l, bad⟩
  unfold numS at hK hle
  generalize wideS ⟨l, bad⟩ = q at *
  obtain ⟨n, l2, b2⟩ := q
  simp only [RS.blk] at hw hK hle hlt
  have hmu : IntKind.u64.wrap m = m := by rw [IntKind.wrap_u64]; omega
  by_cases hc : n > m
  · rw [if_pos hc] at hK
    have hc' : (m : Int) < n := by omega
    refine WC_of_body hT Try.func48 rfl (by simp [Try.f48]) (by simp [Try.f48]) (wx_sound hT _ ?_)
    simp only [Try.f48]
    repeat' (first | simp only [go_sem, Nat.reduceLT, Nat.reduceEqDiff, Nat.reduceAdd, Nat.reduceMul, Nat.reduceSub, Nat.reduceLeDiff, Int.reduceToNat, Int.reduceNeg, Int.reduceLT, Int.reduceLE, Int.reduceEq, reduceCtorEq, Int.natCast_zero, Int.natCast_one, Int.cast_ofNat_Int, Bool.not_not, false_eq_decide, true_eq_decide, hread0, hreadk, read_cons0, read_consk, astore_h0, astore_hk, hget0, hgetk, hset0, hsetk, hlen, hcat, Nat.add_assoc, Nat.add_zero, Nat.zero_add, List.length_append, and_true, true_and, AV.flat, hb, get_app hb, read_get hb, read_app hb, astore_get hb, astore_app hb, get_set hb, get_set_app hb, read_set hb, read_set_app hb, astore_set hb, astore_set_app hb, List.set_set, hget0s, hgetks, hread0s, hreadks, List.length_set, *, -hK, -hw] | refine WC.call (hw _ hb) ?_ | with_reducible refine IfB_dec (fun h => ?_) (fun h => ?_) | with_reducible refine Guard_dec (fun h => ?_) (fun h => ?_) | with_reducible refine Guard_ndec (fun h => ?_) (fun h => ?_) | with_reducible refine Guard_not (fun h => ?_) (fun h => ?_) | with_reducible refine IfB_ndec (fun h => ?_) (fun h => ?_) | with_reducible refine IfB_not (fun h => ?_) (fun h => ?_) | with_reducible refine Guard_split (fun h => ?_) (fun h => ?_) | with_reducible refine IfB_split (fun h => ?_) (fun h => ?_))
    exact hK _ _ ⟨rfl, rfl⟩
  · rw [if_neg hc] at hK
    have hc' : ¬ (m : Int) < n := by omega
    have hn : IntKind.i64.wrap n = n := by rw [IntKind.wrap_i64]; omega
    refine WC_of_body hT Try.func48 rfl (by simp [Try.f48]) (by simp [Try.f48]) (wx_sound hT _ ?_)
    simp only [Try.f48]
    repeat' (first | simp only [go_sem, Nat.reduceLT, Nat.reduceEqDiff, Nat.reduceAdd, Nat.reduceMul, Nat.reduceSub, Nat.reduceLeDiff, Int.reduceToNat, Int.reduceNeg, Int.reduceLT, Int.reduceLE, Int.reduceEq, reduceCtorEq, Int.natCast_zero, Int.natCast_one, Int.cast_ofNat_Int, Bool.not_not, false_eq_decide, true_eq_decide, hread0, hreadk, read_cons0, read_consk, astore_h0, astore_hk, hget0, hgetk, hset0, hsetk, hlen, hcat, Nat.add_assoc, Nat.add_zero, Nat.zero_add, List.length_append, and_true, true_and, AV.flat, hb, get_app hb, read_get hb, read_app hb, astore_get hb, astore_app hb, get_set hb, get_set_app hb, read_set hb, read_set_app hb, astore_set hb, astore_set_app hb, List.set_set, hget0s, hgetks, hread0s, hreadks, List.length_set, *, -hK, -hw] | refine WC.call (hw _ hb) ?_ | with_reducible refine IfB_dec (fun h => ?_) (fun h => ?_) | with_reducible refine Guard_dec (fun h => ?_) (fun h => ?_) | with_reducible refine Guard_ndec (fun h => ?_) (fun h => ?_) | with_reducible refine Guard_not (fun h => ?_) (fun h => ?_) | with_reducible refine IfB_ndec (fun h => ?_) (fun h => ?_) | with_reducible refine IfB_not (fun h => ?_) (fun h => ?_) | with_reducible refine Guard_split (fun h => ?_) (fun h => ?_) | with_reducible refine IfB_split (fun h => ?_) (fun h => ?_))
    exact hK _ _ ⟨rfl, rfl⟩
theorem rtext_spec (p : Nat) (l : List UInt8) (bad : Bool) (hl : l.length ≤ 140737488355328) (H : Heap) (hb : H[p]? = some ⟨[Enc.u8.lst l, .bool bad], 0, .full⟩) :
    WC Try.prog 49 [.ptr p 0] H fun r H' => r = .str (textS ⟨l, bad⟩).1 ∧ H' = List.set H p (textS ⟨l, bad⟩).2.blk := by
  refine WC_of_K fun K hK => ?_
  have rp := fun J => cutInP l hl J
  have se := fun (H : Heap) (l : List UInt8) => str_enc (T := T) (H := H) (l := l) se30 tk9 tk5
  cases hr : cutL l with
  | none =>
    have e : textS ⟨l, bad⟩ = ([], ⟨l, true⟩) := by unfold textS; simp only [hr]
    rw [e] at hK
    rw [hr] at rp
    simp only at rp
    refine WC_of_body hT Try.func49 rfl (by simp [Try.f49]) (by simp [Try.f49]) (wx_sound hT _ ?_)
    simp only [Try.f49]
    repeat' (first | simp only [go_sem, Nat.reduceLT, Nat.reduceEqDiff, Nat.reduceAdd, Nat.reduceMul, Nat.reduceSub, Nat.reduceLeDiff, Int.reduceToNat, Int.reduceNeg, Int.reduceLT, Int.reduceLE, Int.reduceEq, reduceCtorEq, Int.natCast_zero, Int.natCast_one, Int.cast_ofNat_Int, Bool.not_not, false_eq_decide, true_eq_decide, hread0, hreadk, read_cons0, read_consk, astore_h0, astore_hk, hget0, hgetk, hset0, hsetk, hlen, hcat, Nat.add_assoc, Nat.add_zero, Nat.zero_add, List.length_append, and_true, true_and, AV.flat, hb, get_app hb, read_get hb, read_app hb, astore_get hb, astore_app hb, get_set hb, get_set_app hb, read_set hb, read_set_app hb, astore_set hb, astore_set_app hb, List.set_set, hget0s, hgetks, hread0s, hreadks, List.length_set, *, -hK, -rp] | refine WC.call (rp _) ?_ | with_reducible refine IfB_dec (fun h => ?_) (fun h => ?_) | with_reducible refine Guard_dec (fun h => ?_) (fun h => ?_) | with_reducible refine Guard_ndec (fun h => ?_) (fun h => ?_) | with_reducible refine Guard_not (fun h => ?_) (fun h => ?_) | with_reducible refine IfB_ndec (fun h => ?_) (fun h => ?_) | with_reducible refine IfB_not (fun h => ?_) (fun h => ?_) | with_reducible refine Guard_split (fun h => ?_) (fun h => ?_) | with_reducible refine IfB_split (fun h => ?_) (fun h => ?_))
    exact hK _ _ ⟨rfl, rfl⟩
  | some q =>
    obtain ⟨s, t⟩ := q
    have e : textS ⟨l, bad⟩ = (s, ⟨t, bad⟩) := by unfold textS; simp only [hr]
    rw [e] at hK
    rw [hr] at rp
    simp only at rp
    refine WC_of_body hT Try.func49 rfl (by simp [Try.f49]) (by simp [Try.f49]) (wx_sound hT _ ?_)
    simp only [Try.f49]
    repeat' (first | simp only [go_sem, Nat.reduceLT, Nat.reduceEqDiff, Nat.reduceAdd, Nat.reduceMul, Nat.reduceSub, Nat.reduceLeDiff, Int.reduceToNat, Int.reduceNeg, Int.reduceLT, Int.reduceLE, Int.reduceEq, reduceCtorEq, Int.natCast_zero, Int.natCast_one, Int.cast_ofNat_Int, Bool.not_not, false_eq_decide, true_eq_decide, hread0, hreadk, read_cons0, read_consk, astore_h0, astore_hk, hget0, hgetk, hset0, hsetk, hlen, hcat, Nat.add_assoc, Nat.add_zero, Nat.zero_add, List.length_append, and_true, true_and, AV.flat, hb, get_app hb, read_get hb, read_app hb, astore_get hb, astore_app hb, get_set hb, get_set_app hb, read_set hb, read_set_app hb, astore_set hb, astore_set_app hb, List.set_set, hget0s, hgetks, hread0s, hreadks, List.length_set, *, -hK, -rp] | refine WC.call (rp _) ?_ | with_reducible refine IfB_dec (fun h => ?_) (fun h => ?_) | with_reducible refine Guard_dec (fun h => ?_) (fun h => ?_) | with_reducible refine Guard_ndec (fun h => ?_) (fun h => ?_) | with_reducible refine Guard_not (fun h => ?_) (fun h => ?_) | with_reducible refine IfB_ndec (fun h => ?_) (fun h => ?_) | with_reducible refine IfB_not (fun h => ?_) (fun h => ?_) | with_reducible refine Guard_split (fun h => ?_) (fun h => ?_) | with_reducible refine IfB_split (fun h => ?_) (fun h => ?_))
    exact hK _ _ ⟨rfl, rfl⟩
theorem rbyte_spec (p : Nat) (l : List UInt8) (bad : Bool) (hl : l.length ≤ 140737488355328) (H : Heap) (hb : H[p]? = some ⟨[Enc.u8.lst l, .bool bad], 0, .full⟩) :
    WC Try.prog 47 [.ptr p 0] H fun r H' => r = .int .u8 (byteS ⟨l, bad⟩).1.toNat ∧ H' = List.set H p (byteS ⟨l, bad⟩).2.blk := by
  refine WC_of_K fun K hK => ?_
  cases l with
  | nil =>
    have e : byteS ⟨[], bad⟩ = (0, ⟨[], true⟩) := rfl
    rw [e] at hK
    refine WC_of_body hT Try.func47 rfl (by simp [Try.f47]) (by simp [Try.f47]) (wx_sound hT _ ?_)
    simp only [Try.f47]
    repeat' (first | simp only [go_sem, Nat.reduceLT, Nat.reduceEqDiff, Nat.reduceAdd, Nat.reduceMul, Nat.reduceSub, Nat.reduceLeDiff, Int.reduceToNat, Int.reduceNeg, Int.reduceLT, Int.reduceLE, Int.reduceEq, reduceCtorEq, Int.natCast_zero, Int.natCast_one, Int.cast_ofNat_Int, Bool.not_not, false_eq_decide, true_eq_decide, hread0, hreadk, read_cons0, read_consk, astore_h0, astore_hk, hget0, hgetk, hset0, hsetk, hlen, hcat, Nat.add_assoc, Nat.add_zero, Nat.zero_add, List.length_append, and_true, true_and, AV.flat, hb, get_app hb, read_get hb, read_app hb, astore_get hb, astore_app hb, get_set hb, get_set_app hb, read_set hb, read_set_app hb, astore_set hb, astore_set_app hb, List.set_set, hget0s, hgetks, hread0s, hreadks, List.length_set, *, -hK] | with_reducible refine IfB_dec (fun h => ?_) (fun h => ?_) | with_reducible refine Guard_dec (fun h => ?_) (fun h => ?_) | with_reducible refine Guard_ndec (fun h => ?_) (fun h => ?_) | with_reducible refine Guard_not (fun h => ?_) (fun h => ?_) | with_reducible refine IfB_ndec (fun h => ?_) (fun h => ?_) | with_reducible refine IfB_not (fun h => ?_) (fun h => ?_) | with_reducible refine Guard_split (fun h => ?_) (fun h => ?_) | with_reducible refine IfB_split (fun h => ?_) (fun h => ?_))
    exact hK _ _ ⟨rfl, rfl⟩
  | cons x l =>
    have e : byteS ⟨x :: l, bad⟩ = (x, ⟨l, bad⟩) := rfl
    rw [e] at hK
    have hn : ¬ ((x :: l).length : Int) = 0 := by simp; omega
    have e1 : aindexAddr T 30 (Enc.u8.lst (x :: l)) (.int .i64 0) = some (.cptr (Enc.u8.cells x)) := at_enc (E := Enc.u8) (T := T) (xs := x :: l) se30 (i := 0) (by simp) (k := .i64) (z := 0) rfl
    have s0 : ∀ J, aslice T J 30 (Enc.u8.lst (x :: l)) (some (.int .i64 1)) none none = some (Enc.u8.lst l) := fun J => by
      have := slice_enc (H := J) (E := Enc.u8) (xs := x :: l) (l := 1) (u := (x :: l).length) (lo := some (.int .i64 1)) (hi := none) se30 (abound_nat 1 rfl) rfl (by simp) (by simp)
      rw [List.take_length] at this
      exact this
    generalize hg : (x :: l) = xl at *
    refine WC_of_body hT Try.func47 rfl (by simp [Try.f47]) (by simp [Try.f47]) (wx_sound hT _ ?_)
    simp only [Try.f47]
    repeat' (first | simp only [go_sem, Nat.reduceLT, Nat.reduceEqDiff, Nat.reduceAdd, Nat.reduceMul, Nat.reduceSub, Nat.reduceLeDiff, Int.reduceToNat, Int.reduceNeg, Int.reduceLT, Int.reduceLE, Int.reduceEq, reduceCtorEq, Int.natCast_zero, Int.natCast_one, Int.cast_ofNat_Int, Bool.not_not, false_eq_decide, true_eq_decide, hread0, hreadk, read_cons0, read_consk, astore_h0, astore_hk, hget0, hgetk, hset0, hsetk, hlen, hcat, Nat.add_assoc, Nat.add_zero, Nat.zero_add, List.length_append, and_true, true_and, AV.flat, hb, get_app hb, read_get hb, read_app hb, astore_get hb, astore_app hb, get_set hb, get_set_app hb, read_set hb, read_set_app hb, astore_set hb, astore_set_app hb, List.set_set, hget0s, hgetks, hread0s, hreadks, List.length_set, u8_cells, *, -hK, -hg] | with_reducible refine IfB_dec (fun h => ?_) (fun h => ?_) | with_reducible refine Guard_dec (fun h => ?_) (fun h => ?_) | with_reducible refine Guard_ndec (fun h => ?_) (fun h => ?_) | with_reducible refine Guard_not (fun h => ?_) (fun h => ?_) | with_reducible refine IfB_ndec (fun h => ?_) (fun h => ?_) | with_reducible refine IfB_not (fun h => ?_) (fun h => ?_) | with_reducible refine Guard_split (fun h => ?_) (fun h => ?_) | with_reducible refine IfB_split (fun h => ?_) (fun h => ?_))
    exact hK _ _ ⟨rfl, rfl⟩
end Go.Proofs.Ytakmlfbejbelaaa
