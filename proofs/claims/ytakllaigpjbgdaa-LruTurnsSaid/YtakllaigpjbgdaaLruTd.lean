import Derived.Test.YtakllaigpjbgdaaPiU
import Derived.Test.YtakllaigpjbgdaaPiQ
import Derived.Test.YtakllaigpjbgdaaProg
set_option linter.unusedSimpArgs false
/-! Each type of the translation as a row. Written by wip/gen/td.py. -/
namespace Go.Proofs.Ytakllaigpjbgdaa
open Go.Proofs.PI
noncomputable abbrev T := tdOf Try.prog
@[go_sem] theorem td0 : tdOf Try.prog 0 = some ⟨.other, 1, 0, [.junk], false⟩ := by kernel_rfl
@[go_sem] theorem td1 : tdOf Try.prog 1 = some ⟨.func, 1, 8, [.nilf], false⟩ := by kernel_rfl
@[go_sem] theorem td2 : tdOf Try.prog 2 = some ⟨.int .i64, 1, 8, [.int .i64 0], false⟩ := by kernel_rfl
@[go_sem] theorem td3 : tdOf Try.prog 3 = some ⟨.int .i64, 1, 8, [.int .i64 0], false⟩ := by kernel_rfl
@[go_sem] theorem td4 : tdOf Try.prog 4 = some ⟨.bool, 1, 1, [.bool false], false⟩ := by kernel_rfl
@[go_sem] theorem td5 : tdOf Try.prog 5 = some ⟨.int .u8, 1, 1, [.int .u8 0], false⟩ := by kernel_rfl
@[go_sem] theorem td6 : tdOf Try.prog 6 = some ⟨.int .u8, 1, 1, [.int .u8 0], false⟩ := by kernel_rfl
@[go_sem] theorem td7 : tdOf Try.prog 7 = some ⟨.struct [(0, 2), (1, 3), (2, 4), (3, 6)], 4, 24, [.int .i64 0, .int .i64 0, .bool false, .int .u8 0], true⟩ := by kernel_rfl
@[go_sem] theorem td8 : tdOf Try.prog 8 = some ⟨.struct [(0, 2), (1, 3), (2, 4), (3, 6)], 4, 24, [.int .i64 0, .int .i64 0, .bool false, .int .u8 0], true⟩ := by kernel_rfl
@[go_sem] theorem td9 : tdOf Try.prog 9 = some ⟨.str, 1, 16, [.str []], false⟩ := by kernel_rfl
@[go_sem] theorem td10 : tdOf Try.prog 10 = some ⟨.str, 1, 16, [.str []], false⟩ := by kernel_rfl
@[go_sem] theorem td11 : tdOf Try.prog 11 = some ⟨.str, 1, 16, [.str []], false⟩ := by kernel_rfl
@[go_sem] theorem td12 : tdOf Try.prog 12 = some ⟨.int .u64, 1, 8, [.int .u64 0], false⟩ := by kernel_rfl
@[go_sem] theorem td13 : tdOf Try.prog 13 = some ⟨.struct [(0, 9), (1, 12)], 2, 24, [.str [], .int .u64 0], false⟩ := by kernel_rfl
@[go_sem] theorem td14 : tdOf Try.prog 14 = some ⟨.struct [(0, 9), (1, 12)], 2, 24, [.str [], .int .u64 0], false⟩ := by kernel_rfl
@[go_sem] theorem td15 : tdOf Try.prog 15 = some ⟨.ptr 77, 1, 8, [.nilp], false⟩ := by kernel_rfl
@[go_sem] theorem td16 : tdOf Try.prog 16 = some ⟨.ptr 80, 1, 8, [.nilp], false⟩ := by kernel_rfl
@[go_sem] theorem td17 : tdOf Try.prog 17 = some ⟨.ptr 90, 1, 8, [.nilp], false⟩ := by kernel_rfl
@[go_sem] theorem td18 : tdOf Try.prog 18 = some ⟨.struct [(0, 17)], 1, 8, [.nilp], false⟩ := by kernel_rfl
@[go_sem] theorem td19 : tdOf Try.prog 19 = some ⟨.struct [(0, 17)], 1, 8, [.nilp], false⟩ := by kernel_rfl
@[go_sem] theorem td20 : tdOf Try.prog 20 = some ⟨.other, 1, 16, [.junk], false⟩ := by kernel_rfl
@[go_sem] theorem td21 : tdOf Try.prog 21 = some ⟨.int .i32, 1, 4, [.int .i32 0], false⟩ := by kernel_rfl
@[go_sem] theorem td22 : tdOf Try.prog 22 = some ⟨.slice 9, 1, 24, [.nils], false⟩ := by kernel_rfl
@[go_sem] theorem td23 : tdOf Try.prog 23 = some ⟨.struct [(0, 22), (1, 22)], 2, 48, [.nils, .nils], true⟩ := by kernel_rfl
@[go_sem] theorem td24 : tdOf Try.prog 24 = some ⟨.struct [(0, 22), (1, 22)], 2, 48, [.nils, .nils], true⟩ := by kernel_rfl
@[go_sem] theorem td25 : tdOf Try.prog 25 = some ⟨.func, 1, 8, [.nilf], false⟩ := by kernel_rfl
@[go_sem] theorem td26 : tdOf Try.prog 26 = some ⟨.func, 1, 8, [.nilf], false⟩ := by kernel_rfl
@[go_sem] theorem td27 : tdOf Try.prog 27 = some ⟨.int .i64, 1, 8, [.int .i64 0], false⟩ := by kernel_rfl
@[go_sem] theorem td28 : tdOf Try.prog 28 = some ⟨.func, 1, 8, [.nilf], false⟩ := by kernel_rfl
@[go_sem] theorem td29 : tdOf Try.prog 29 = some ⟨.other, 1, 0, [.junk], false⟩ := by kernel_rfl
@[go_sem] theorem td30 : tdOf Try.prog 30 = some ⟨.func, 1, 8, [.nilf], false⟩ := by kernel_rfl
@[go_sem] theorem td31 : tdOf Try.prog 31 = some ⟨.func, 1, 8, [.nilf], false⟩ := by kernel_rfl
@[go_sem] theorem td32 : tdOf Try.prog 32 = some ⟨.func, 1, 8, [.nilf], false⟩ := by kernel_rfl
@[go_sem] theorem td33 : tdOf Try.prog 33 = some ⟨.other, 1, 0, [.junk], false⟩ := by kernel_rfl
@[go_sem] theorem td34 : tdOf Try.prog 34 = some ⟨.func, 1, 8, [.nilf], false⟩ := by kernel_rfl
@[go_sem] theorem td35 : tdOf Try.prog 35 = some ⟨.func, 1, 8, [.nilf], false⟩ := by kernel_rfl
@[go_sem] theorem td36 : tdOf Try.prog 36 = some ⟨.other, 1, 0, [.junk], false⟩ := by kernel_rfl
@[go_sem] theorem td37 : tdOf Try.prog 37 = some ⟨.func, 1, 8, [.nilf], false⟩ := by kernel_rfl
@[go_sem] theorem td38 : tdOf Try.prog 38 = some ⟨.other, 1, 0, [.junk], false⟩ := by kernel_rfl
@[go_sem] theorem td39 : tdOf Try.prog 39 = some ⟨.func, 1, 8, [.nilf], false⟩ := by kernel_rfl
@[go_sem] theorem td40 : tdOf Try.prog 40 = some ⟨.func, 1, 8, [.nilf], false⟩ := by kernel_rfl
@[go_sem] theorem td41 : tdOf Try.prog 41 = some ⟨.func, 1, 8, [.nilf], false⟩ := by kernel_rfl
@[go_sem] theorem td42 : tdOf Try.prog 42 = some ⟨.func, 1, 8, [.nilf], false⟩ := by kernel_rfl
@[go_sem] theorem td43 : tdOf Try.prog 43 = some ⟨.func, 1, 8, [.nilf], false⟩ := by kernel_rfl
@[go_sem] theorem td44 : tdOf Try.prog 44 = some ⟨.other, 1, 0, [.junk], false⟩ := by kernel_rfl
@[go_sem] theorem td45 : tdOf Try.prog 45 = some ⟨.func, 1, 8, [.nilf], false⟩ := by kernel_rfl
@[go_sem] theorem td46 : tdOf Try.prog 46 = some ⟨.other, 1, 0, [.junk], false⟩ := by kernel_rfl
@[go_sem] theorem td47 : tdOf Try.prog 47 = some ⟨.func, 1, 8, [.nilf], false⟩ := by kernel_rfl
@[go_sem] theorem td48 : tdOf Try.prog 48 = some ⟨.other, 1, 0, [.junk], false⟩ := by kernel_rfl
@[go_sem] theorem td49 : tdOf Try.prog 49 = some ⟨.func, 1, 8, [.nilf], false⟩ := by kernel_rfl
@[go_sem] theorem td50 : tdOf Try.prog 50 = some ⟨.func, 1, 8, [.nilf], false⟩ := by kernel_rfl
@[go_sem] theorem td51 : tdOf Try.prog 51 = some ⟨.func, 1, 8, [.nilf], false⟩ := by kernel_rfl
@[go_sem] theorem td52 : tdOf Try.prog 52 = some ⟨.other, 1, 8, [.junk], false⟩ := by kernel_rfl
@[go_sem] theorem td53 : tdOf Try.prog 53 = some ⟨.slice 22, 1, 24, [.nils], false⟩ := by kernel_rfl
@[go_sem] theorem td54 : tdOf Try.prog 54 = some ⟨.func, 1, 8, [.nilf], false⟩ := by kernel_rfl
@[go_sem] theorem td55 : tdOf Try.prog 55 = some ⟨.other, 1, 0, [.junk], false⟩ := by kernel_rfl
@[go_sem] theorem td56 : tdOf Try.prog 56 = some ⟨.func, 1, 8, [.nilf], false⟩ := by kernel_rfl
@[go_sem] theorem td57 : tdOf Try.prog 57 = some ⟨.func, 1, 8, [.nilf], false⟩ := by kernel_rfl
@[go_sem] theorem td58 : tdOf Try.prog 58 = some ⟨.func, 1, 8, [.nilf], false⟩ := by kernel_rfl
@[go_sem] theorem td59 : tdOf Try.prog 59 = some ⟨.ptr 24, 1, 8, [.nilp], false⟩ := by kernel_rfl
@[go_sem] theorem td60 : tdOf Try.prog 60 = some ⟨.func, 1, 8, [.nilf], false⟩ := by kernel_rfl
@[go_sem] theorem td61 : tdOf Try.prog 61 = some ⟨.other, 1, 0, [.junk], false⟩ := by kernel_rfl
@[go_sem] theorem td62 : tdOf Try.prog 62 = some ⟨.func, 1, 8, [.nilf], false⟩ := by kernel_rfl
@[go_sem] theorem td63 : tdOf Try.prog 63 = some ⟨.func, 1, 8, [.nilf], false⟩ := by kernel_rfl
@[go_sem] theorem td64 : tdOf Try.prog 64 = some ⟨.func, 1, 8, [.nilf], false⟩ := by kernel_rfl
@[go_sem] theorem td65 : tdOf Try.prog 65 = some ⟨.func, 1, 8, [.nilf], false⟩ := by kernel_rfl
@[go_sem] theorem td66 : tdOf Try.prog 66 = some ⟨.func, 1, 8, [.nilf], false⟩ := by kernel_rfl
@[go_sem] theorem td67 : tdOf Try.prog 67 = some ⟨.func, 1, 8, [.nilf], false⟩ := by kernel_rfl
@[go_sem] theorem td68 : tdOf Try.prog 68 = some ⟨.func, 1, 8, [.nilf], false⟩ := by kernel_rfl
@[go_sem] theorem td69 : tdOf Try.prog 69 = some ⟨.ptr 22, 1, 8, [.nilp], false⟩ := by kernel_rfl
@[go_sem] theorem td70 : tdOf Try.prog 70 = some ⟨.slice 69, 1, 24, [.nils], false⟩ := by kernel_rfl
@[go_sem] theorem td71 : tdOf Try.prog 71 = some ⟨.func, 1, 8, [.nilf], false⟩ := by kernel_rfl
@[go_sem] theorem td72 : tdOf Try.prog 72 = some ⟨.func, 1, 8, [.nilf], false⟩ := by kernel_rfl
@[go_sem] theorem td73 : tdOf Try.prog 73 = some ⟨.func, 1, 8, [.nilf], false⟩ := by kernel_rfl
@[go_sem] theorem td74 : tdOf Try.prog 74 = some ⟨.func, 1, 8, [.nilf], false⟩ := by kernel_rfl
@[go_sem] theorem td75 : tdOf Try.prog 75 = some ⟨.func, 1, 8, [.nilf], false⟩ := by kernel_rfl
@[go_sem] theorem td76 : tdOf Try.prog 76 = some ⟨.struct [(0, 17), (1, 17), (2, 17), (3, 9)], 4, 40, [.nilp, .nilp, .nilp, .str []], false⟩ := by kernel_rfl
@[go_sem] theorem td77 : tdOf Try.prog 77 = some ⟨.struct [(0, 17), (1, 17), (2, 17), (3, 9)], 4, 40, [.nilp, .nilp, .nilp, .str []], false⟩ := by kernel_rfl
@[go_sem] theorem td78 : tdOf Try.prog 78 = some ⟨.other, 0, 0, [], false⟩ := by kernel_rfl
@[go_sem] theorem td79 : tdOf Try.prog 79 = some ⟨.struct [(0, 78)], 0, 0, [], false⟩ := by kernel_rfl
@[go_sem] theorem td80 : tdOf Try.prog 80 = some ⟨.struct [(0, 78)], 0, 0, [], false⟩ := by kernel_rfl
@[go_sem] theorem td81 : tdOf Try.prog 81 = some ⟨.func, 1, 8, [.nilf], false⟩ := by kernel_rfl
@[go_sem] theorem td82 : tdOf Try.prog 82 = some ⟨.int .u32, 1, 4, [.int .u32 0], false⟩ := by kernel_rfl
@[go_sem] theorem td83 : tdOf Try.prog 83 = some ⟨.int .u8, 1, 1, [.int .u8 0], false⟩ := by kernel_rfl
@[go_sem] theorem td84 : tdOf Try.prog 84 = some ⟨.int .u8, 1, 1, [.int .u8 0], false⟩ := by kernel_rfl
@[go_sem] theorem td85 : tdOf Try.prog 85 = some ⟨.func, 1, 8, [.nilf], false⟩ := by kernel_rfl
@[go_sem] theorem td86 : tdOf Try.prog 86 = some ⟨.ptr 5, 1, 8, [.nilp], false⟩ := by kernel_rfl
@[go_sem] theorem td87 : tdOf Try.prog 87 = some ⟨.int .i32, 1, 4, [.int .i32 0], false⟩ := by kernel_rfl
@[go_sem] theorem td88 : tdOf Try.prog 88 = some ⟨.int .i32, 1, 4, [.int .i32 0], false⟩ := by kernel_rfl
@[go_sem] theorem td89 : tdOf Try.prog 89 = some ⟨.struct [(0, 12), (1, 12), (2, 82), (3, 83), (4, 5), (5, 5), (6, 84), (7, 85), (8, 86), (9, 87), (10, 88)], 11, 48, [.int .u64 0, .int .u64 0, .int .u32 0, .int .u8 0, .int .u8 0, .int .u8 0, .int .u8 0, .nilf, .nilp, .int .i32 0, .int .i32 0], false⟩ := by kernel_rfl
@[go_sem] theorem td90 : tdOf Try.prog 90 = some ⟨.struct [(0, 12), (1, 12), (2, 82), (3, 83), (4, 5), (5, 5), (6, 84), (7, 85), (8, 86), (9, 87), (10, 88)], 11, 48, [.int .u64 0, .int .u64 0, .int .u32 0, .int .u8 0, .int .u8 0, .int .u8 0, .int .u8 0, .nilf, .nilp, .int .i32 0, .int .i32 0], false⟩ := by kernel_rfl
@[go_sem] theorem td91 : tdOf Try.prog 91 = some ⟨.other, 1, 8, [.nilp], false⟩ := by kernel_rfl
theorem tk0 : tk T 0 = .other := by simp only [tk, td0]
theorem az1 : azero T 1 = some [.nilf] := by simp [azero, td1, AV.one]
theorem tk1 : tk T 1 = .func := by simp only [tk, td1]
theorem az2 : azero T 2 = some [.int .i64 0] := by simp [azero, td2, AV.one]
theorem tk2 : tk T 2 = .int .i64 := by simp only [tk, td2]
theorem az3 : azero T 3 = some [.int .i64 0] := by simp [azero, td3, AV.one]
theorem tk3 : tk T 3 = .int .i64 := by simp only [tk, td3]
theorem az4 : azero T 4 = some [.bool false] := by simp [azero, td4, AV.one]
theorem tk4 : tk T 4 = .bool := by simp only [tk, td4]
theorem az5 : azero T 5 = some [.int .u8 0] := by simp [azero, td5, AV.one]
theorem tk5 : tk T 5 = .int .u8 := by simp only [tk, td5]
theorem az6 : azero T 6 = some [.int .u8 0] := by simp [azero, td6, AV.one]
theorem tk6 : tk T 6 = .int .u8 := by simp only [tk, td6]
theorem az7 : azero T 7 = some [.int .i64 0, .int .i64 0, .bool false, .int .u8 0] := by simp [azero, td7, AV.one]
theorem tk7 : tk T 7 = .struct [(0, 2), (1, 3), (2, 4), (3, 6)] := by simp only [tk, td7]
theorem az8 : azero T 8 = some [.int .i64 0, .int .i64 0, .bool false, .int .u8 0] := by simp [azero, td8, AV.one]
theorem tk8 : tk T 8 = .struct [(0, 2), (1, 3), (2, 4), (3, 6)] := by simp only [tk, td8]
theorem az9 : azero T 9 = some [.str []] := by simp [azero, td9, AV.one]
theorem tk9 : tk T 9 = .str := by simp only [tk, td9]
theorem az10 : azero T 10 = some [.str []] := by simp [azero, td10, AV.one]
theorem tk10 : tk T 10 = .str := by simp only [tk, td10]
theorem az11 : azero T 11 = some [.str []] := by simp [azero, td11, AV.one]
theorem tk11 : tk T 11 = .str := by simp only [tk, td11]
theorem az12 : azero T 12 = some [.int .u64 0] := by simp [azero, td12, AV.one]
theorem tk12 : tk T 12 = .int .u64 := by simp only [tk, td12]
theorem az13 : azero T 13 = some [.str [], .int .u64 0] := by simp [azero, td13, AV.one]
theorem tk13 : tk T 13 = .struct [(0, 9), (1, 12)] := by simp only [tk, td13]
theorem az14 : azero T 14 = some [.str [], .int .u64 0] := by simp [azero, td14, AV.one]
theorem tk14 : tk T 14 = .struct [(0, 9), (1, 12)] := by simp only [tk, td14]
theorem az15 : azero T 15 = some [.nilp] := by simp [azero, td15, AV.one]
theorem tk15 : tk T 15 = .ptr 77 := by simp only [tk, td15]
theorem az16 : azero T 16 = some [.nilp] := by simp [azero, td16, AV.one]
theorem tk16 : tk T 16 = .ptr 80 := by simp only [tk, td16]
theorem az17 : azero T 17 = some [.nilp] := by simp [azero, td17, AV.one]
theorem tk17 : tk T 17 = .ptr 90 := by simp only [tk, td17]
theorem az18 : azero T 18 = some [.nilp] := by simp [azero, td18, AV.one]
theorem tk18 : tk T 18 = .struct [(0, 17)] := by simp only [tk, td18]
theorem az19 : azero T 19 = some [.nilp] := by simp [azero, td19, AV.one]
theorem tk19 : tk T 19 = .struct [(0, 17)] := by simp only [tk, td19]
theorem tk20 : tk T 20 = .other := by simp only [tk, td20]
theorem az21 : azero T 21 = some [.int .i32 0] := by simp [azero, td21, AV.one]
theorem tk21 : tk T 21 = .int .i32 := by simp only [tk, td21]
theorem se22 : asliceElem T 22 = some (9, 1) := by simp only [asliceElem, tk, asize, td22, td9, Option.map_some]
theorem az22 : azero T 22 = some [.nils] := by simp [azero, td22, AV.one]
theorem tk22 : tk T 22 = .slice 9 := by simp only [tk, td22]
theorem az23 : azero T 23 = some [.nils, .nils] := by simp [azero, td23, AV.one]
theorem tk23 : tk T 23 = .struct [(0, 22), (1, 22)] := by simp only [tk, td23]
theorem az24 : azero T 24 = some [.nils, .nils] := by simp [azero, td24, AV.one]
theorem tk24 : tk T 24 = .struct [(0, 22), (1, 22)] := by simp only [tk, td24]
theorem az25 : azero T 25 = some [.nilf] := by simp [azero, td25, AV.one]
theorem tk25 : tk T 25 = .func := by simp only [tk, td25]
theorem az26 : azero T 26 = some [.nilf] := by simp [azero, td26, AV.one]
theorem tk26 : tk T 26 = .func := by simp only [tk, td26]
theorem az27 : azero T 27 = some [.int .i64 0] := by simp [azero, td27, AV.one]
theorem tk27 : tk T 27 = .int .i64 := by simp only [tk, td27]
theorem az28 : azero T 28 = some [.nilf] := by simp [azero, td28, AV.one]
theorem tk28 : tk T 28 = .func := by simp only [tk, td28]
theorem tk29 : tk T 29 = .other := by simp only [tk, td29]
theorem az30 : azero T 30 = some [.nilf] := by simp [azero, td30, AV.one]
theorem tk30 : tk T 30 = .func := by simp only [tk, td30]
theorem az31 : azero T 31 = some [.nilf] := by simp [azero, td31, AV.one]
theorem tk31 : tk T 31 = .func := by simp only [tk, td31]
theorem az32 : azero T 32 = some [.nilf] := by simp [azero, td32, AV.one]
theorem tk32 : tk T 32 = .func := by simp only [tk, td32]
theorem tk33 : tk T 33 = .other := by simp only [tk, td33]
theorem az34 : azero T 34 = some [.nilf] := by simp [azero, td34, AV.one]
theorem tk34 : tk T 34 = .func := by simp only [tk, td34]
theorem az35 : azero T 35 = some [.nilf] := by simp [azero, td35, AV.one]
theorem tk35 : tk T 35 = .func := by simp only [tk, td35]
theorem tk36 : tk T 36 = .other := by simp only [tk, td36]
theorem az37 : azero T 37 = some [.nilf] := by simp [azero, td37, AV.one]
theorem tk37 : tk T 37 = .func := by simp only [tk, td37]
theorem tk38 : tk T 38 = .other := by simp only [tk, td38]
theorem az39 : azero T 39 = some [.nilf] := by simp [azero, td39, AV.one]
theorem tk39 : tk T 39 = .func := by simp only [tk, td39]
theorem az40 : azero T 40 = some [.nilf] := by simp [azero, td40, AV.one]
theorem tk40 : tk T 40 = .func := by simp only [tk, td40]
theorem az41 : azero T 41 = some [.nilf] := by simp [azero, td41, AV.one]
theorem tk41 : tk T 41 = .func := by simp only [tk, td41]
theorem az42 : azero T 42 = some [.nilf] := by simp [azero, td42, AV.one]
theorem tk42 : tk T 42 = .func := by simp only [tk, td42]
theorem az43 : azero T 43 = some [.nilf] := by simp [azero, td43, AV.one]
theorem tk43 : tk T 43 = .func := by simp only [tk, td43]
theorem tk44 : tk T 44 = .other := by simp only [tk, td44]
theorem az45 : azero T 45 = some [.nilf] := by simp [azero, td45, AV.one]
theorem tk45 : tk T 45 = .func := by simp only [tk, td45]
theorem tk46 : tk T 46 = .other := by simp only [tk, td46]
theorem az47 : azero T 47 = some [.nilf] := by simp [azero, td47, AV.one]
theorem tk47 : tk T 47 = .func := by simp only [tk, td47]
theorem tk48 : tk T 48 = .other := by simp only [tk, td48]
theorem az49 : azero T 49 = some [.nilf] := by simp [azero, td49, AV.one]
theorem tk49 : tk T 49 = .func := by simp only [tk, td49]
theorem az50 : azero T 50 = some [.nilf] := by simp [azero, td50, AV.one]
theorem tk50 : tk T 50 = .func := by simp only [tk, td50]
theorem az51 : azero T 51 = some [.nilf] := by simp [azero, td51, AV.one]
theorem tk51 : tk T 51 = .func := by simp only [tk, td51]
theorem tk52 : tk T 52 = .other := by simp only [tk, td52]
theorem se53 : asliceElem T 53 = some (22, 1) := by simp only [asliceElem, tk, asize, td53, td22, Option.map_some]
theorem az53 : azero T 53 = some [.nils] := by simp [azero, td53, AV.one]
theorem tk53 : tk T 53 = .slice 22 := by simp only [tk, td53]
theorem az54 : azero T 54 = some [.nilf] := by simp [azero, td54, AV.one]
theorem tk54 : tk T 54 = .func := by simp only [tk, td54]
theorem tk55 : tk T 55 = .other := by simp only [tk, td55]
theorem az56 : azero T 56 = some [.nilf] := by simp [azero, td56, AV.one]
theorem tk56 : tk T 56 = .func := by simp only [tk, td56]
theorem az57 : azero T 57 = some [.nilf] := by simp [azero, td57, AV.one]
theorem tk57 : tk T 57 = .func := by simp only [tk, td57]
theorem az58 : azero T 58 = some [.nilf] := by simp [azero, td58, AV.one]
theorem tk58 : tk T 58 = .func := by simp only [tk, td58]
theorem az59 : azero T 59 = some [.nilp] := by simp [azero, td59, AV.one]
theorem tk59 : tk T 59 = .ptr 24 := by simp only [tk, td59]
theorem az60 : azero T 60 = some [.nilf] := by simp [azero, td60, AV.one]
theorem tk60 : tk T 60 = .func := by simp only [tk, td60]
theorem tk61 : tk T 61 = .other := by simp only [tk, td61]
theorem az62 : azero T 62 = some [.nilf] := by simp [azero, td62, AV.one]
theorem tk62 : tk T 62 = .func := by simp only [tk, td62]
theorem az63 : azero T 63 = some [.nilf] := by simp [azero, td63, AV.one]
theorem tk63 : tk T 63 = .func := by simp only [tk, td63]
theorem az64 : azero T 64 = some [.nilf] := by simp [azero, td64, AV.one]
theorem tk64 : tk T 64 = .func := by simp only [tk, td64]
theorem az65 : azero T 65 = some [.nilf] := by simp [azero, td65, AV.one]
theorem tk65 : tk T 65 = .func := by simp only [tk, td65]
theorem az66 : azero T 66 = some [.nilf] := by simp [azero, td66, AV.one]
theorem tk66 : tk T 66 = .func := by simp only [tk, td66]
theorem az67 : azero T 67 = some [.nilf] := by simp [azero, td67, AV.one]
theorem tk67 : tk T 67 = .func := by simp only [tk, td67]
theorem az68 : azero T 68 = some [.nilf] := by simp [azero, td68, AV.one]
theorem tk68 : tk T 68 = .func := by simp only [tk, td68]
theorem az69 : azero T 69 = some [.nilp] := by simp [azero, td69, AV.one]
theorem tk69 : tk T 69 = .ptr 22 := by simp only [tk, td69]
theorem se70 : asliceElem T 70 = some (69, 1) := by simp only [asliceElem, tk, asize, td70, td69, Option.map_some]
theorem az70 : azero T 70 = some [.nils] := by simp [azero, td70, AV.one]
theorem tk70 : tk T 70 = .slice 69 := by simp only [tk, td70]
theorem az71 : azero T 71 = some [.nilf] := by simp [azero, td71, AV.one]
theorem tk71 : tk T 71 = .func := by simp only [tk, td71]
theorem az72 : azero T 72 = some [.nilf] := by simp [azero, td72, AV.one]
theorem tk72 : tk T 72 = .func := by simp only [tk, td72]
theorem az73 : azero T 73 = some [.nilf] := by simp [azero, td73, AV.one]
theorem tk73 : tk T 73 = .func := by simp only [tk, td73]
theorem az74 : azero T 74 = some [.nilf] := by simp [azero, td74, AV.one]
theorem tk74 : tk T 74 = .func := by simp only [tk, td74]
theorem az75 : azero T 75 = some [.nilf] := by simp [azero, td75, AV.one]
theorem tk75 : tk T 75 = .func := by simp only [tk, td75]
theorem az76 : azero T 76 = some [.nilp, .nilp, .nilp, .str []] := by simp [azero, td76, AV.one]
theorem tk76 : tk T 76 = .struct [(0, 17), (1, 17), (2, 17), (3, 9)] := by simp only [tk, td76]
theorem az77 : azero T 77 = some [.nilp, .nilp, .nilp, .str []] := by simp [azero, td77, AV.one]
theorem tk77 : tk T 77 = .struct [(0, 17), (1, 17), (2, 17), (3, 9)] := by simp only [tk, td77]
theorem tk78 : tk T 78 = .other := by simp only [tk, td78]
theorem az79 : azero T 79 = some [] := by simp [azero, td79, AV.one]
theorem tk79 : tk T 79 = .struct [(0, 78)] := by simp only [tk, td79]
theorem az80 : azero T 80 = some [] := by simp [azero, td80, AV.one]
theorem tk80 : tk T 80 = .struct [(0, 78)] := by simp only [tk, td80]
theorem az81 : azero T 81 = some [.nilf] := by simp [azero, td81, AV.one]
theorem tk81 : tk T 81 = .func := by simp only [tk, td81]
theorem az82 : azero T 82 = some [.int .u32 0] := by simp [azero, td82, AV.one]
theorem tk82 : tk T 82 = .int .u32 := by simp only [tk, td82]
theorem az83 : azero T 83 = some [.int .u8 0] := by simp [azero, td83, AV.one]
theorem tk83 : tk T 83 = .int .u8 := by simp only [tk, td83]
theorem az84 : azero T 84 = some [.int .u8 0] := by simp [azero, td84, AV.one]
theorem tk84 : tk T 84 = .int .u8 := by simp only [tk, td84]
theorem az85 : azero T 85 = some [.nilf] := by simp [azero, td85, AV.one]
theorem tk85 : tk T 85 = .func := by simp only [tk, td85]
theorem az86 : azero T 86 = some [.nilp] := by simp [azero, td86, AV.one]
theorem tk86 : tk T 86 = .ptr 5 := by simp only [tk, td86]
theorem az87 : azero T 87 = some [.int .i32 0] := by simp [azero, td87, AV.one]
theorem tk87 : tk T 87 = .int .i32 := by simp only [tk, td87]
theorem az88 : azero T 88 = some [.int .i32 0] := by simp [azero, td88, AV.one]
theorem tk88 : tk T 88 = .int .i32 := by simp only [tk, td88]
theorem az89 : azero T 89 = some [.int .u64 0, .int .u64 0, .int .u32 0, .int .u8 0, .int .u8 0, .int .u8 0, .int .u8 0, .nilf, .nilp, .int .i32 0, .int .i32 0] := by simp [azero, td89, AV.one]
theorem tk89 : tk T 89 = .struct [(0, 12), (1, 12), (2, 82), (3, 83), (4, 5), (5, 5), (6, 84), (7, 85), (8, 86), (9, 87), (10, 88)] := by simp only [tk, td89]
theorem az90 : azero T 90 = some [.int .u64 0, .int .u64 0, .int .u32 0, .int .u8 0, .int .u8 0, .int .u8 0, .int .u8 0, .nilf, .nilp, .int .i32 0, .int .i32 0] := by simp [azero, td90, AV.one]
theorem tk90 : tk T 90 = .struct [(0, 12), (1, 12), (2, 82), (3, 83), (4, 5), (5, 5), (6, 84), (7, 85), (8, 86), (9, 87), (10, 88)] := by simp only [tk, td90]
theorem tk91 : tk T 91 = .other := by simp only [tk, td91]
theorem hmix : Try.prog.follows .mixedOrders = true := by kernel_rfl
theorem hT : TOk Try.prog T := fun _ _ h => h
end Go.Proofs.Ytakllaigpjbgdaa
