import Derived.Test.YtkmkhiipiflelaaPiU
import Derived.Test.YtkmkhiipiflelaaPiQ
import Derived.Test.YtkmkhiipiflelaaProg
set_option linter.unusedSimpArgs false
/-! Each type of the translation as a row. Written by wip/gen/td.py. -/
namespace Go.Proofs.Ytkmkhiipiflelaa
open Go.Proofs.PI
noncomputable abbrev T := tdOf Try.prog
@[go_sem] theorem td0 : tdOf Try.prog 0 = some ⟨.other, 1, 0, [.junk], false⟩ := by kernel_rfl
@[go_sem] theorem td1 : tdOf Try.prog 1 = some ⟨.func, 1, 8, [.nilf], false⟩ := by kernel_rfl
@[go_sem] theorem td2 : tdOf Try.prog 2 = some ⟨.int .i64, 1, 8, [.int .i64 0], false⟩ := by kernel_rfl
@[go_sem] theorem td3 : tdOf Try.prog 3 = some ⟨.int .i64, 1, 8, [.int .i64 0], false⟩ := by kernel_rfl
@[go_sem] theorem td4 : tdOf Try.prog 4 = some ⟨.bool, 1, 1, [.bool false], false⟩ := by kernel_rfl
@[go_sem] theorem td5 : tdOf Try.prog 5 = some ⟨.int .u8, 1, 1, [.int .u8 0], false⟩ := by kernel_rfl
@[go_sem] theorem td6 : tdOf Try.prog 6 = some ⟨.int .u8, 1, 1, [.int .u8 0], false⟩ := by kernel_rfl
@[go_sem] theorem td7 : tdOf Try.prog 7 = some ⟨.struct [(0, 2), (1, 3), (2, 4), (3, 6)], 4, 24, [.int .i64 0, .int .i64 0, .bool false, .int .u8 0], true⟩ := by kernel_rfl
@[go_sem] theorem td8 : tdOf Try.prog 8 = some ⟨.struct [(0, 2), (1, 3), (2, 4), (3, 6)], 4, 24, [.int .i64 0, .int .i64 0, .bool false, .int .u8 0], true⟩ := by kernel_rfl
@[go_sem] theorem td9 : tdOf Try.prog 9 = some ⟨.str, 1, 16, [.str []], false⟩ := by kernel_rfl
@[go_sem] theorem td10 : tdOf Try.prog 10 = some ⟨.str, 1, 16, [.str []], false⟩ := by kernel_rfl
@[go_sem] theorem td11 : tdOf Try.prog 11 = some ⟨.str, 1, 16, [.str []], false⟩ := by kernel_rfl
@[go_sem] theorem td12 : tdOf Try.prog 12 = some ⟨.int .u64, 1, 8, [.int .u64 0], false⟩ := by kernel_rfl
@[go_sem] theorem td13 : tdOf Try.prog 13 = some ⟨.struct [(0, 9), (1, 12)], 2, 24, [.str [], .int .u64 0], false⟩ := by kernel_rfl
@[go_sem] theorem td14 : tdOf Try.prog 14 = some ⟨.struct [(0, 9), (1, 12)], 2, 24, [.str [], .int .u64 0], false⟩ := by kernel_rfl
@[go_sem] theorem td15 : tdOf Try.prog 15 = some ⟨.ptr 103, 1, 8, [.nilp], false⟩ := by kernel_rfl
@[go_sem] theorem td16 : tdOf Try.prog 16 = some ⟨.ptr 106, 1, 8, [.nilp], false⟩ := by kernel_rfl
@[go_sem] theorem td17 : tdOf Try.prog 17 = some ⟨.ptr 115, 1, 8, [.nilp], false⟩ := by kernel_rfl
@[go_sem] theorem td18 : tdOf Try.prog 18 = some ⟨.struct [(0, 17)], 1, 8, [.nilp], false⟩ := by kernel_rfl
@[go_sem] theorem td19 : tdOf Try.prog 19 = some ⟨.struct [(0, 17)], 1, 8, [.nilp], false⟩ := by kernel_rfl
@[go_sem] theorem td20 : tdOf Try.prog 20 = some ⟨.other, 1, 16, [.junk], false⟩ := by kernel_rfl
@[go_sem] theorem td21 : tdOf Try.prog 21 = some ⟨.int .i32, 1, 4, [.int .i32 0], false⟩ := by kernel_rfl
@[go_sem] theorem td22 : tdOf Try.prog 22 = some ⟨.slice 31, 1, 24, [.nils], false⟩ := by kernel_rfl
@[go_sem] theorem td23 : tdOf Try.prog 23 = some ⟨.struct [(0, 3), (1, 22)], 2, 32, [.int .i64 0, .nils], true⟩ := by kernel_rfl
@[go_sem] theorem td24 : tdOf Try.prog 24 = some ⟨.struct [(0, 3), (1, 22)], 2, 32, [.int .i64 0, .nils], true⟩ := by kernel_rfl
@[go_sem] theorem td25 : tdOf Try.prog 25 = some ⟨.func, 1, 8, [.nilf], false⟩ := by kernel_rfl
@[go_sem] theorem td26 : tdOf Try.prog 26 = some ⟨.func, 1, 8, [.nilf], false⟩ := by kernel_rfl
@[go_sem] theorem td27 : tdOf Try.prog 27 = some ⟨.slice 3, 1, 24, [.nils], false⟩ := by kernel_rfl
@[go_sem] theorem td28 : tdOf Try.prog 28 = some ⟨.int .i64, 1, 8, [.int .i64 0], false⟩ := by kernel_rfl
@[go_sem] theorem td29 : tdOf Try.prog 29 = some ⟨.other, 1, 0, [.junk], false⟩ := by kernel_rfl
@[go_sem] theorem td30 : tdOf Try.prog 30 = some ⟨.func, 1, 8, [.nilf], false⟩ := by kernel_rfl
@[go_sem] theorem td31 : tdOf Try.prog 31 = some ⟨.slice 38, 1, 24, [.nils], false⟩ := by kernel_rfl
@[go_sem] theorem td32 : tdOf Try.prog 32 = some ⟨.slice 9, 1, 24, [.nils], false⟩ := by kernel_rfl
@[go_sem] theorem td33 : tdOf Try.prog 33 = some ⟨.int .u32, 1, 4, [.int .u32 0], false⟩ := by kernel_rfl
@[go_sem] theorem td34 : tdOf Try.prog 34 = some ⟨.int .u64, 1, 8, [.int .u64 0], false⟩ := by kernel_rfl
@[go_sem] theorem td35 : tdOf Try.prog 35 = some ⟨.struct [(0, 5), (1, 3), (2, 32), (3, 9), (4, 33), (5, 3), (6, 34), (7, 34)], 8, 88, [.int .u8 0, .int .i64 0, .nils, .str [], .int .u32 0, .int .i64 0, .int .u64 0, .int .u64 0], true⟩ := by kernel_rfl
@[go_sem] theorem td36 : tdOf Try.prog 36 = some ⟨.struct [(0, 5), (1, 3), (2, 32), (3, 9), (4, 33), (5, 3), (6, 34), (7, 34)], 8, 88, [.int .u8 0, .int .i64 0, .nils, .str [], .int .u32 0, .int .i64 0, .int .u64 0, .int .u64 0], true⟩ := by kernel_rfl
@[go_sem] theorem td37 : tdOf Try.prog 37 = some ⟨.struct [(0, 3), (1, 5), (2, 36), (10, 3), (11, 3)], 12, 120, [.int .i64 0, .int .u8 0, .int .u8 0, .int .i64 0, .nils, .str [], .int .u32 0, .int .i64 0, .int .u64 0, .int .u64 0, .int .i64 0, .int .i64 0], true⟩ := by kernel_rfl
@[go_sem] theorem td38 : tdOf Try.prog 38 = some ⟨.struct [(0, 3), (1, 5), (2, 36), (10, 3), (11, 3)], 12, 120, [.int .i64 0, .int .u8 0, .int .u8 0, .int .i64 0, .nils, .str [], .int .u32 0, .int .i64 0, .int .u64 0, .int .u64 0, .int .i64 0, .int .i64 0], true⟩ := by kernel_rfl
@[go_sem] theorem td39 : tdOf Try.prog 39 = some ⟨.other, 1, 0, [.junk], false⟩ := by kernel_rfl
@[go_sem] theorem td40 : tdOf Try.prog 40 = some ⟨.func, 1, 8, [.nilf], false⟩ := by kernel_rfl
@[go_sem] theorem td41 : tdOf Try.prog 41 = some ⟨.other, 1, 0, [.junk], false⟩ := by kernel_rfl
@[go_sem] theorem td42 : tdOf Try.prog 42 = some ⟨.func, 1, 8, [.nilf], false⟩ := by kernel_rfl
@[go_sem] theorem td43 : tdOf Try.prog 43 = some ⟨.func, 1, 8, [.nilf], false⟩ := by kernel_rfl
@[go_sem] theorem td44 : tdOf Try.prog 44 = some ⟨.func, 1, 8, [.nilf], false⟩ := by kernel_rfl
@[go_sem] theorem td45 : tdOf Try.prog 45 = some ⟨.other, 1, 0, [.junk], false⟩ := by kernel_rfl
@[go_sem] theorem td46 : tdOf Try.prog 46 = some ⟨.func, 1, 8, [.nilf], false⟩ := by kernel_rfl
@[go_sem] theorem td47 : tdOf Try.prog 47 = some ⟨.func, 1, 8, [.nilf], false⟩ := by kernel_rfl
@[go_sem] theorem td48 : tdOf Try.prog 48 = some ⟨.func, 1, 8, [.nilf], false⟩ := by kernel_rfl
@[go_sem] theorem td49 : tdOf Try.prog 49 = some ⟨.other, 1, 0, [.junk], false⟩ := by kernel_rfl
@[go_sem] theorem td50 : tdOf Try.prog 50 = some ⟨.func, 1, 8, [.nilf], false⟩ := by kernel_rfl
@[go_sem] theorem td51 : tdOf Try.prog 51 = some ⟨.func, 1, 8, [.nilf], false⟩ := by kernel_rfl
@[go_sem] theorem td52 : tdOf Try.prog 52 = some ⟨.other, 1, 0, [.junk], false⟩ := by kernel_rfl
@[go_sem] theorem td53 : tdOf Try.prog 53 = some ⟨.func, 1, 8, [.nilf], false⟩ := by kernel_rfl
@[go_sem] theorem td54 : tdOf Try.prog 54 = some ⟨.other, 1, 0, [.junk], false⟩ := by kernel_rfl
@[go_sem] theorem td55 : tdOf Try.prog 55 = some ⟨.func, 1, 8, [.nilf], false⟩ := by kernel_rfl
@[go_sem] theorem td56 : tdOf Try.prog 56 = some ⟨.func, 1, 8, [.nilf], false⟩ := by kernel_rfl
@[go_sem] theorem td57 : tdOf Try.prog 57 = some ⟨.other, 1, 0, [.junk], false⟩ := by kernel_rfl
@[go_sem] theorem td58 : tdOf Try.prog 58 = some ⟨.func, 1, 8, [.nilf], false⟩ := by kernel_rfl
@[go_sem] theorem td59 : tdOf Try.prog 59 = some ⟨.func, 1, 8, [.nilf], false⟩ := by kernel_rfl
@[go_sem] theorem td60 : tdOf Try.prog 60 = some ⟨.func, 1, 8, [.nilf], false⟩ := by kernel_rfl
@[go_sem] theorem td61 : tdOf Try.prog 61 = some ⟨.func, 1, 8, [.nilf], false⟩ := by kernel_rfl
@[go_sem] theorem td62 : tdOf Try.prog 62 = some ⟨.func, 1, 8, [.nilf], false⟩ := by kernel_rfl
@[go_sem] theorem td63 : tdOf Try.prog 63 = some ⟨.func, 1, 8, [.nilf], false⟩ := by kernel_rfl
@[go_sem] theorem td64 : tdOf Try.prog 64 = some ⟨.func, 1, 8, [.nilf], false⟩ := by kernel_rfl
@[go_sem] theorem td65 : tdOf Try.prog 65 = some ⟨.func, 1, 8, [.nilf], false⟩ := by kernel_rfl
@[go_sem] theorem td66 : tdOf Try.prog 66 = some ⟨.slice 5, 1, 24, [.nils], false⟩ := by kernel_rfl
@[go_sem] theorem td67 : tdOf Try.prog 67 = some ⟨.func, 1, 8, [.nilf], false⟩ := by kernel_rfl
@[go_sem] theorem td68 : tdOf Try.prog 68 = some ⟨.func, 1, 8, [.nilf], false⟩ := by kernel_rfl
@[go_sem] theorem td69 : tdOf Try.prog 69 = some ⟨.func, 1, 8, [.nilf], false⟩ := by kernel_rfl
@[go_sem] theorem td70 : tdOf Try.prog 70 = some ⟨.func, 1, 8, [.nilf], false⟩ := by kernel_rfl
@[go_sem] theorem td71 : tdOf Try.prog 71 = some ⟨.func, 1, 8, [.nilf], false⟩ := by kernel_rfl
@[go_sem] theorem td72 : tdOf Try.prog 72 = some ⟨.func, 1, 8, [.nilf], false⟩ := by kernel_rfl
@[go_sem] theorem td73 : tdOf Try.prog 73 = some ⟨.func, 1, 8, [.nilf], false⟩ := by kernel_rfl
@[go_sem] theorem td74 : tdOf Try.prog 74 = some ⟨.func, 1, 8, [.nilf], false⟩ := by kernel_rfl
@[go_sem] theorem td75 : tdOf Try.prog 75 = some ⟨.func, 1, 8, [.nilf], false⟩ := by kernel_rfl
@[go_sem] theorem td76 : tdOf Try.prog 76 = some ⟨.func, 1, 8, [.nilf], false⟩ := by kernel_rfl
@[go_sem] theorem td77 : tdOf Try.prog 77 = some ⟨.func, 1, 8, [.nilf], false⟩ := by kernel_rfl
@[go_sem] theorem td78 : tdOf Try.prog 78 = some ⟨.func, 1, 8, [.nilf], false⟩ := by kernel_rfl
@[go_sem] theorem td79 : tdOf Try.prog 79 = some ⟨.func, 1, 8, [.nilf], false⟩ := by kernel_rfl
@[go_sem] theorem td80 : tdOf Try.prog 80 = some ⟨.func, 1, 8, [.nilf], false⟩ := by kernel_rfl
@[go_sem] theorem td81 : tdOf Try.prog 81 = some ⟨.func, 1, 8, [.nilf], false⟩ := by kernel_rfl
@[go_sem] theorem td82 : tdOf Try.prog 82 = some ⟨.func, 1, 8, [.nilf], false⟩ := by kernel_rfl
@[go_sem] theorem td83 : tdOf Try.prog 83 = some ⟨.func, 1, 8, [.nilf], false⟩ := by kernel_rfl
@[go_sem] theorem td84 : tdOf Try.prog 84 = some ⟨.func, 1, 8, [.nilf], false⟩ := by kernel_rfl
@[go_sem] theorem td85 : tdOf Try.prog 85 = some ⟨.func, 1, 8, [.nilf], false⟩ := by kernel_rfl
@[go_sem] theorem td86 : tdOf Try.prog 86 = some ⟨.func, 1, 8, [.nilf], false⟩ := by kernel_rfl
@[go_sem] theorem td87 : tdOf Try.prog 87 = some ⟨.func, 1, 8, [.nilf], false⟩ := by kernel_rfl
@[go_sem] theorem td88 : tdOf Try.prog 88 = some ⟨.func, 1, 8, [.nilf], false⟩ := by kernel_rfl
@[go_sem] theorem td89 : tdOf Try.prog 89 = some ⟨.func, 1, 8, [.nilf], false⟩ := by kernel_rfl
@[go_sem] theorem td90 : tdOf Try.prog 90 = some ⟨.func, 1, 8, [.nilf], false⟩ := by kernel_rfl
@[go_sem] theorem td91 : tdOf Try.prog 91 = some ⟨.other, 1, 0, [.junk], false⟩ := by kernel_rfl
@[go_sem] theorem td92 : tdOf Try.prog 92 = some ⟨.func, 1, 8, [.nilf], false⟩ := by kernel_rfl
@[go_sem] theorem td93 : tdOf Try.prog 93 = some ⟨.func, 1, 8, [.nilf], false⟩ := by kernel_rfl
@[go_sem] theorem td94 : tdOf Try.prog 94 = some ⟨.func, 1, 8, [.nilf], false⟩ := by kernel_rfl
@[go_sem] theorem td95 : tdOf Try.prog 95 = some ⟨.func, 1, 8, [.nilf], false⟩ := by kernel_rfl
@[go_sem] theorem td96 : tdOf Try.prog 96 = some ⟨.func, 1, 8, [.nilf], false⟩ := by kernel_rfl
@[go_sem] theorem td97 : tdOf Try.prog 97 = some ⟨.func, 1, 8, [.nilf], false⟩ := by kernel_rfl
@[go_sem] theorem td98 : tdOf Try.prog 98 = some ⟨.other, 1, 0, [.junk], false⟩ := by kernel_rfl
@[go_sem] theorem td99 : tdOf Try.prog 99 = some ⟨.func, 1, 8, [.nilf], false⟩ := by kernel_rfl
@[go_sem] theorem td100 : tdOf Try.prog 100 = some ⟨.func, 1, 8, [.nilf], false⟩ := by kernel_rfl
@[go_sem] theorem td101 : tdOf Try.prog 101 = some ⟨.func, 1, 8, [.nilf], false⟩ := by kernel_rfl
@[go_sem] theorem td102 : tdOf Try.prog 102 = some ⟨.struct [(0, 17), (1, 17), (2, 17), (3, 9)], 4, 40, [.nilp, .nilp, .nilp, .str []], false⟩ := by kernel_rfl
@[go_sem] theorem td103 : tdOf Try.prog 103 = some ⟨.struct [(0, 17), (1, 17), (2, 17), (3, 9)], 4, 40, [.nilp, .nilp, .nilp, .str []], false⟩ := by kernel_rfl
@[go_sem] theorem td104 : tdOf Try.prog 104 = some ⟨.other, 0, 0, [], false⟩ := by kernel_rfl
@[go_sem] theorem td105 : tdOf Try.prog 105 = some ⟨.struct [(0, 104)], 0, 0, [], false⟩ := by kernel_rfl
@[go_sem] theorem td106 : tdOf Try.prog 106 = some ⟨.struct [(0, 104)], 0, 0, [], false⟩ := by kernel_rfl
@[go_sem] theorem td107 : tdOf Try.prog 107 = some ⟨.func, 1, 8, [.nilf], false⟩ := by kernel_rfl
@[go_sem] theorem td108 : tdOf Try.prog 108 = some ⟨.int .u8, 1, 1, [.int .u8 0], false⟩ := by kernel_rfl
@[go_sem] theorem td109 : tdOf Try.prog 109 = some ⟨.int .u8, 1, 1, [.int .u8 0], false⟩ := by kernel_rfl
@[go_sem] theorem td110 : tdOf Try.prog 110 = some ⟨.func, 1, 8, [.nilf], false⟩ := by kernel_rfl
@[go_sem] theorem td111 : tdOf Try.prog 111 = some ⟨.ptr 5, 1, 8, [.nilp], false⟩ := by kernel_rfl
@[go_sem] theorem td112 : tdOf Try.prog 112 = some ⟨.int .i32, 1, 4, [.int .i32 0], false⟩ := by kernel_rfl
@[go_sem] theorem td113 : tdOf Try.prog 113 = some ⟨.int .i32, 1, 4, [.int .i32 0], false⟩ := by kernel_rfl
@[go_sem] theorem td114 : tdOf Try.prog 114 = some ⟨.struct [(0, 12), (1, 12), (2, 33), (3, 108), (4, 5), (5, 5), (6, 109), (7, 110), (8, 111), (9, 112), (10, 113)], 11, 48, [.int .u64 0, .int .u64 0, .int .u32 0, .int .u8 0, .int .u8 0, .int .u8 0, .int .u8 0, .nilf, .nilp, .int .i32 0, .int .i32 0], false⟩ := by kernel_rfl
@[go_sem] theorem td115 : tdOf Try.prog 115 = some ⟨.struct [(0, 12), (1, 12), (2, 33), (3, 108), (4, 5), (5, 5), (6, 109), (7, 110), (8, 111), (9, 112), (10, 113)], 11, 48, [.int .u64 0, .int .u64 0, .int .u32 0, .int .u8 0, .int .u8 0, .int .u8 0, .int .u8 0, .nilf, .nilp, .int .i32 0, .int .i32 0], false⟩ := by kernel_rfl
@[go_sem] theorem td116 : tdOf Try.prog 116 = some ⟨.other, 1, 8, [.nilp], false⟩ := by kernel_rfl
theorem tk2 : tk T 2 = .int .i64 := by simp only [tk, td2]
theorem az3 : azero T 3 = some [.int .i64 0] := by simp [azero, td3, AV.one]
theorem tk3 : tk T 3 = .int .i64 := by simp only [tk, td3]
theorem tk5 : tk T 5 = .int .u8 := by simp only [tk, td5]
theorem az9 : azero T 9 = some [.str []] := by simp [azero, td9, AV.one]
theorem tk9 : tk T 9 = .str := by simp only [tk, td9]
theorem se22 : asliceElem T 22 = some (31, 1) := by simp only [asliceElem, tk, asize, td22, td31, Option.map_some]
theorem tk22 : tk T 22 = .slice 31 := by simp only [tk, td22]
theorem tk24 : tk T 24 = .struct [(0, 3), (1, 22)] := by simp only [tk, td24]
theorem se27 : asliceElem T 27 = some (3, 1) := by simp only [asliceElem, tk, asize, td27, td3, Option.map_some]
theorem tk27 : tk T 27 = .slice 3 := by simp only [tk, td27]
theorem se31 : asliceElem T 31 = some (38, 12) := by simp only [asliceElem, tk, asize, td31, td38, Option.map_some]
theorem az31 : azero T 31 = some [.nils] := by simp [azero, td31, AV.one]
theorem tk31 : tk T 31 = .slice 38 := by simp only [tk, td31]
theorem se32 : asliceElem T 32 = some (9, 1) := by simp only [asliceElem, tk, asize, td32, td9, Option.map_some]
theorem tk32 : tk T 32 = .slice 9 := by simp only [tk, td32]
theorem tk33 : tk T 33 = .int .u32 := by simp only [tk, td33]
theorem tk34 : tk T 34 = .int .u64 := by simp only [tk, td34]
theorem tk36 : tk T 36 = .struct [(0, 5), (1, 3), (2, 32), (3, 9), (4, 33), (5, 3), (6, 34), (7, 34)] := by simp only [tk, td36]
theorem az38 : azero T 38 = some [.int .i64 0, .int .u8 0, .int .u8 0, .int .i64 0, .nils, .str [], .int .u32 0, .int .i64 0, .int .u64 0, .int .u64 0, .int .i64 0, .int .i64 0] := by simp [azero, td38, AV.one]
theorem tk38 : tk T 38 = .struct [(0, 3), (1, 5), (2, 36), (10, 3), (11, 3)] := by simp only [tk, td38]
theorem hmix : Try.prog.follows .mixedOrders = true := by kernel_rfl
theorem hT : TOk Try.prog T := fun _ _ h => h
end Go.Proofs.Ytkmkhiipiflelaa

