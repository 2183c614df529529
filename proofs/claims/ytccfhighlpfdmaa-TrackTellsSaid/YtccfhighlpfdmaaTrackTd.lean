import Derived.Test.YtccfhighlpfdmaaPiU
import Derived.Test.YtccfhighlpfdmaaPiQ
import Derived.Test.YtccfhighlpfdmaaProg
set_option linter.unusedSimpArgs false
/-! Each type of the translation as a row. Written by wip/gen/td.py. -/
namespace Go.Proofs.Ytccfhighlpfdmaa
open Go.Proofs.PI
noncomputable abbrev T := tdOf Try.prog
@[go_sem] theorem td0 : tdOf Try.prog 0 = some ⟨.other, 1, 0, [.junk], false⟩ := by kernel_rfl
@[go_sem] theorem td1 : tdOf Try.prog 1 = some ⟨.func, 1, 8, [.nilf], false⟩ := by kernel_rfl
@[go_sem] theorem td2 : tdOf Try.prog 2 = some ⟨.int .i64, 1, 8, [.int .i64 0], false⟩ := by kernel_rfl
@[go_sem] theorem td3 : tdOf Try.prog 3 = some ⟨.int .i64, 1, 8, [.int .i64 0], false⟩ := by kernel_rfl
@[go_sem] theorem td4 : tdOf Try.prog 4 = some ⟨.bool, 1, 1, [.bool false], false⟩ := by kernel_rfl
@[go_sem] theorem td5 : tdOf Try.prog 5 = some ⟨.int .u8, 1, 1, [.int .u8 0], false⟩ := by kernel_rfl
@[go_sem] theorem td6 : tdOf Try.prog 6 = some ⟨.int .u8, 1, 1, [.int .u8 0], false⟩ := by kernel_rfl
@[go_sem] theorem td7 : tdOf Try.prog 7 = some ⟨.struct [(0, 2), (1, 3), (2, 4), (3, 6)], 4, 24, [.int .i64 0, .int .i64 0, .bool false, .int .u8 0], true⟩ := by kernel_rfl
@[go_sem] theorem td8 : tdOf Try.prog 8 = some ⟨.struct [(0, 2), (1, 3), (2, 4), (3, 6)], 4, 24, [.int .i64 0, .int .i64 0, .bool false, .int .u8 0], true⟩ := by kernel_rfl
@[go_sem] theorem td9 : tdOf Try.prog 9 = some ⟨.str, 1, 16, [.str []], false⟩ := by kernel_rfl
@[go_sem] theorem td10 : tdOf Try.prog 10 = some ⟨.str, 1, 16, [.str []], false⟩ := by kernel_rfl
@[go_sem] theorem td11 : tdOf Try.prog 11 = some ⟨.str, 1, 16, [.str []], false⟩ := by kernel_rfl
@[go_sem] theorem td12 : tdOf Try.prog 12 = some ⟨.int .u64, 1, 8, [.int .u64 0], false⟩ := by kernel_rfl
@[go_sem] theorem td13 : tdOf Try.prog 13 = some ⟨.struct [(0, 9), (1, 12)], 2, 24, [.str [], .int .u64 0], false⟩ := by kernel_rfl
@[go_sem] theorem td14 : tdOf Try.prog 14 = some ⟨.struct [(0, 9), (1, 12)], 2, 24, [.str [], .int .u64 0], false⟩ := by kernel_rfl
@[go_sem] theorem td15 : tdOf Try.prog 15 = some ⟨.ptr 116, 1, 8, [.nilp], false⟩ := by kernel_rfl
@[go_sem] theorem td16 : tdOf Try.prog 16 = some ⟨.ptr 119, 1, 8, [.nilp], false⟩ := by kernel_rfl
@[go_sem] theorem td17 : tdOf Try.prog 17 = some ⟨.ptr 128, 1, 8, [.nilp], false⟩ := by kernel_rfl
@[go_sem] theorem td18 : tdOf Try.prog 18 = some ⟨.struct [(0, 17)], 1, 8, [.nilp], false⟩ := by kernel_rfl
@[go_sem] theorem td19 : tdOf Try.prog 19 = some ⟨.struct [(0, 17)], 1, 8, [.nilp], false⟩ := by kernel_rfl
@[go_sem] theorem td20 : tdOf Try.prog 20 = some ⟨.other, 1, 16, [.junk], false⟩ := by kernel_rfl
@[go_sem] theorem td21 : tdOf Try.prog 21 = some ⟨.int .i32, 1, 4, [.int .i32 0], false⟩ := by kernel_rfl
@[go_sem] theorem td22 : tdOf Try.prog 22 = some ⟨.slice 36, 1, 24, [.nils], false⟩ := by kernel_rfl
@[go_sem] theorem td23 : tdOf Try.prog 23 = some ⟨.struct [(0, 22)], 1, 24, [.nils], true⟩ := by kernel_rfl
@[go_sem] theorem td24 : tdOf Try.prog 24 = some ⟨.struct [(0, 22)], 1, 24, [.nils], true⟩ := by kernel_rfl
@[go_sem] theorem td25 : tdOf Try.prog 25 = some ⟨.slice 45, 1, 24, [.nils], false⟩ := by kernel_rfl
@[go_sem] theorem td26 : tdOf Try.prog 26 = some ⟨.func, 1, 8, [.nilf], false⟩ := by kernel_rfl
@[go_sem] theorem td27 : tdOf Try.prog 27 = some ⟨.func, 1, 8, [.nilf], false⟩ := by kernel_rfl
@[go_sem] theorem td28 : tdOf Try.prog 28 = some ⟨.func, 1, 8, [.nilf], false⟩ := by kernel_rfl
@[go_sem] theorem td29 : tdOf Try.prog 29 = some ⟨.int .i64, 1, 8, [.int .i64 0], false⟩ := by kernel_rfl
@[go_sem] theorem td30 : tdOf Try.prog 30 = some ⟨.func, 1, 8, [.nilf], false⟩ := by kernel_rfl
@[go_sem] theorem td31 : tdOf Try.prog 31 = some ⟨.slice 47, 1, 24, [.nils], false⟩ := by kernel_rfl
@[go_sem] theorem td32 : tdOf Try.prog 32 = some ⟨.other, 1, 0, [.junk], false⟩ := by kernel_rfl
@[go_sem] theorem td33 : tdOf Try.prog 33 = some ⟨.func, 1, 8, [.nilf], false⟩ := by kernel_rfl
@[go_sem] theorem td34 : tdOf Try.prog 34 = some ⟨.slice 38, 1, 24, [.nils], false⟩ := by kernel_rfl
@[go_sem] theorem td35 : tdOf Try.prog 35 = some ⟨.struct [(0, 4), (1, 34)], 2, 32, [.bool false, .nils], true⟩ := by kernel_rfl
@[go_sem] theorem td36 : tdOf Try.prog 36 = some ⟨.struct [(0, 4), (1, 34)], 2, 32, [.bool false, .nils], true⟩ := by kernel_rfl
@[go_sem] theorem td37 : tdOf Try.prog 37 = some ⟨.struct [(0, 3), (1, 9)], 2, 24, [.int .i64 0, .str []], true⟩ := by kernel_rfl
@[go_sem] theorem td38 : tdOf Try.prog 38 = some ⟨.struct [(0, 3), (1, 9)], 2, 24, [.int .i64 0, .str []], true⟩ := by kernel_rfl
@[go_sem] theorem td39 : tdOf Try.prog 39 = some ⟨.func, 1, 8, [.nilf], false⟩ := by kernel_rfl
@[go_sem] theorem td40 : tdOf Try.prog 40 = some ⟨.int .u32, 1, 4, [.int .u32 0], false⟩ := by kernel_rfl
@[go_sem] theorem td41 : tdOf Try.prog 41 = some ⟨.int .u64, 1, 8, [.int .u64 0], false⟩ := by kernel_rfl
@[go_sem] theorem td42 : tdOf Try.prog 42 = some ⟨.struct [(0, 9), (1, 9), (2, 40), (3, 3), (4, 41)], 5, 56, [.str [], .str [], .int .u32 0, .int .i64 0, .int .u64 0], true⟩ := by kernel_rfl
@[go_sem] theorem td43 : tdOf Try.prog 43 = some ⟨.struct [(0, 9), (1, 9), (2, 40), (3, 3), (4, 41)], 5, 56, [.str [], .str [], .int .u32 0, .int .i64 0, .int .u64 0], true⟩ := by kernel_rfl
@[go_sem] theorem td44 : tdOf Try.prog 44 = some ⟨.struct [(0, 5), (1, 3), (2, 43), (7, 9), (8, 5), (9, 3), (10, 4)], 11, 112, [.int .u8 0, .int .i64 0, .str [], .str [], .int .u32 0, .int .i64 0, .int .u64 0, .str [], .int .u8 0, .int .i64 0, .bool false], true⟩ := by kernel_rfl
@[go_sem] theorem td45 : tdOf Try.prog 45 = some ⟨.struct [(0, 5), (1, 3), (2, 43), (7, 9), (8, 5), (9, 3), (10, 4)], 11, 112, [.int .u8 0, .int .i64 0, .str [], .str [], .int .u32 0, .int .i64 0, .int .u64 0, .str [], .int .u8 0, .int .i64 0, .bool false], true⟩ := by kernel_rfl
@[go_sem] theorem td46 : tdOf Try.prog 46 = some ⟨.struct [(0, 3), (1, 38)], 3, 32, [.int .i64 0, .int .i64 0, .str []], true⟩ := by kernel_rfl
@[go_sem] theorem td47 : tdOf Try.prog 47 = some ⟨.struct [(0, 3), (1, 38)], 3, 32, [.int .i64 0, .int .i64 0, .str []], true⟩ := by kernel_rfl
@[go_sem] theorem td48 : tdOf Try.prog 48 = some ⟨.func, 1, 8, [.nilf], false⟩ := by kernel_rfl
@[go_sem] theorem td49 : tdOf Try.prog 49 = some ⟨.func, 1, 8, [.nilf], false⟩ := by kernel_rfl
@[go_sem] theorem td50 : tdOf Try.prog 50 = some ⟨.func, 1, 8, [.nilf], false⟩ := by kernel_rfl
@[go_sem] theorem td51 : tdOf Try.prog 51 = some ⟨.func, 1, 8, [.nilf], false⟩ := by kernel_rfl
@[go_sem] theorem td52 : tdOf Try.prog 52 = some ⟨.func, 1, 8, [.nilf], false⟩ := by kernel_rfl
@[go_sem] theorem td53 : tdOf Try.prog 53 = some ⟨.other, 1, 0, [.junk], false⟩ := by kernel_rfl
@[go_sem] theorem td54 : tdOf Try.prog 54 = some ⟨.func, 1, 8, [.nilf], false⟩ := by kernel_rfl
@[go_sem] theorem td55 : tdOf Try.prog 55 = some ⟨.func, 1, 8, [.nilf], false⟩ := by kernel_rfl
@[go_sem] theorem td56 : tdOf Try.prog 56 = some ⟨.func, 1, 8, [.nilf], false⟩ := by kernel_rfl
@[go_sem] theorem td57 : tdOf Try.prog 57 = some ⟨.other, 1, 0, [.junk], false⟩ := by kernel_rfl
@[go_sem] theorem td58 : tdOf Try.prog 58 = some ⟨.func, 1, 8, [.nilf], false⟩ := by kernel_rfl
@[go_sem] theorem td59 : tdOf Try.prog 59 = some ⟨.slice 5, 1, 24, [.nils], false⟩ := by kernel_rfl
@[go_sem] theorem td60 : tdOf Try.prog 60 = some ⟨.other, 1, 0, [.junk], false⟩ := by kernel_rfl
@[go_sem] theorem td61 : tdOf Try.prog 61 = some ⟨.func, 1, 8, [.nilf], false⟩ := by kernel_rfl
@[go_sem] theorem td62 : tdOf Try.prog 62 = some ⟨.func, 1, 8, [.nilf], false⟩ := by kernel_rfl
@[go_sem] theorem td63 : tdOf Try.prog 63 = some ⟨.func, 1, 8, [.nilf], false⟩ := by kernel_rfl
@[go_sem] theorem td64 : tdOf Try.prog 64 = some ⟨.slice 66, 1, 24, [.nils], false⟩ := by kernel_rfl
@[go_sem] theorem td65 : tdOf Try.prog 65 = some ⟨.struct [(0, 5), (1, 3), (2, 38), (4, 25)], 5, 64, [.int .u8 0, .int .i64 0, .int .i64 0, .str [], .nils], true⟩ := by kernel_rfl
@[go_sem] theorem td66 : tdOf Try.prog 66 = some ⟨.struct [(0, 5), (1, 3), (2, 38), (4, 25)], 5, 64, [.int .u8 0, .int .i64 0, .int .i64 0, .str [], .nils], true⟩ := by kernel_rfl
@[go_sem] theorem td67 : tdOf Try.prog 67 = some ⟨.func, 1, 8, [.nilf], false⟩ := by kernel_rfl
@[go_sem] theorem td68 : tdOf Try.prog 68 = some ⟨.func, 1, 8, [.nilf], false⟩ := by kernel_rfl
@[go_sem] theorem td69 : tdOf Try.prog 69 = some ⟨.func, 1, 8, [.nilf], false⟩ := by kernel_rfl
@[go_sem] theorem td70 : tdOf Try.prog 70 = some ⟨.other, 1, 0, [.junk], false⟩ := by kernel_rfl
@[go_sem] theorem td71 : tdOf Try.prog 71 = some ⟨.func, 1, 8, [.nilf], false⟩ := by kernel_rfl
@[go_sem] theorem td72 : tdOf Try.prog 72 = some ⟨.func, 1, 8, [.nilf], false⟩ := by kernel_rfl
@[go_sem] theorem td73 : tdOf Try.prog 73 = some ⟨.other, 1, 0, [.junk], false⟩ := by kernel_rfl
@[go_sem] theorem td74 : tdOf Try.prog 74 = some ⟨.func, 1, 8, [.nilf], false⟩ := by kernel_rfl
@[go_sem] theorem td75 : tdOf Try.prog 75 = some ⟨.other, 1, 0, [.junk], false⟩ := by kernel_rfl
@[go_sem] theorem td76 : tdOf Try.prog 76 = some ⟨.func, 1, 8, [.nilf], false⟩ := by kernel_rfl
@[go_sem] theorem td77 : tdOf Try.prog 77 = some ⟨.func, 1, 8, [.nilf], false⟩ := by kernel_rfl
@[go_sem] theorem td78 : tdOf Try.prog 78 = some ⟨.func, 1, 8, [.nilf], false⟩ := by kernel_rfl
@[go_sem] theorem td79 : tdOf Try.prog 79 = some ⟨.func, 1, 8, [.nilf], false⟩ := by kernel_rfl
@[go_sem] theorem td80 : tdOf Try.prog 80 = some ⟨.func, 1, 8, [.nilf], false⟩ := by kernel_rfl
@[go_sem] theorem td81 : tdOf Try.prog 81 = some ⟨.func, 1, 8, [.nilf], false⟩ := by kernel_rfl
@[go_sem] theorem td82 : tdOf Try.prog 82 = some ⟨.func, 1, 8, [.nilf], false⟩ := by kernel_rfl
@[go_sem] theorem td83 : tdOf Try.prog 83 = some ⟨.func, 1, 8, [.nilf], false⟩ := by kernel_rfl
@[go_sem] theorem td84 : tdOf Try.prog 84 = some ⟨.other, 1, 0, [.junk], false⟩ := by kernel_rfl
@[go_sem] theorem td85 : tdOf Try.prog 85 = some ⟨.func, 1, 8, [.nilf], false⟩ := by kernel_rfl
@[go_sem] theorem td86 : tdOf Try.prog 86 = some ⟨.func, 1, 8, [.nilf], false⟩ := by kernel_rfl
@[go_sem] theorem td87 : tdOf Try.prog 87 = some ⟨.ptr 36, 1, 8, [.nilp], false⟩ := by kernel_rfl
@[go_sem] theorem td88 : tdOf Try.prog 88 = some ⟨.func, 1, 8, [.nilf], false⟩ := by kernel_rfl
@[go_sem] theorem td89 : tdOf Try.prog 89 = some ⟨.func, 1, 8, [.nilf], false⟩ := by kernel_rfl
@[go_sem] theorem td90 : tdOf Try.prog 90 = some ⟨.func, 1, 8, [.nilf], false⟩ := by kernel_rfl
@[go_sem] theorem td91 : tdOf Try.prog 91 = some ⟨.func, 1, 8, [.nilf], false⟩ := by kernel_rfl
@[go_sem] theorem td92 : tdOf Try.prog 92 = some ⟨.other, 1, 0, [.junk], false⟩ := by kernel_rfl
@[go_sem] theorem td93 : tdOf Try.prog 93 = some ⟨.func, 1, 8, [.nilf], false⟩ := by kernel_rfl
@[go_sem] theorem td94 : tdOf Try.prog 94 = some ⟨.func, 1, 8, [.nilf], false⟩ := by kernel_rfl
@[go_sem] theorem td95 : tdOf Try.prog 95 = some ⟨.func, 1, 8, [.nilf], false⟩ := by kernel_rfl
@[go_sem] theorem td96 : tdOf Try.prog 96 = some ⟨.func, 1, 8, [.nilf], false⟩ := by kernel_rfl
@[go_sem] theorem td97 : tdOf Try.prog 97 = some ⟨.func, 1, 8, [.nilf], false⟩ := by kernel_rfl
@[go_sem] theorem td98 : tdOf Try.prog 98 = some ⟨.func, 1, 8, [.nilf], false⟩ := by kernel_rfl
@[go_sem] theorem td99 : tdOf Try.prog 99 = some ⟨.func, 1, 8, [.nilf], false⟩ := by kernel_rfl
@[go_sem] theorem td100 : tdOf Try.prog 100 = some ⟨.func, 1, 8, [.nilf], false⟩ := by kernel_rfl
@[go_sem] theorem td101 : tdOf Try.prog 101 = some ⟨.func, 1, 8, [.nilf], false⟩ := by kernel_rfl
@[go_sem] theorem td102 : tdOf Try.prog 102 = some ⟨.func, 1, 8, [.nilf], false⟩ := by kernel_rfl
@[go_sem] theorem td103 : tdOf Try.prog 103 = some ⟨.func, 1, 8, [.nilf], false⟩ := by kernel_rfl
@[go_sem] theorem td104 : tdOf Try.prog 104 = some ⟨.func, 1, 8, [.nilf], false⟩ := by kernel_rfl
@[go_sem] theorem td105 : tdOf Try.prog 105 = some ⟨.slice 3, 1, 24, [.nils], false⟩ := by kernel_rfl
@[go_sem] theorem td106 : tdOf Try.prog 106 = some ⟨.func, 1, 8, [.nilf], false⟩ := by kernel_rfl
@[go_sem] theorem td107 : tdOf Try.prog 107 = some ⟨.func, 1, 8, [.nilf], false⟩ := by kernel_rfl
@[go_sem] theorem td108 : tdOf Try.prog 108 = some ⟨.func, 1, 8, [.nilf], false⟩ := by kernel_rfl
@[go_sem] theorem td109 : tdOf Try.prog 109 = some ⟨.func, 1, 8, [.nilf], false⟩ := by kernel_rfl
@[go_sem] theorem td110 : tdOf Try.prog 110 = some ⟨.func, 1, 8, [.nilf], false⟩ := by kernel_rfl
@[go_sem] theorem td111 : tdOf Try.prog 111 = some ⟨.func, 1, 8, [.nilf], false⟩ := by kernel_rfl
@[go_sem] theorem td112 : tdOf Try.prog 112 = some ⟨.int .u64, 1, 8, [.int .u64 0], false⟩ := by kernel_rfl
@[go_sem] theorem td113 : tdOf Try.prog 113 = some ⟨.slice 9, 1, 24, [.nils], false⟩ := by kernel_rfl
@[go_sem] theorem td114 : tdOf Try.prog 114 = some ⟨.func, 1, 8, [.nilf], false⟩ := by kernel_rfl
@[go_sem] theorem td115 : tdOf Try.prog 115 = some ⟨.struct [(0, 17), (1, 17), (2, 17), (3, 9)], 4, 40, [.nilp, .nilp, .nilp, .str []], false⟩ := by kernel_rfl
@[go_sem] theorem td116 : tdOf Try.prog 116 = some ⟨.struct [(0, 17), (1, 17), (2, 17), (3, 9)], 4, 40, [.nilp, .nilp, .nilp, .str []], false⟩ := by kernel_rfl
@[go_sem] theorem td117 : tdOf Try.prog 117 = some ⟨.other, 0, 0, [], false⟩ := by kernel_rfl
@[go_sem] theorem td118 : tdOf Try.prog 118 = some ⟨.struct [(0, 117)], 0, 0, [], false⟩ := by kernel_rfl
@[go_sem] theorem td119 : tdOf Try.prog 119 = some ⟨.struct [(0, 117)], 0, 0, [], false⟩ := by kernel_rfl
@[go_sem] theorem td120 : tdOf Try.prog 120 = some ⟨.func, 1, 8, [.nilf], false⟩ := by kernel_rfl
@[go_sem] theorem td121 : tdOf Try.prog 121 = some ⟨.int .u8, 1, 1, [.int .u8 0], false⟩ := by kernel_rfl
@[go_sem] theorem td122 : tdOf Try.prog 122 = some ⟨.int .u8, 1, 1, [.int .u8 0], false⟩ := by kernel_rfl
@[go_sem] theorem td123 : tdOf Try.prog 123 = some ⟨.func, 1, 8, [.nilf], false⟩ := by kernel_rfl
@[go_sem] theorem td124 : tdOf Try.prog 124 = some ⟨.ptr 5, 1, 8, [.nilp], false⟩ := by kernel_rfl
@[go_sem] theorem td125 : tdOf Try.prog 125 = some ⟨.int .i32, 1, 4, [.int .i32 0], false⟩ := by kernel_rfl
@[go_sem] theorem td126 : tdOf Try.prog 126 = some ⟨.int .i32, 1, 4, [.int .i32 0], false⟩ := by kernel_rfl
@[go_sem] theorem td127 : tdOf Try.prog 127 = some ⟨.struct [(0, 12), (1, 12), (2, 40), (3, 121), (4, 5), (5, 5), (6, 122), (7, 123), (8, 124), (9, 125), (10, 126)], 11, 48, [.int .u64 0, .int .u64 0, .int .u32 0, .int .u8 0, .int .u8 0, .int .u8 0, .int .u8 0, .nilf, .nilp, .int .i32 0, .int .i32 0], false⟩ := by kernel_rfl
@[go_sem] theorem td128 : tdOf Try.prog 128 = some ⟨.struct [(0, 12), (1, 12), (2, 40), (3, 121), (4, 5), (5, 5), (6, 122), (7, 123), (8, 124), (9, 125), (10, 126)], 11, 48, [.int .u64 0, .int .u64 0, .int .u32 0, .int .u8 0, .int .u8 0, .int .u8 0, .int .u8 0, .nilf, .nilp, .int .i32 0, .int .i32 0], false⟩ := by kernel_rfl
@[go_sem] theorem td129 : tdOf Try.prog 129 = some ⟨.other, 1, 8, [.nilp], false⟩ := by kernel_rfl
theorem tk3 : tk T 3 = .int .i64 := by simp only [tk, td3]
theorem tk4 : tk T 4 = .bool := by simp only [tk, td4]
theorem az5 : azero T 5 = some [.int .u8 0] := by simp [azero, td5, AV.one]
theorem tk5 : tk T 5 = .int .u8 := by simp only [tk, td5]
theorem tk9 : tk T 9 = .str := by simp only [tk, td9]
theorem se22 : asliceElem T 22 = some (36, 2) := by simp only [asliceElem, tk, asize, td22, td36, Option.map_some]
theorem tk22 : tk T 22 = .slice 36 := by simp only [tk, td22]
theorem tk24 : tk T 24 = .struct [(0, 22)] := by simp only [tk, td24]
theorem se25 : asliceElem T 25 = some (45, 11) := by simp only [asliceElem, tk, asize, td25, td45, Option.map_some]
theorem tk25 : tk T 25 = .slice 45 := by simp only [tk, td25]
theorem se31 : asliceElem T 31 = some (47, 3) := by simp only [asliceElem, tk, asize, td31, td47, Option.map_some]
theorem tk31 : tk T 31 = .slice 47 := by simp only [tk, td31]
theorem se34 : asliceElem T 34 = some (38, 2) := by simp only [asliceElem, tk, asize, td34, td38, Option.map_some]
theorem tk34 : tk T 34 = .slice 38 := by simp only [tk, td34]
theorem az36 : azero T 36 = some [.bool false, .nils] := by simp [azero, td36, AV.one]
theorem tk36 : tk T 36 = .struct [(0, 4), (1, 34)] := by simp only [tk, td36]
theorem az38 : azero T 38 = some [.int .i64 0, .str []] := by simp [azero, td38, AV.one]
theorem tk38 : tk T 38 = .struct [(0, 3), (1, 9)] := by simp only [tk, td38]
theorem tk40 : tk T 40 = .int .u32 := by simp only [tk, td40]
theorem tk41 : tk T 41 = .int .u64 := by simp only [tk, td41]
theorem tk43 : tk T 43 = .struct [(0, 9), (1, 9), (2, 40), (3, 3), (4, 41)] := by simp only [tk, td43]
theorem az45 : azero T 45 = some [.int .u8 0, .int .i64 0, .str [], .str [], .int .u32 0, .int .i64 0, .int .u64 0, .str [], .int .u8 0, .int .i64 0, .bool false] := by simp [azero, td45, AV.one]
theorem tk45 : tk T 45 = .struct [(0, 5), (1, 3), (2, 43), (7, 9), (8, 5), (9, 3), (10, 4)] := by simp only [tk, td45]
theorem az47 : azero T 47 = some [.int .i64 0, .int .i64 0, .str []] := by simp [azero, td47, AV.one]
theorem se59 : asliceElem T 59 = some (5, 1) := by simp only [asliceElem, tk, asize, td59, td5, Option.map_some]
theorem tk59 : tk T 59 = .slice 5 := by simp only [tk, td59]
theorem se105 : asliceElem T 105 = some (3, 1) := by simp only [asliceElem, tk, asize, td105, td3, Option.map_some]
theorem tk105 : tk T 105 = .slice 3 := by simp only [tk, td105]
theorem se113 : asliceElem T 113 = some (9, 1) := by simp only [asliceElem, tk, asize, td113, td9, Option.map_some]
theorem tk113 : tk T 113 = .slice 9 := by simp only [tk, td113]
theorem hmix : Try.prog.follows .mixedOrders = true := by kernel_rfl
theorem hT : TOk Try.prog T := fun _ _ h => h
end Go.Proofs.Ytccfhighlpfdmaa

