import Derived.Test.YtldkmclfhjcicaaDoorProg
import Derived.Test.YtldkmclfhjcicaaDoorVK
/- The types of the program as the value machine knows them: the table holds. -/
namespace Go.Proofs.YtldkmclfhjcicaaDoor
open Go.RowKit
set_option linter.unusedVariables false
set_option linter.unusedSimpArgs false
def tt : TT
  | 1 => some ⟨.cell, 1, 8, [Value.nilFunc], false⟩
  | 2 => some ⟨.int .i64, 1, 8, [Value.int IntKind.i64 0], false⟩
  | 3 => some ⟨.int .i64, 1, 8, [Value.int IntKind.i64 0], false⟩
  | 4 => some ⟨.bool, 1, 1, [Value.bool false], false⟩
  | 5 => some ⟨.int .u8, 1, 1, [Value.int IntKind.u8 0], false⟩
  | 9 => some ⟨.str, 1, 16, [Value.string ⟨#[]⟩], false⟩
  | 12 => some ⟨.int .u64, 1, 8, [Value.int IntKind.u64 0], false⟩
  | 13 => some ⟨.struct [(0, 9), (1, 12)], 2, 24, [Value.string ⟨#[]⟩, Value.int IntKind.u64 0], false⟩
  | 18 => some ⟨.struct [(0, 17)], 1, 8, [Value.pointer none], false⟩
  | 20 => some ⟨.cell, 1, 16, [Value.nilIface], false⟩
  | 21 => some ⟨.int .i32, 1, 4, [Value.int IntKind.i32 0], false⟩
  | 22 => some ⟨.slc 5, 1, 24, [Value.slice none 0 0], false⟩
  | 23 => some ⟨.cell, 1, 8, [Value.nilFunc], false⟩
  | 24 => some ⟨.arr 4 9, 4, 64, [Value.string ⟨#[]⟩, Value.string ⟨#[]⟩, Value.string ⟨#[]⟩, Value.string ⟨#[]⟩], false⟩
  | 25 => some ⟨.int .u64, 1, 8, [Value.int IntKind.u64 0], false⟩
  | 26 => some ⟨.arr 3 3, 3, 24, [Value.int IntKind.i64 0, Value.int IntKind.i64 0, Value.int IntKind.i64 0], false⟩
  | 28 => some ⟨.cell, 1, 8, [Value.nilFunc], false⟩
  | 29 => some ⟨.cell, 1, 8, [Value.nilFunc], false⟩
  | 30 => some ⟨.cell, 1, 8, [Value.nilFunc], false⟩
  | 31 => some ⟨.cell, 1, 8, [Value.nilFunc], false⟩
  | 32 => some ⟨.slc 56, 1, 24, [Value.slice none 0 0], false⟩
  | 33 => some ⟨.slc 50, 1, 24, [Value.slice none 0 0], false⟩
  | 34 => some ⟨.slc 61, 1, 24, [Value.slice none 0 0], false⟩
  | 35 => some ⟨.struct [(0, 33), (1, 34)], 2, 48, [Value.slice none 0 0, Value.slice none 0 0], false⟩
  | 36 => some ⟨.struct [(0, 33), (1, 34)], 2, 48, [Value.slice none 0 0, Value.slice none 0 0], false⟩
  | 37 => some ⟨.int .i64, 1, 8, [Value.int IntKind.i64 0], false⟩
  | 39 => some ⟨.cell, 1, 8, [Value.nilFunc], false⟩
  | 40 => some ⟨.cell, 1, 8, [Value.nilFunc], false⟩
  | 41 => some ⟨.slc 97, 1, 24, [Value.slice none 0 0], false⟩
  | 42 => some ⟨.struct [(0, 33), (1, 41)], 2, 48, [Value.slice none 0 0, Value.slice none 0 0], false⟩
  | 43 => some ⟨.struct [(0, 33), (1, 41)], 2, 48, [Value.slice none 0 0, Value.slice none 0 0], false⟩
  | 44 => some ⟨.cell, 1, 8, [Value.nilFunc], false⟩
  | 46 => some ⟨.cell, 1, 8, [Value.nilFunc], false⟩
  | 48 => some ⟨.cell, 1, 8, [Value.nilFunc], false⟩
  | 49 => some ⟨.struct [(0, 9), (1, 3), (2, 9), (3, 3)], 4, 48, [Value.string ⟨#[]⟩, Value.int IntKind.i64 0, Value.string ⟨#[]⟩, Value.int IntKind.i64 0], false⟩
  | 50 => some ⟨.struct [(0, 9), (1, 3), (2, 9), (3, 3)], 4, 48, [Value.string ⟨#[]⟩, Value.int IntKind.i64 0, Value.string ⟨#[]⟩, Value.int IntKind.i64 0], true⟩
  | 51 => some ⟨.cell, 1, 8, [Value.nilFunc], false⟩
  | 52 => some ⟨.cell, 1, 8, [Value.nilFunc], false⟩
  | 53 => some ⟨.cell, 1, 8, [Value.nilFunc], false⟩
  | 54 => some ⟨.cell, 1, 8, [Value.nilFunc], false⟩
  | 55 => some ⟨.struct [(0, 5), (1, 5), (2, 3), (3, 3), (4, 9)], 5, 40, [Value.int IntKind.u8 0, Value.int IntKind.u8 0, Value.int IntKind.i64 0, Value.int IntKind.i64 0, Value.string ⟨#[]⟩], false⟩
  | 56 => some ⟨.struct [(0, 5), (1, 5), (2, 3), (3, 3), (4, 9)], 5, 40, [Value.int IntKind.u8 0, Value.int IntKind.u8 0, Value.int IntKind.i64 0, Value.int IntKind.i64 0, Value.string ⟨#[]⟩], true⟩
  | 57 => some ⟨.cell, 1, 8, [Value.nilFunc], false⟩
  | 58 => some ⟨.cell, 1, 8, [Value.nilFunc], false⟩
  | 59 => some ⟨.arr 3 36, 6, 144, [Value.slice none 0 0, Value.slice none 0 0, Value.slice none 0 0, Value.slice none 0 0, Value.slice none 0 0, Value.slice none 0 0], false⟩
  | 60 => some ⟨.struct [(0, 9), (1, 3)], 2, 24, [Value.string ⟨#[]⟩, Value.int IntKind.i64 0], false⟩
  | 61 => some ⟨.struct [(0, 9), (1, 3)], 2, 24, [Value.string ⟨#[]⟩, Value.int IntKind.i64 0], true⟩
  | 62 => some ⟨.cell, 1, 8, [Value.nilFunc], false⟩
  | 63 => some ⟨.cell, 1, 8, [Value.nilFunc], false⟩
  | 64 => some ⟨.cell, 1, 8, [Value.nilFunc], false⟩
  | 65 => some ⟨.arr 2 36, 4, 96, [Value.slice none 0 0, Value.slice none 0 0, Value.slice none 0 0, Value.slice none 0 0], false⟩
  | 66 => some ⟨.cell, 1, 8, [Value.nilFunc], false⟩
  | 67 => some ⟨.cell, 1, 8, [Value.nilFunc], false⟩
  | 68 => some ⟨.cell, 1, 8, [Value.nilFunc], false⟩
  | 70 => some ⟨.cell, 1, 8, [Value.nilFunc], false⟩
  | 71 => some ⟨.cell, 1, 8, [Value.nilFunc], false⟩
  | 72 => some ⟨.cell, 1, 8, [Value.nilFunc], false⟩
  | 73 => some ⟨.cell, 1, 8, [Value.nilFunc], false⟩
  | 75 => some ⟨.cell, 1, 8, [Value.nilFunc], false⟩
  | 76 => some ⟨.cell, 1, 8, [Value.nilFunc], false⟩
  | 78 => some ⟨.cell, 1, 8, [Value.nilFunc], false⟩
  | 79 => some ⟨.cell, 1, 8, [Value.nilFunc], false⟩
  | 80 => some ⟨.cell, 1, 8, [Value.nilFunc], false⟩
  | 81 => some ⟨.arr 6 9, 6, 96, [Value.string ⟨#[]⟩, Value.string ⟨#[]⟩, Value.string ⟨#[]⟩, Value.string ⟨#[]⟩, Value.string ⟨#[]⟩, Value.string ⟨#[]⟩], false⟩
  | 82 => some ⟨.cell, 1, 8, [Value.nilFunc], false⟩
  | 83 => some ⟨.cell, 1, 8, [Value.nilFunc], false⟩
  | 84 => some ⟨.cell, 1, 8, [Value.nilFunc], false⟩
  | 85 => some ⟨.cell, 1, 8, [Value.nilFunc], false⟩
  | 86 => some ⟨.cell, 1, 8, [Value.nilFunc], false⟩
  | 87 => some ⟨.cell, 1, 8, [Value.nilFunc], false⟩
  | 88 => some ⟨.arr 3 9, 3, 48, [Value.string ⟨#[]⟩, Value.string ⟨#[]⟩, Value.string ⟨#[]⟩], false⟩
  | 90 => some ⟨.cell, 1, 8, [Value.nilFunc], false⟩
  | 91 => some ⟨.cell, 1, 8, [Value.nilFunc], false⟩
  | 92 => some ⟨.cell, 1, 8, [Value.nilFunc], false⟩
  | 93 => some ⟨.cell, 1, 8, [Value.nilFunc], false⟩
  | 94 => some ⟨.slc 3, 1, 24, [Value.slice none 0 0], false⟩
  | 95 => some ⟨.cell, 1, 8, [Value.nilFunc], false⟩
  | 96 => some ⟨.cell, 1, 8, [Value.nilFunc], false⟩
  | 97 => some ⟨.struct [(0, 9), (1, 3)], 2, 24, [Value.string ⟨#[]⟩, Value.int IntKind.i64 0], true⟩
  | 98 => some ⟨.cell, 1, 8, [Value.nilFunc], false⟩
  | 99 => some ⟨.cell, 1, 8, [Value.nilFunc], false⟩
  | 100 => some ⟨.cell, 1, 8, [Value.nilFunc], false⟩
  | 101 => some ⟨.cell, 1, 8, [Value.nilFunc], false⟩
  | 103 => some ⟨.cell, 1, 8, [Value.nilFunc], false⟩
  | 104 => some ⟨.cell, 1, 8, [Value.nilFunc], false⟩
  | 105 => some ⟨.cell, 1, 8, [Value.nilFunc], false⟩
  | 106 => some ⟨.cell, 1, 8, [Value.nilFunc], false⟩
  | 108 => some ⟨.cell, 1, 8, [Value.nilFunc], false⟩
  | 109 => some ⟨.cell, 1, 8, [Value.nilFunc], false⟩
  | 110 => some ⟨.cell, 1, 8, [Value.nilFunc], false⟩
  | 111 => some ⟨.cell, 1, 8, [Value.nilFunc], false⟩
  | 112 => some ⟨.cell, 1, 8, [Value.nilFunc], false⟩
  | 113 => some ⟨.cell, 1, 8, [Value.nilFunc], false⟩
  | 114 => some ⟨.cell, 1, 8, [Value.nilFunc], false⟩
  | 115 => some ⟨.cell, 1, 8, [Value.nilFunc], false⟩
  | 116 => some ⟨.cell, 1, 8, [Value.nilFunc], false⟩
  | 117 => some ⟨.cell, 1, 8, [Value.nilFunc], false⟩
  | 118 => some ⟨.cell, 1, 8, [Value.nilFunc], false⟩
  | 119 => some ⟨.cell, 1, 8, [Value.nilFunc], false⟩
  | 120 => some ⟨.cell, 1, 8, [Value.nilFunc], false⟩
  | 121 => some ⟨.cell, 1, 8, [Value.nilFunc], false⟩
  | 122 => some ⟨.cell, 1, 8, [Value.nilFunc], false⟩
  | 123 => some ⟨.cell, 1, 8, [Value.nilFunc], false⟩
  | 124 => some ⟨.cell, 1, 8, [Value.nilFunc], false⟩
  | 125 => some ⟨.cell, 1, 8, [Value.nilFunc], false⟩
  | 126 => some ⟨.cell, 1, 8, [Value.nilFunc], false⟩
  | 127 => some ⟨.cell, 1, 8, [Value.nilFunc], false⟩
  | 128 => some ⟨.cell, 1, 8, [Value.nilFunc], false⟩
  | 129 => some ⟨.cell, 1, 8, [Value.nilFunc], false⟩
  | 130 => some ⟨.cell, 1, 8, [Value.nilFunc], false⟩
  | 131 => some ⟨.cell, 1, 8, [Value.nilFunc], false⟩
  | 132 => some ⟨.cell, 1, 8, [Value.nilFunc], false⟩
  | 133 => some ⟨.cell, 1, 8, [Value.nilFunc], false⟩
  | 134 => some ⟨.cell, 1, 8, [Value.nilFunc], false⟩
  | 135 => some ⟨.cell, 1, 8, [Value.nilFunc], false⟩
  | 136 => some ⟨.slc 9, 1, 24, [Value.slice none 0 0], false⟩
  | 137 => some ⟨.cell, 1, 8, [Value.nilFunc], false⟩
  | 138 => some ⟨.cell, 1, 8, [Value.nilFunc], false⟩
  | 139 => some ⟨.cell, 1, 8, [Value.nilFunc], false⟩
  | 140 => some ⟨.cell, 1, 8, [Value.nilFunc], false⟩
  | 142 => some ⟨.cell, 1, 8, [Value.nilFunc], false⟩
  | 143 => some ⟨.cell, 1, 8, [Value.nilFunc], false⟩
  | 144 => some ⟨.cell, 1, 8, [Value.nilFunc], false⟩
  | 145 => some ⟨.cell, 1, 8, [Value.nilFunc], false⟩
  | 147 => some ⟨.struct [(0, 5), (1, 5)], 2, 2, [Value.int IntKind.u8 0, Value.int IntKind.u8 0], false⟩
  | 148 => some ⟨.struct [(0, 5), (1, 5)], 2, 2, [Value.int IntKind.u8 0, Value.int IntKind.u8 0], true⟩
  | 149 => some ⟨.arr 16 148, 32, 32, [Value.int IntKind.u8 0, Value.int IntKind.u8 0, Value.int IntKind.u8 0, Value.int IntKind.u8 0, Value.int IntKind.u8 0, Value.int IntKind.u8 0, Value.int IntKind.u8 0, Value.int IntKind.u8 0, Value.int IntKind.u8 0, Value.int IntKind.u8 0, Value.int IntKind.u8 0, Value.int IntKind.u8 0, Value.int IntKind.u8 0, Value.int IntKind.u8 0, Value.int IntKind.u8 0, Value.int IntKind.u8 0, Value.int IntKind.u8 0, Value.int IntKind.u8 0, Value.int IntKind.u8 0, Value.int IntKind.u8 0, Value.int IntKind.u8 0, Value.int IntKind.u8 0, Value.int IntKind.u8 0, Value.int IntKind.u8 0, Value.int IntKind.u8 0, Value.int IntKind.u8 0, Value.int IntKind.u8 0, Value.int IntKind.u8 0, Value.int IntKind.u8 0, Value.int IntKind.u8 0, Value.int IntKind.u8 0, Value.int IntKind.u8 0], false⟩
  | 150 => some ⟨.int .u32, 1, 4, [Value.int IntKind.u32 0], false⟩
  | 152 => some ⟨.cell, 1, 8, [Value.nilFunc], false⟩
  | 153 => some ⟨.cell, 1, 8, [Value.nilFunc], false⟩
  | 154 => some ⟨.struct [(0, 17), (1, 17), (2, 17), (3, 9)], 4, 40, [Value.pointer none, Value.pointer none, Value.pointer none, Value.string ⟨#[]⟩], false⟩
  | 156 => some ⟨.arr 0 16, 0, 0, [], false⟩
  | 157 => some ⟨.struct [(0, 156)], 0, 0, [], false⟩
  | 161 => some ⟨.cell, 1, 8, [Value.nilFunc], false⟩
  | 162 => some ⟨.cell, 1, 8, [Value.pointer none], false⟩
  | 165 => some ⟨.struct [(0, 12), (1, 12), (2, 150), (3, 159), (4, 5), (5, 5), (6, 160), (7, 161), (8, 162), (9, 163), (10, 164)], 11, 48, [Value.int IntKind.u64 0, Value.int IntKind.u64 0, Value.int IntKind.u32 0, Value.int IntKind.u8 0, Value.int IntKind.u8 0, Value.int IntKind.u8 0, Value.int IntKind.u8 0, Value.nilFunc, Value.pointer none, Value.int IntKind.i32 0, Value.int IntKind.i32 0], false⟩
  | 167 => some ⟨.cell, 1, 8, [Value.pointer none], false⟩
  | _ => none
theorem tt1 : TIOk Tryd.prog 1 ⟨.cell, 1, 8, [Value.nilFunc], false⟩ := ⟨⟨_, Tryd.underlying1, rfl⟩, ⟨Tryd.t1, _, by kernel_rfl, rfl, rfl, rfl, rfl⟩, rfl, by simp [Value.oneCell'], fun h => by cases h⟩
theorem tt_1 : tt 1 = some ⟨.cell, 1, 8, [Value.nilFunc], false⟩ := rfl
theorem tt2 : TIOk Tryd.prog 2 ⟨.int .i64, 1, 8, [Value.int IntKind.i64 0], false⟩ := ⟨Tryd.underlying2, ⟨Tryd.t2, _, by kernel_rfl, rfl, rfl, rfl, rfl⟩, rfl, by simp [Value.oneCell'], fun h => by cases h⟩
theorem tt_2 : tt 2 = some ⟨.int .i64, 1, 8, [Value.int IntKind.i64 0], false⟩ := rfl
theorem tt3 : TIOk Tryd.prog 3 ⟨.int .i64, 1, 8, [Value.int IntKind.i64 0], false⟩ := ⟨Tryd.underlying3, ⟨Tryd.t3, _, by kernel_rfl, rfl, rfl, rfl, rfl⟩, rfl, by simp [Value.oneCell'], fun h => by cases h⟩
theorem tt_3 : tt 3 = some ⟨.int .i64, 1, 8, [Value.int IntKind.i64 0], false⟩ := rfl
theorem tt4 : TIOk Tryd.prog 4 ⟨.bool, 1, 1, [Value.bool false], false⟩ := ⟨Tryd.underlying4, ⟨Tryd.t4, _, by kernel_rfl, rfl, rfl, rfl, rfl⟩, rfl, by simp [Value.oneCell'], fun h => by cases h⟩
theorem tt_4 : tt 4 = some ⟨.bool, 1, 1, [Value.bool false], false⟩ := rfl
theorem tt5 : TIOk Tryd.prog 5 ⟨.int .u8, 1, 1, [Value.int IntKind.u8 0], false⟩ := ⟨Tryd.underlying5, ⟨Tryd.t5, _, by kernel_rfl, rfl, rfl, rfl, rfl⟩, rfl, by simp [Value.oneCell'], fun h => by cases h⟩
theorem tt_5 : tt 5 = some ⟨.int .u8, 1, 1, [Value.int IntKind.u8 0], false⟩ := rfl
theorem tt9 : TIOk Tryd.prog 9 ⟨.str, 1, 16, [Value.string ⟨#[]⟩], false⟩ := ⟨Tryd.underlying9, ⟨Tryd.t9, _, by kernel_rfl, rfl, rfl, rfl, rfl⟩, rfl, by simp [Value.oneCell'], fun h => by cases h⟩
theorem tt_9 : tt 9 = some ⟨.str, 1, 16, [Value.string ⟨#[]⟩], false⟩ := rfl
theorem tt12 : TIOk Tryd.prog 12 ⟨.int .u64, 1, 8, [Value.int IntKind.u64 0], false⟩ := ⟨Tryd.underlying12, ⟨Tryd.t12, _, by kernel_rfl, rfl, rfl, rfl, rfl⟩, rfl, by simp [Value.oneCell'], fun h => by cases h⟩
theorem tt_12 : tt 12 = some ⟨.int .u64, 1, 8, [Value.int IntKind.u64 0], false⟩ := rfl
theorem tt13 : TIOk Tryd.prog 13 ⟨.struct [(0, 9), (1, 12)], 2, 24, [Value.string ⟨#[]⟩, Value.int IntKind.u64 0], false⟩ := ⟨⟨_, Tryd.underlying13, rfl⟩, ⟨Tryd.t13, _, by kernel_rfl, rfl, rfl, rfl, rfl⟩, rfl, by simp [Value.oneCell'], fun h => by cases h⟩
theorem tt_13 : tt 13 = some ⟨.struct [(0, 9), (1, 12)], 2, 24, [Value.string ⟨#[]⟩, Value.int IntKind.u64 0], false⟩ := rfl
theorem tt18 : TIOk Tryd.prog 18 ⟨.struct [(0, 17)], 1, 8, [Value.pointer none], false⟩ := ⟨⟨_, Tryd.underlying18, rfl⟩, ⟨Tryd.t18, _, by kernel_rfl, rfl, rfl, rfl, rfl⟩, rfl, by simp [Value.oneCell'], fun h => by cases h⟩
theorem tt_18 : tt 18 = some ⟨.struct [(0, 17)], 1, 8, [Value.pointer none], false⟩ := rfl
theorem tt20 : TIOk Tryd.prog 20 ⟨.cell, 1, 16, [Value.nilIface], false⟩ := ⟨⟨_, Tryd.underlying20, rfl⟩, ⟨Tryd.t20, _, by kernel_rfl, rfl, rfl, rfl, rfl⟩, rfl, by simp [Value.oneCell'], fun h => by cases h⟩
theorem tt_20 : tt 20 = some ⟨.cell, 1, 16, [Value.nilIface], false⟩ := rfl
theorem tt21 : TIOk Tryd.prog 21 ⟨.int .i32, 1, 4, [Value.int IntKind.i32 0], false⟩ := ⟨Tryd.underlying21, ⟨Tryd.t21, _, by kernel_rfl, rfl, rfl, rfl, rfl⟩, rfl, by simp [Value.oneCell'], fun h => by cases h⟩
theorem tt_21 : tt 21 = some ⟨.int .i32, 1, 4, [Value.int IntKind.i32 0], false⟩ := rfl
theorem tt22 : TIOk Tryd.prog 22 ⟨.slc 5, 1, 24, [Value.slice none 0 0], false⟩ := ⟨Tryd.underlying22, ⟨Tryd.t22, _, by kernel_rfl, rfl, rfl, rfl, rfl⟩, rfl, by simp [Value.oneCell'], fun h => by cases h⟩
theorem tt_22 : tt 22 = some ⟨.slc 5, 1, 24, [Value.slice none 0 0], false⟩ := rfl
theorem tt23 : TIOk Tryd.prog 23 ⟨.cell, 1, 8, [Value.nilFunc], false⟩ := ⟨⟨_, Tryd.underlying23, rfl⟩, ⟨Tryd.t23, _, by kernel_rfl, rfl, rfl, rfl, rfl⟩, rfl, by simp [Value.oneCell'], fun h => by cases h⟩
theorem tt_23 : tt 23 = some ⟨.cell, 1, 8, [Value.nilFunc], false⟩ := rfl
theorem tt24 : TIOk Tryd.prog 24 ⟨.arr 4 9, 4, 64, [Value.string ⟨#[]⟩, Value.string ⟨#[]⟩, Value.string ⟨#[]⟩, Value.string ⟨#[]⟩], false⟩ := ⟨Tryd.underlying24, ⟨Tryd.t24, _, by kernel_rfl, rfl, rfl, rfl, rfl⟩, rfl, by simp [Value.oneCell'], fun h => by cases h⟩
theorem tt_24 : tt 24 = some ⟨.arr 4 9, 4, 64, [Value.string ⟨#[]⟩, Value.string ⟨#[]⟩, Value.string ⟨#[]⟩, Value.string ⟨#[]⟩], false⟩ := rfl
theorem tt25 : TIOk Tryd.prog 25 ⟨.int .u64, 1, 8, [Value.int IntKind.u64 0], false⟩ := ⟨Tryd.underlying25, ⟨Tryd.t25, _, by kernel_rfl, rfl, rfl, rfl, rfl⟩, rfl, by simp [Value.oneCell'], fun h => by cases h⟩
theorem tt_25 : tt 25 = some ⟨.int .u64, 1, 8, [Value.int IntKind.u64 0], false⟩ := rfl
theorem tt26 : TIOk Tryd.prog 26 ⟨.arr 3 3, 3, 24, [Value.int IntKind.i64 0, Value.int IntKind.i64 0, Value.int IntKind.i64 0], false⟩ := ⟨Tryd.underlying26, ⟨Tryd.t26, _, by kernel_rfl, rfl, rfl, rfl, rfl⟩, rfl, by simp [Value.oneCell'], fun h => by cases h⟩
theorem tt_26 : tt 26 = some ⟨.arr 3 3, 3, 24, [Value.int IntKind.i64 0, Value.int IntKind.i64 0, Value.int IntKind.i64 0], false⟩ := rfl
theorem tt28 : TIOk Tryd.prog 28 ⟨.cell, 1, 8, [Value.nilFunc], false⟩ := ⟨⟨_, Tryd.underlying28, rfl⟩, ⟨Tryd.t28, _, by kernel_rfl, rfl, rfl, rfl, rfl⟩, rfl, by simp [Value.oneCell'], fun h => by cases h⟩
theorem tt_28 : tt 28 = some ⟨.cell, 1, 8, [Value.nilFunc], false⟩ := rfl
theorem tt29 : TIOk Tryd.prog 29 ⟨.cell, 1, 8, [Value.nilFunc], false⟩ := ⟨⟨_, Tryd.underlying29, rfl⟩, ⟨Tryd.t29, _, by kernel_rfl, rfl, rfl, rfl, rfl⟩, rfl, by simp [Value.oneCell'], fun h => by cases h⟩
theorem tt_29 : tt 29 = some ⟨.cell, 1, 8, [Value.nilFunc], false⟩ := rfl
theorem tt30 : TIOk Tryd.prog 30 ⟨.cell, 1, 8, [Value.nilFunc], false⟩ := ⟨⟨_, Tryd.underlying30, rfl⟩, ⟨Tryd.t30, _, by kernel_rfl, rfl, rfl, rfl, rfl⟩, rfl, by simp [Value.oneCell'], fun h => by cases h⟩
theorem tt_30 : tt 30 = some ⟨.cell, 1, 8, [Value.nilFunc], false⟩ := rfl
theorem tt31 : TIOk Tryd.prog 31 ⟨.cell, 1, 8, [Value.nilFunc], false⟩ := ⟨⟨_, Tryd.underlying31, rfl⟩, ⟨Tryd.t31, _, by kernel_rfl, rfl, rfl, rfl, rfl⟩, rfl, by simp [Value.oneCell'], fun h => by cases h⟩
theorem tt_31 : tt 31 = some ⟨.cell, 1, 8, [Value.nilFunc], false⟩ := rfl
theorem tt32 : TIOk Tryd.prog 32 ⟨.slc 56, 1, 24, [Value.slice none 0 0], false⟩ := ⟨Tryd.underlying32, ⟨Tryd.t32, _, by kernel_rfl, rfl, rfl, rfl, rfl⟩, rfl, by simp [Value.oneCell'], fun h => by cases h⟩
theorem tt_32 : tt 32 = some ⟨.slc 56, 1, 24, [Value.slice none 0 0], false⟩ := rfl
theorem tt33 : TIOk Tryd.prog 33 ⟨.slc 50, 1, 24, [Value.slice none 0 0], false⟩ := ⟨Tryd.underlying33, ⟨Tryd.t33, _, by kernel_rfl, rfl, rfl, rfl, rfl⟩, rfl, by simp [Value.oneCell'], fun h => by cases h⟩
theorem tt_33 : tt 33 = some ⟨.slc 50, 1, 24, [Value.slice none 0 0], false⟩ := rfl
theorem tt34 : TIOk Tryd.prog 34 ⟨.slc 61, 1, 24, [Value.slice none 0 0], false⟩ := ⟨Tryd.underlying34, ⟨Tryd.t34, _, by kernel_rfl, rfl, rfl, rfl, rfl⟩, rfl, by simp [Value.oneCell'], fun h => by cases h⟩
theorem tt_34 : tt 34 = some ⟨.slc 61, 1, 24, [Value.slice none 0 0], false⟩ := rfl
theorem tt35 : TIOk Tryd.prog 35 ⟨.struct [(0, 33), (1, 34)], 2, 48, [Value.slice none 0 0, Value.slice none 0 0], false⟩ := ⟨⟨_, Tryd.underlying35, rfl⟩, ⟨Tryd.t35, _, by kernel_rfl, rfl, rfl, rfl, rfl⟩, rfl, by simp [Value.oneCell'], fun h => by cases h⟩
theorem tt_35 : tt 35 = some ⟨.struct [(0, 33), (1, 34)], 2, 48, [Value.slice none 0 0, Value.slice none 0 0], false⟩ := rfl
theorem tt36 : TIOk Tryd.prog 36 ⟨.struct [(0, 33), (1, 34)], 2, 48, [Value.slice none 0 0, Value.slice none 0 0], false⟩ := ⟨⟨_, Tryd.underlying36, rfl⟩, ⟨Tryd.t36, _, by kernel_rfl, rfl, rfl, rfl, rfl⟩, rfl, by simp [Value.oneCell'], fun h => by cases h⟩
theorem tt_36 : tt 36 = some ⟨.struct [(0, 33), (1, 34)], 2, 48, [Value.slice none 0 0, Value.slice none 0 0], false⟩ := rfl
theorem tt37 : TIOk Tryd.prog 37 ⟨.int .i64, 1, 8, [Value.int IntKind.i64 0], false⟩ := ⟨Tryd.underlying37, ⟨Tryd.t37, _, by kernel_rfl, rfl, rfl, rfl, rfl⟩, rfl, by simp [Value.oneCell'], fun h => by cases h⟩
theorem tt_37 : tt 37 = some ⟨.int .i64, 1, 8, [Value.int IntKind.i64 0], false⟩ := rfl
theorem tt39 : TIOk Tryd.prog 39 ⟨.cell, 1, 8, [Value.nilFunc], false⟩ := ⟨⟨_, Tryd.underlying39, rfl⟩, ⟨Tryd.t39, _, by kernel_rfl, rfl, rfl, rfl, rfl⟩, rfl, by simp [Value.oneCell'], fun h => by cases h⟩
theorem tt_39 : tt 39 = some ⟨.cell, 1, 8, [Value.nilFunc], false⟩ := rfl
theorem tt40 : TIOk Tryd.prog 40 ⟨.cell, 1, 8, [Value.nilFunc], false⟩ := ⟨⟨_, Tryd.underlying40, rfl⟩, ⟨Tryd.t40, _, by kernel_rfl, rfl, rfl, rfl, rfl⟩, rfl, by simp [Value.oneCell'], fun h => by cases h⟩
theorem tt_40 : tt 40 = some ⟨.cell, 1, 8, [Value.nilFunc], false⟩ := rfl
theorem tt41 : TIOk Tryd.prog 41 ⟨.slc 97, 1, 24, [Value.slice none 0 0], false⟩ := ⟨Tryd.underlying41, ⟨Tryd.t41, _, by kernel_rfl, rfl, rfl, rfl, rfl⟩, rfl, by simp [Value.oneCell'], fun h => by cases h⟩
theorem tt_41 : tt 41 = some ⟨.slc 97, 1, 24, [Value.slice none 0 0], false⟩ := rfl
theorem tt42 : TIOk Tryd.prog 42 ⟨.struct [(0, 33), (1, 41)], 2, 48, [Value.slice none 0 0, Value.slice none 0 0], false⟩ := ⟨⟨_, Tryd.underlying42, rfl⟩, ⟨Tryd.t42, _, by kernel_rfl, rfl, rfl, rfl, rfl⟩, rfl, by simp [Value.oneCell'], fun h => by cases h⟩
theorem tt_42 : tt 42 = some ⟨.struct [(0, 33), (1, 41)], 2, 48, [Value.slice none 0 0, Value.slice none 0 0], false⟩ := rfl
theorem tt43 : TIOk Tryd.prog 43 ⟨.struct [(0, 33), (1, 41)], 2, 48, [Value.slice none 0 0, Value.slice none 0 0], false⟩ := ⟨⟨_, Tryd.underlying43, rfl⟩, ⟨Tryd.t43, _, by kernel_rfl, rfl, rfl, rfl, rfl⟩, rfl, by simp [Value.oneCell'], fun h => by cases h⟩
theorem tt_43 : tt 43 = some ⟨.struct [(0, 33), (1, 41)], 2, 48, [Value.slice none 0 0, Value.slice none 0 0], false⟩ := rfl
theorem tt44 : TIOk Tryd.prog 44 ⟨.cell, 1, 8, [Value.nilFunc], false⟩ := ⟨⟨_, Tryd.underlying44, rfl⟩, ⟨Tryd.t44, _, by kernel_rfl, rfl, rfl, rfl, rfl⟩, rfl, by simp [Value.oneCell'], fun h => by cases h⟩
theorem tt_44 : tt 44 = some ⟨.cell, 1, 8, [Value.nilFunc], false⟩ := rfl
theorem tt46 : TIOk Tryd.prog 46 ⟨.cell, 1, 8, [Value.nilFunc], false⟩ := ⟨⟨_, Tryd.underlying46, rfl⟩, ⟨Tryd.t46, _, by kernel_rfl, rfl, rfl, rfl, rfl⟩, rfl, by simp [Value.oneCell'], fun h => by cases h⟩
theorem tt_46 : tt 46 = some ⟨.cell, 1, 8, [Value.nilFunc], false⟩ := rfl
theorem tt48 : TIOk Tryd.prog 48 ⟨.cell, 1, 8, [Value.nilFunc], false⟩ := ⟨⟨_, Tryd.underlying48, rfl⟩, ⟨Tryd.t48, _, by kernel_rfl, rfl, rfl, rfl, rfl⟩, rfl, by simp [Value.oneCell'], fun h => by cases h⟩
theorem tt_48 : tt 48 = some ⟨.cell, 1, 8, [Value.nilFunc], false⟩ := rfl
theorem tt49 : TIOk Tryd.prog 49 ⟨.struct [(0, 9), (1, 3), (2, 9), (3, 3)], 4, 48, [Value.string ⟨#[]⟩, Value.int IntKind.i64 0, Value.string ⟨#[]⟩, Value.int IntKind.i64 0], false⟩ := ⟨⟨_, Tryd.underlying49, rfl⟩, ⟨Tryd.t49, _, by kernel_rfl, rfl, rfl, rfl, rfl⟩, rfl, by simp [Value.oneCell'], fun h => by cases h⟩
theorem tt_49 : tt 49 = some ⟨.struct [(0, 9), (1, 3), (2, 9), (3, 3)], 4, 48, [Value.string ⟨#[]⟩, Value.int IntKind.i64 0, Value.string ⟨#[]⟩, Value.int IntKind.i64 0], false⟩ := rfl
theorem tt50 : TIOk Tryd.prog 50 ⟨.struct [(0, 9), (1, 3), (2, 9), (3, 3)], 4, 48, [Value.string ⟨#[]⟩, Value.int IntKind.i64 0, Value.string ⟨#[]⟩, Value.int IntKind.i64 0], true⟩ := ⟨⟨_, Tryd.underlying50, rfl⟩, ⟨Tryd.t50, _, by kernel_rfl, rfl, rfl, rfl, rfl⟩, rfl, by simp [Value.oneCell'], fun _ => ⟨by kernel_rfl, by kernel_rfl, fun fields hu => by rw [Tryd.underlying50] at hu; injection hu with hu; injection hu with hu; subst hu; simp⟩⟩
theorem tt_50 : tt 50 = some ⟨.struct [(0, 9), (1, 3), (2, 9), (3, 3)], 4, 48, [Value.string ⟨#[]⟩, Value.int IntKind.i64 0, Value.string ⟨#[]⟩, Value.int IntKind.i64 0], true⟩ := rfl
theorem tt51 : TIOk Tryd.prog 51 ⟨.cell, 1, 8, [Value.nilFunc], false⟩ := ⟨⟨_, Tryd.underlying51, rfl⟩, ⟨Tryd.t51, _, by kernel_rfl, rfl, rfl, rfl, rfl⟩, rfl, by simp [Value.oneCell'], fun h => by cases h⟩
theorem tt_51 : tt 51 = some ⟨.cell, 1, 8, [Value.nilFunc], false⟩ := rfl
theorem tt52 : TIOk Tryd.prog 52 ⟨.cell, 1, 8, [Value.nilFunc], false⟩ := ⟨⟨_, Tryd.underlying52, rfl⟩, ⟨Tryd.t52, _, by kernel_rfl, rfl, rfl, rfl, rfl⟩, rfl, by simp [Value.oneCell'], fun h => by cases h⟩
theorem tt_52 : tt 52 = some ⟨.cell, 1, 8, [Value.nilFunc], false⟩ := rfl
theorem tt53 : TIOk Tryd.prog 53 ⟨.cell, 1, 8, [Value.nilFunc], false⟩ := ⟨⟨_, Tryd.underlying53, rfl⟩, ⟨Tryd.t53, _, by kernel_rfl, rfl, rfl, rfl, rfl⟩, rfl, by simp [Value.oneCell'], fun h => by cases h⟩
theorem tt_53 : tt 53 = some ⟨.cell, 1, 8, [Value.nilFunc], false⟩ := rfl
theorem tt54 : TIOk Tryd.prog 54 ⟨.cell, 1, 8, [Value.nilFunc], false⟩ := ⟨⟨_, Tryd.underlying54, rfl⟩, ⟨Tryd.t54, _, by kernel_rfl, rfl, rfl, rfl, rfl⟩, rfl, by simp [Value.oneCell'], fun h => by cases h⟩
theorem tt_54 : tt 54 = some ⟨.cell, 1, 8, [Value.nilFunc], false⟩ := rfl
theorem tt55 : TIOk Tryd.prog 55 ⟨.struct [(0, 5), (1, 5), (2, 3), (3, 3), (4, 9)], 5, 40, [Value.int IntKind.u8 0, Value.int IntKind.u8 0, Value.int IntKind.i64 0, Value.int IntKind.i64 0, Value.string ⟨#[]⟩], false⟩ := ⟨⟨_, Tryd.underlying55, rfl⟩, ⟨Tryd.t55, _, by kernel_rfl, rfl, rfl, rfl, rfl⟩, rfl, by simp [Value.oneCell'], fun h => by cases h⟩
theorem tt_55 : tt 55 = some ⟨.struct [(0, 5), (1, 5), (2, 3), (3, 3), (4, 9)], 5, 40, [Value.int IntKind.u8 0, Value.int IntKind.u8 0, Value.int IntKind.i64 0, Value.int IntKind.i64 0, Value.string ⟨#[]⟩], false⟩ := rfl
theorem tt56 : TIOk Tryd.prog 56 ⟨.struct [(0, 5), (1, 5), (2, 3), (3, 3), (4, 9)], 5, 40, [Value.int IntKind.u8 0, Value.int IntKind.u8 0, Value.int IntKind.i64 0, Value.int IntKind.i64 0, Value.string ⟨#[]⟩], true⟩ := ⟨⟨_, Tryd.underlying56, rfl⟩, ⟨Tryd.t56, _, by kernel_rfl, rfl, rfl, rfl, rfl⟩, rfl, by simp [Value.oneCell'], fun _ => ⟨by kernel_rfl, by kernel_rfl, fun fields hu => by rw [Tryd.underlying56] at hu; injection hu with hu; injection hu with hu; subst hu; simp⟩⟩
theorem tt_56 : tt 56 = some ⟨.struct [(0, 5), (1, 5), (2, 3), (3, 3), (4, 9)], 5, 40, [Value.int IntKind.u8 0, Value.int IntKind.u8 0, Value.int IntKind.i64 0, Value.int IntKind.i64 0, Value.string ⟨#[]⟩], true⟩ := rfl
theorem tt57 : TIOk Tryd.prog 57 ⟨.cell, 1, 8, [Value.nilFunc], false⟩ := ⟨⟨_, Tryd.underlying57, rfl⟩, ⟨Tryd.t57, _, by kernel_rfl, rfl, rfl, rfl, rfl⟩, rfl, by simp [Value.oneCell'], fun h => by cases h⟩
theorem tt_57 : tt 57 = some ⟨.cell, 1, 8, [Value.nilFunc], false⟩ := rfl
theorem tt58 : TIOk Tryd.prog 58 ⟨.cell, 1, 8, [Value.nilFunc], false⟩ := ⟨⟨_, Tryd.underlying58, rfl⟩, ⟨Tryd.t58, _, by kernel_rfl, rfl, rfl, rfl, rfl⟩, rfl, by simp [Value.oneCell'], fun h => by cases h⟩
theorem tt_58 : tt 58 = some ⟨.cell, 1, 8, [Value.nilFunc], false⟩ := rfl
theorem tt59 : TIOk Tryd.prog 59 ⟨.arr 3 36, 6, 144, [Value.slice none 0 0, Value.slice none 0 0, Value.slice none 0 0, Value.slice none 0 0, Value.slice none 0 0, Value.slice none 0 0], false⟩ := ⟨Tryd.underlying59, ⟨Tryd.t59, _, by kernel_rfl, rfl, rfl, rfl, rfl⟩, rfl, by simp [Value.oneCell'], fun h => by cases h⟩
theorem tt_59 : tt 59 = some ⟨.arr 3 36, 6, 144, [Value.slice none 0 0, Value.slice none 0 0, Value.slice none 0 0, Value.slice none 0 0, Value.slice none 0 0, Value.slice none 0 0], false⟩ := rfl
theorem tt60 : TIOk Tryd.prog 60 ⟨.struct [(0, 9), (1, 3)], 2, 24, [Value.string ⟨#[]⟩, Value.int IntKind.i64 0], false⟩ := ⟨⟨_, Tryd.underlying60, rfl⟩, ⟨Tryd.t60, _, by kernel_rfl, rfl, rfl, rfl, rfl⟩, rfl, by simp [Value.oneCell'], fun h => by cases h⟩
theorem tt_60 : tt 60 = some ⟨.struct [(0, 9), (1, 3)], 2, 24, [Value.string ⟨#[]⟩, Value.int IntKind.i64 0], false⟩ := rfl
theorem tt61 : TIOk Tryd.prog 61 ⟨.struct [(0, 9), (1, 3)], 2, 24, [Value.string ⟨#[]⟩, Value.int IntKind.i64 0], true⟩ := ⟨⟨_, Tryd.underlying61, rfl⟩, ⟨Tryd.t61, _, by kernel_rfl, rfl, rfl, rfl, rfl⟩, rfl, by simp [Value.oneCell'], fun _ => ⟨by kernel_rfl, by kernel_rfl, fun fields hu => by rw [Tryd.underlying61] at hu; injection hu with hu; injection hu with hu; subst hu; simp⟩⟩
theorem tt_61 : tt 61 = some ⟨.struct [(0, 9), (1, 3)], 2, 24, [Value.string ⟨#[]⟩, Value.int IntKind.i64 0], true⟩ := rfl
theorem tt62 : TIOk Tryd.prog 62 ⟨.cell, 1, 8, [Value.nilFunc], false⟩ := ⟨⟨_, Tryd.underlying62, rfl⟩, ⟨Tryd.t62, _, by kernel_rfl, rfl, rfl, rfl, rfl⟩, rfl, by simp [Value.oneCell'], fun h => by cases h⟩
theorem tt_62 : tt 62 = some ⟨.cell, 1, 8, [Value.nilFunc], false⟩ := rfl
theorem tt63 : TIOk Tryd.prog 63 ⟨.cell, 1, 8, [Value.nilFunc], false⟩ := ⟨⟨_, Tryd.underlying63, rfl⟩, ⟨Tryd.t63, _, by kernel_rfl, rfl, rfl, rfl, rfl⟩, rfl, by simp [Value.oneCell'], fun h => by cases h⟩
theorem tt_63 : tt 63 = some ⟨.cell, 1, 8, [Value.nilFunc], false⟩ := rfl
theorem tt64 : TIOk Tryd.prog 64 ⟨.cell, 1, 8, [Value.nilFunc], false⟩ := ⟨⟨_, Tryd.underlying64, rfl⟩, ⟨Tryd.t64, _, by kernel_rfl, rfl, rfl, rfl, rfl⟩, rfl, by simp [Value.oneCell'], fun h => by cases h⟩
theorem tt_64 : tt 64 = some ⟨.cell, 1, 8, [Value.nilFunc], false⟩ := rfl
theorem tt65 : TIOk Tryd.prog 65 ⟨.arr 2 36, 4, 96, [Value.slice none 0 0, Value.slice none 0 0, Value.slice none 0 0, Value.slice none 0 0], false⟩ := ⟨Tryd.underlying65, ⟨Tryd.t65, _, by kernel_rfl, rfl, rfl, rfl, rfl⟩, rfl, by simp [Value.oneCell'], fun h => by cases h⟩
theorem tt_65 : tt 65 = some ⟨.arr 2 36, 4, 96, [Value.slice none 0 0, Value.slice none 0 0, Value.slice none 0 0, Value.slice none 0 0], false⟩ := rfl
theorem tt66 : TIOk Tryd.prog 66 ⟨.cell, 1, 8, [Value.nilFunc], false⟩ := ⟨⟨_, Tryd.underlying66, rfl⟩, ⟨Tryd.t66, _, by kernel_rfl, rfl, rfl, rfl, rfl⟩, rfl, by simp [Value.oneCell'], fun h => by cases h⟩
theorem tt_66 : tt 66 = some ⟨.cell, 1, 8, [Value.nilFunc], false⟩ := rfl
theorem tt67 : TIOk Tryd.prog 67 ⟨.cell, 1, 8, [Value.nilFunc], false⟩ := ⟨⟨_, Tryd.underlying67, rfl⟩, ⟨Tryd.t67, _, by kernel_rfl, rfl, rfl, rfl, rfl⟩, rfl, by simp [Value.oneCell'], fun h => by cases h⟩
theorem tt_67 : tt 67 = some ⟨.cell, 1, 8, [Value.nilFunc], false⟩ := rfl
theorem tt68 : TIOk Tryd.prog 68 ⟨.cell, 1, 8, [Value.nilFunc], false⟩ := ⟨⟨_, Tryd.underlying68, rfl⟩, ⟨Tryd.t68, _, by kernel_rfl, rfl, rfl, rfl, rfl⟩, rfl, by simp [Value.oneCell'], fun h => by cases h⟩
theorem tt_68 : tt 68 = some ⟨.cell, 1, 8, [Value.nilFunc], false⟩ := rfl
theorem tt70 : TIOk Tryd.prog 70 ⟨.cell, 1, 8, [Value.nilFunc], false⟩ := ⟨⟨_, Tryd.underlying70, rfl⟩, ⟨Tryd.t70, _, by kernel_rfl, rfl, rfl, rfl, rfl⟩, rfl, by simp [Value.oneCell'], fun h => by cases h⟩
theorem tt_70 : tt 70 = some ⟨.cell, 1, 8, [Value.nilFunc], false⟩ := rfl
theorem tt71 : TIOk Tryd.prog 71 ⟨.cell, 1, 8, [Value.nilFunc], false⟩ := ⟨⟨_, Tryd.underlying71, rfl⟩, ⟨Tryd.t71, _, by kernel_rfl, rfl, rfl, rfl, rfl⟩, rfl, by simp [Value.oneCell'], fun h => by cases h⟩
theorem tt_71 : tt 71 = some ⟨.cell, 1, 8, [Value.nilFunc], false⟩ := rfl
theorem tt72 : TIOk Tryd.prog 72 ⟨.cell, 1, 8, [Value.nilFunc], false⟩ := ⟨⟨_, Tryd.underlying72, rfl⟩, ⟨Tryd.t72, _, by kernel_rfl, rfl, rfl, rfl, rfl⟩, rfl, by simp [Value.oneCell'], fun h => by cases h⟩
theorem tt_72 : tt 72 = some ⟨.cell, 1, 8, [Value.nilFunc], false⟩ := rfl
theorem tt73 : TIOk Tryd.prog 73 ⟨.cell, 1, 8, [Value.nilFunc], false⟩ := ⟨⟨_, Tryd.underlying73, rfl⟩, ⟨Tryd.t73, _, by kernel_rfl, rfl, rfl, rfl, rfl⟩, rfl, by simp [Value.oneCell'], fun h => by cases h⟩
theorem tt_73 : tt 73 = some ⟨.cell, 1, 8, [Value.nilFunc], false⟩ := rfl
theorem tt75 : TIOk Tryd.prog 75 ⟨.cell, 1, 8, [Value.nilFunc], false⟩ := ⟨⟨_, Tryd.underlying75, rfl⟩, ⟨Tryd.t75, _, by kernel_rfl, rfl, rfl, rfl, rfl⟩, rfl, by simp [Value.oneCell'], fun h => by cases h⟩
theorem tt_75 : tt 75 = some ⟨.cell, 1, 8, [Value.nilFunc], false⟩ := rfl
theorem tt76 : TIOk Tryd.prog 76 ⟨.cell, 1, 8, [Value.nilFunc], false⟩ := ⟨⟨_, Tryd.underlying76, rfl⟩, ⟨Tryd.t76, _, by kernel_rfl, rfl, rfl, rfl, rfl⟩, rfl, by simp [Value.oneCell'], fun h => by cases h⟩
theorem tt_76 : tt 76 = some ⟨.cell, 1, 8, [Value.nilFunc], false⟩ := rfl
theorem tt78 : TIOk Tryd.prog 78 ⟨.cell, 1, 8, [Value.nilFunc], false⟩ := ⟨⟨_, Tryd.underlying78, rfl⟩, ⟨Tryd.t78, _, by kernel_rfl, rfl, rfl, rfl, rfl⟩, rfl, by simp [Value.oneCell'], fun h => by cases h⟩
theorem tt_78 : tt 78 = some ⟨.cell, 1, 8, [Value.nilFunc], false⟩ := rfl
theorem tt79 : TIOk Tryd.prog 79 ⟨.cell, 1, 8, [Value.nilFunc], false⟩ := ⟨⟨_, Tryd.underlying79, rfl⟩, ⟨Tryd.t79, _, by kernel_rfl, rfl, rfl, rfl, rfl⟩, rfl, by simp [Value.oneCell'], fun h => by cases h⟩
theorem tt_79 : tt 79 = some ⟨.cell, 1, 8, [Value.nilFunc], false⟩ := rfl
theorem tt80 : TIOk Tryd.prog 80 ⟨.cell, 1, 8, [Value.nilFunc], false⟩ := ⟨⟨_, Tryd.underlying80, rfl⟩, ⟨Tryd.t80, _, by kernel_rfl, rfl, rfl, rfl, rfl⟩, rfl, by simp [Value.oneCell'], fun h => by cases h⟩
theorem tt_80 : tt 80 = some ⟨.cell, 1, 8, [Value.nilFunc], false⟩ := rfl
theorem tt81 : TIOk Tryd.prog 81 ⟨.arr 6 9, 6, 96, [Value.string ⟨#[]⟩, Value.string ⟨#[]⟩, Value.string ⟨#[]⟩, Value.string ⟨#[]⟩, Value.string ⟨#[]⟩, Value.string ⟨#[]⟩], false⟩ := ⟨Tryd.underlying81, ⟨Tryd.t81, _, by kernel_rfl, rfl, rfl, rfl, rfl⟩, rfl, by simp [Value.oneCell'], fun h => by cases h⟩
theorem tt_81 : tt 81 = some ⟨.arr 6 9, 6, 96, [Value.string ⟨#[]⟩, Value.string ⟨#[]⟩, Value.string ⟨#[]⟩, Value.string ⟨#[]⟩, Value.string ⟨#[]⟩, Value.string ⟨#[]⟩], false⟩ := rfl
theorem tt82 : TIOk Tryd.prog 82 ⟨.cell, 1, 8, [Value.nilFunc], false⟩ := ⟨⟨_, Tryd.underlying82, rfl⟩, ⟨Tryd.t82, _, by kernel_rfl, rfl, rfl, rfl, rfl⟩, rfl, by simp [Value.oneCell'], fun h => by cases h⟩
theorem tt_82 : tt 82 = some ⟨.cell, 1, 8, [Value.nilFunc], false⟩ := rfl
theorem tt83 : TIOk Tryd.prog 83 ⟨.cell, 1, 8, [Value.nilFunc], false⟩ := ⟨⟨_, Tryd.underlying83, rfl⟩, ⟨Tryd.t83, _, by kernel_rfl, rfl, rfl, rfl, rfl⟩, rfl, by simp [Value.oneCell'], fun h => by cases h⟩
theorem tt_83 : tt 83 = some ⟨.cell, 1, 8, [Value.nilFunc], false⟩ := rfl
theorem tt84 : TIOk Tryd.prog 84 ⟨.cell, 1, 8, [Value.nilFunc], false⟩ := ⟨⟨_, Tryd.underlying84, rfl⟩, ⟨Tryd.t84, _, by kernel_rfl, rfl, rfl, rfl, rfl⟩, rfl, by simp [Value.oneCell'], fun h => by cases h⟩
theorem tt_84 : tt 84 = some ⟨.cell, 1, 8, [Value.nilFunc], false⟩ := rfl
theorem tt85 : TIOk Tryd.prog 85 ⟨.cell, 1, 8, [Value.nilFunc], false⟩ := ⟨⟨_, Tryd.underlying85, rfl⟩, ⟨Tryd.t85, _, by kernel_rfl, rfl, rfl, rfl, rfl⟩, rfl, by simp [Value.oneCell'], fun h => by cases h⟩
theorem tt_85 : tt 85 = some ⟨.cell, 1, 8, [Value.nilFunc], false⟩ := rfl
theorem tt86 : TIOk Tryd.prog 86 ⟨.cell, 1, 8, [Value.nilFunc], false⟩ := ⟨⟨_, Tryd.underlying86, rfl⟩, ⟨Tryd.t86, _, by kernel_rfl, rfl, rfl, rfl, rfl⟩, rfl, by simp [Value.oneCell'], fun h => by cases h⟩
theorem tt_86 : tt 86 = some ⟨.cell, 1, 8, [Value.nilFunc], false⟩ := rfl
theorem tt87 : TIOk Tryd.prog 87 ⟨.cell, 1, 8, [Value.nilFunc], false⟩ := ⟨⟨_, Tryd.underlying87, rfl⟩, ⟨Tryd.t87, _, by kernel_rfl, rfl, rfl, rfl, rfl⟩, rfl, by simp [Value.oneCell'], fun h => by cases h⟩
theorem tt_87 : tt 87 = some ⟨.cell, 1, 8, [Value.nilFunc], false⟩ := rfl
theorem tt88 : TIOk Tryd.prog 88 ⟨.arr 3 9, 3, 48, [Value.string ⟨#[]⟩, Value.string ⟨#[]⟩, Value.string ⟨#[]⟩], false⟩ := ⟨Tryd.underlying88, ⟨Tryd.t88, _, by kernel_rfl, rfl, rfl, rfl, rfl⟩, rfl, by simp [Value.oneCell'], fun h => by cases h⟩
theorem tt_88 : tt 88 = some ⟨.arr 3 9, 3, 48, [Value.string ⟨#[]⟩, Value.string ⟨#[]⟩, Value.string ⟨#[]⟩], false⟩ := rfl
theorem tt90 : TIOk Tryd.prog 90 ⟨.cell, 1, 8, [Value.nilFunc], false⟩ := ⟨⟨_, Tryd.underlying90, rfl⟩, ⟨Tryd.t90, _, by kernel_rfl, rfl, rfl, rfl, rfl⟩, rfl, by simp [Value.oneCell'], fun h => by cases h⟩
theorem tt_90 : tt 90 = some ⟨.cell, 1, 8, [Value.nilFunc], false⟩ := rfl
theorem tt91 : TIOk Tryd.prog 91 ⟨.cell, 1, 8, [Value.nilFunc], false⟩ := ⟨⟨_, Tryd.underlying91, rfl⟩, ⟨Tryd.t91, _, by kernel_rfl, rfl, rfl, rfl, rfl⟩, rfl, by simp [Value.oneCell'], fun h => by cases h⟩
theorem tt_91 : tt 91 = some ⟨.cell, 1, 8, [Value.nilFunc], false⟩ := rfl
theorem tt92 : TIOk Tryd.prog 92 ⟨.cell, 1, 8, [Value.nilFunc], false⟩ := ⟨⟨_, Tryd.underlying92, rfl⟩, ⟨Tryd.t92, _, by kernel_rfl, rfl, rfl, rfl, rfl⟩, rfl, by simp [Value.oneCell'], fun h => by cases h⟩
theorem tt_92 : tt 92 = some ⟨.cell, 1, 8, [Value.nilFunc], false⟩ := rfl
theorem tt93 : TIOk Tryd.prog 93 ⟨.cell, 1, 8, [Value.nilFunc], false⟩ := ⟨⟨_, Tryd.underlying93, rfl⟩, ⟨Tryd.t93, _, by kernel_rfl, rfl, rfl, rfl, rfl⟩, rfl, by simp [Value.oneCell'], fun h => by cases h⟩
theorem tt_93 : tt 93 = some ⟨.cell, 1, 8, [Value.nilFunc], false⟩ := rfl
theorem tt94 : TIOk Tryd.prog 94 ⟨.slc 3, 1, 24, [Value.slice none 0 0], false⟩ := ⟨Tryd.underlying94, ⟨Tryd.t94, _, by kernel_rfl, rfl, rfl, rfl, rfl⟩, rfl, by simp [Value.oneCell'], fun h => by cases h⟩
theorem tt_94 : tt 94 = some ⟨.slc 3, 1, 24, [Value.slice none 0 0], false⟩ := rfl
theorem tt95 : TIOk Tryd.prog 95 ⟨.cell, 1, 8, [Value.nilFunc], false⟩ := ⟨⟨_, Tryd.underlying95, rfl⟩, ⟨Tryd.t95, _, by kernel_rfl, rfl, rfl, rfl, rfl⟩, rfl, by simp [Value.oneCell'], fun h => by cases h⟩
theorem tt_95 : tt 95 = some ⟨.cell, 1, 8, [Value.nilFunc], false⟩ := rfl
theorem tt96 : TIOk Tryd.prog 96 ⟨.cell, 1, 8, [Value.nilFunc], false⟩ := ⟨⟨_, Tryd.underlying96, rfl⟩, ⟨Tryd.t96, _, by kernel_rfl, rfl, rfl, rfl, rfl⟩, rfl, by simp [Value.oneCell'], fun h => by cases h⟩
theorem tt_96 : tt 96 = some ⟨.cell, 1, 8, [Value.nilFunc], false⟩ := rfl
theorem tt97 : TIOk Tryd.prog 97 ⟨.struct [(0, 9), (1, 3)], 2, 24, [Value.string ⟨#[]⟩, Value.int IntKind.i64 0], true⟩ := ⟨⟨_, Tryd.underlying97, rfl⟩, ⟨Tryd.t97, _, by kernel_rfl, rfl, rfl, rfl, rfl⟩, rfl, by simp [Value.oneCell'], fun _ => ⟨by kernel_rfl, by kernel_rfl, fun fields hu => by rw [Tryd.underlying97] at hu; injection hu with hu; injection hu with hu; subst hu; simp⟩⟩
theorem tt_97 : tt 97 = some ⟨.struct [(0, 9), (1, 3)], 2, 24, [Value.string ⟨#[]⟩, Value.int IntKind.i64 0], true⟩ := rfl
theorem tt98 : TIOk Tryd.prog 98 ⟨.cell, 1, 8, [Value.nilFunc], false⟩ := ⟨⟨_, Tryd.underlying98, rfl⟩, ⟨Tryd.t98, _, by kernel_rfl, rfl, rfl, rfl, rfl⟩, rfl, by simp [Value.oneCell'], fun h => by cases h⟩
theorem tt_98 : tt 98 = some ⟨.cell, 1, 8, [Value.nilFunc], false⟩ := rfl
theorem tt99 : TIOk Tryd.prog 99 ⟨.cell, 1, 8, [Value.nilFunc], false⟩ := ⟨⟨_, Tryd.underlying99, rfl⟩, ⟨Tryd.t99, _, by kernel_rfl, rfl, rfl, rfl, rfl⟩, rfl, by simp [Value.oneCell'], fun h => by cases h⟩
theorem tt_99 : tt 99 = some ⟨.cell, 1, 8, [Value.nilFunc], false⟩ := rfl
theorem tt100 : TIOk Tryd.prog 100 ⟨.cell, 1, 8, [Value.nilFunc], false⟩ := ⟨⟨_, Tryd.underlying100, rfl⟩, ⟨Tryd.t100, _, by kernel_rfl, rfl, rfl, rfl, rfl⟩, rfl, by simp [Value.oneCell'], fun h => by cases h⟩
theorem tt_100 : tt 100 = some ⟨.cell, 1, 8, [Value.nilFunc], false⟩ := rfl
theorem tt101 : TIOk Tryd.prog 101 ⟨.cell, 1, 8, [Value.nilFunc], false⟩ := ⟨⟨_, Tryd.underlying101, rfl⟩, ⟨Tryd.t101, _, by kernel_rfl, rfl, rfl, rfl, rfl⟩, rfl, by simp [Value.oneCell'], fun h => by cases h⟩
theorem tt_101 : tt 101 = some ⟨.cell, 1, 8, [Value.nilFunc], false⟩ := rfl
theorem tt103 : TIOk Tryd.prog 103 ⟨.cell, 1, 8, [Value.nilFunc], false⟩ := ⟨⟨_, Tryd.underlying103, rfl⟩, ⟨Tryd.t103, _, by kernel_rfl, rfl, rfl, rfl, rfl⟩, rfl, by simp [Value.oneCell'], fun h => by cases h⟩
theorem tt_103 : tt 103 = some ⟨.cell, 1, 8, [Value.nilFunc], false⟩ := rfl
theorem tt104 : TIOk Tryd.prog 104 ⟨.cell, 1, 8, [Value.nilFunc], false⟩ := ⟨⟨_, Tryd.underlying104, rfl⟩, ⟨Tryd.t104, _, by kernel_rfl, rfl, rfl, rfl, rfl⟩, rfl, by simp [Value.oneCell'], fun h => by cases h⟩
theorem tt_104 : tt 104 = some ⟨.cell, 1, 8, [Value.nilFunc], false⟩ := rfl
theorem tt105 : TIOk Tryd.prog 105 ⟨.cell, 1, 8, [Value.nilFunc], false⟩ := ⟨⟨_, Tryd.underlying105, rfl⟩, ⟨Tryd.t105, _, by kernel_rfl, rfl, rfl, rfl, rfl⟩, rfl, by simp [Value.oneCell'], fun h => by cases h⟩
theorem tt_105 : tt 105 = some ⟨.cell, 1, 8, [Value.nilFunc], false⟩ := rfl
theorem tt106 : TIOk Tryd.prog 106 ⟨.cell, 1, 8, [Value.nilFunc], false⟩ := ⟨⟨_, Tryd.underlying106, rfl⟩, ⟨Tryd.t106, _, by kernel_rfl, rfl, rfl, rfl, rfl⟩, rfl, by simp [Value.oneCell'], fun h => by cases h⟩
theorem tt_106 : tt 106 = some ⟨.cell, 1, 8, [Value.nilFunc], false⟩ := rfl
theorem tt108 : TIOk Tryd.prog 108 ⟨.cell, 1, 8, [Value.nilFunc], false⟩ := ⟨⟨_, Tryd.underlying108, rfl⟩, ⟨Tryd.t108, _, by kernel_rfl, rfl, rfl, rfl, rfl⟩, rfl, by simp [Value.oneCell'], fun h => by cases h⟩
theorem tt_108 : tt 108 = some ⟨.cell, 1, 8, [Value.nilFunc], false⟩ := rfl
theorem tt109 : TIOk Tryd.prog 109 ⟨.cell, 1, 8, [Value.nilFunc], false⟩ := ⟨⟨_, Tryd.underlying109, rfl⟩, ⟨Tryd.t109, _, by kernel_rfl, rfl, rfl, rfl, rfl⟩, rfl, by simp [Value.oneCell'], fun h => by cases h⟩
theorem tt_109 : tt 109 = some ⟨.cell, 1, 8, [Value.nilFunc], false⟩ := rfl
theorem tt110 : TIOk Tryd.prog 110 ⟨.cell, 1, 8, [Value.nilFunc], false⟩ := ⟨⟨_, Tryd.underlying110, rfl⟩, ⟨Tryd.t110, _, by kernel_rfl, rfl, rfl, rfl, rfl⟩, rfl, by simp [Value.oneCell'], fun h => by cases h⟩
theorem tt_110 : tt 110 = some ⟨.cell, 1, 8, [Value.nilFunc], false⟩ := rfl
theorem tt111 : TIOk Tryd.prog 111 ⟨.cell, 1, 8, [Value.nilFunc], false⟩ := ⟨⟨_, Tryd.underlying111, rfl⟩, ⟨Tryd.t111, _, by kernel_rfl, rfl, rfl, rfl, rfl⟩, rfl, by simp [Value.oneCell'], fun h => by cases h⟩
theorem tt_111 : tt 111 = some ⟨.cell, 1, 8, [Value.nilFunc], false⟩ := rfl
theorem tt112 : TIOk Tryd.prog 112 ⟨.cell, 1, 8, [Value.nilFunc], false⟩ := ⟨⟨_, Tryd.underlying112, rfl⟩, ⟨Tryd.t112, _, by kernel_rfl, rfl, rfl, rfl, rfl⟩, rfl, by simp [Value.oneCell'], fun h => by cases h⟩
theorem tt_112 : tt 112 = some ⟨.cell, 1, 8, [Value.nilFunc], false⟩ := rfl
theorem tt113 : TIOk Tryd.prog 113 ⟨.cell, 1, 8, [Value.nilFunc], false⟩ := ⟨⟨_, Tryd.underlying113, rfl⟩, ⟨Tryd.t113, _, by kernel_rfl, rfl, rfl, rfl, rfl⟩, rfl, by simp [Value.oneCell'], fun h => by cases h⟩
theorem tt_113 : tt 113 = some ⟨.cell, 1, 8, [Value.nilFunc], false⟩ := rfl
theorem tt114 : TIOk Tryd.prog 114 ⟨.cell, 1, 8, [Value.nilFunc], false⟩ := ⟨⟨_, Tryd.underlying114, rfl⟩, ⟨Tryd.t114, _, by kernel_rfl, rfl, rfl, rfl, rfl⟩, rfl, by simp [Value.oneCell'], fun h => by cases h⟩
theorem tt_114 : tt 114 = some ⟨.cell, 1, 8, [Value.nilFunc], false⟩ := rfl
theorem tt115 : TIOk Tryd.prog 115 ⟨.cell, 1, 8, [Value.nilFunc], false⟩ := ⟨⟨_, Tryd.underlying115, rfl⟩, ⟨Tryd.t115, _, by kernel_rfl, rfl, rfl, rfl, rfl⟩, rfl, by simp [Value.oneCell'], fun h => by cases h⟩
theorem tt_115 : tt 115 = some ⟨.cell, 1, 8, [Value.nilFunc], false⟩ := rfl
theorem tt116 : TIOk Tryd.prog 116 ⟨.cell, 1, 8, [Value.nilFunc], false⟩ := ⟨⟨_, Tryd.underlying116, rfl⟩, ⟨Tryd.t116, _, by kernel_rfl, rfl, rfl, rfl, rfl⟩, rfl, by simp [Value.oneCell'], fun h => by cases h⟩
theorem tt_116 : tt 116 = some ⟨.cell, 1, 8, [Value.nilFunc], false⟩ := rfl
theorem tt117 : TIOk Tryd.prog 117 ⟨.cell, 1, 8, [Value.nilFunc], false⟩ := ⟨⟨_, Tryd.underlying117, rfl⟩, ⟨Tryd.t117, _, by kernel_rfl, rfl, rfl, rfl, rfl⟩, rfl, by simp [Value.oneCell'], fun h => by cases h⟩
theorem tt_117 : tt 117 = some ⟨.cell, 1, 8, [Value.nilFunc], false⟩ := rfl
theorem tt118 : TIOk Tryd.prog 118 ⟨.cell, 1, 8, [Value.nilFunc], false⟩ := ⟨⟨_, Tryd.underlying118, rfl⟩, ⟨Tryd.t118, _, by kernel_rfl, rfl, rfl, rfl, rfl⟩, rfl, by simp [Value.oneCell'], fun h => by cases h⟩
theorem tt_118 : tt 118 = some ⟨.cell, 1, 8, [Value.nilFunc], false⟩ := rfl
theorem tt119 : TIOk Tryd.prog 119 ⟨.cell, 1, 8, [Value.nilFunc], false⟩ := ⟨⟨_, Tryd.underlying119, rfl⟩, ⟨Tryd.t119, _, by kernel_rfl, rfl, rfl, rfl, rfl⟩, rfl, by simp [Value.oneCell'], fun h => by cases h⟩
theorem tt_119 : tt 119 = some ⟨.cell, 1, 8, [Value.nilFunc], false⟩ := rfl
theorem tt120 : TIOk Tryd.prog 120 ⟨.cell, 1, 8, [Value.nilFunc], false⟩ := ⟨⟨_, Tryd.underlying120, rfl⟩, ⟨Tryd.t120, _, by kernel_rfl, rfl, rfl, rfl, rfl⟩, rfl, by simp [Value.oneCell'], fun h => by cases h⟩
theorem tt_120 : tt 120 = some ⟨.cell, 1, 8, [Value.nilFunc], false⟩ := rfl
theorem tt121 : TIOk Tryd.prog 121 ⟨.cell, 1, 8, [Value.nilFunc], false⟩ := ⟨⟨_, Tryd.underlying121, rfl⟩, ⟨Tryd.t121, _, by kernel_rfl, rfl, rfl, rfl, rfl⟩, rfl, by simp [Value.oneCell'], fun h => by cases h⟩
theorem tt_121 : tt 121 = some ⟨.cell, 1, 8, [Value.nilFunc], false⟩ := rfl
theorem tt122 : TIOk Tryd.prog 122 ⟨.cell, 1, 8, [Value.nilFunc], false⟩ := ⟨⟨_, Tryd.underlying122, rfl⟩, ⟨Tryd.t122, _, by kernel_rfl, rfl, rfl, rfl, rfl⟩, rfl, by simp [Value.oneCell'], fun h => by cases h⟩
theorem tt_122 : tt 122 = some ⟨.cell, 1, 8, [Value.nilFunc], false⟩ := rfl
theorem tt123 : TIOk Tryd.prog 123 ⟨.cell, 1, 8, [Value.nilFunc], false⟩ := ⟨⟨_, Tryd.underlying123, rfl⟩, ⟨Tryd.t123, _, by kernel_rfl, rfl, rfl, rfl, rfl⟩, rfl, by simp [Value.oneCell'], fun h => by cases h⟩
theorem tt_123 : tt 123 = some ⟨.cell, 1, 8, [Value.nilFunc], false⟩ := rfl
theorem tt124 : TIOk Tryd.prog 124 ⟨.cell, 1, 8, [Value.nilFunc], false⟩ := ⟨⟨_, Tryd.underlying124, rfl⟩, ⟨Tryd.t124, _, by kernel_rfl, rfl, rfl, rfl, rfl⟩, rfl, by simp [Value.oneCell'], fun h => by cases h⟩
theorem tt_124 : tt 124 = some ⟨.cell, 1, 8, [Value.nilFunc], false⟩ := rfl
theorem tt125 : TIOk Tryd.prog 125 ⟨.cell, 1, 8, [Value.nilFunc], false⟩ := ⟨⟨_, Tryd.underlying125, rfl⟩, ⟨Tryd.t125, _, by kernel_rfl, rfl, rfl, rfl, rfl⟩, rfl, by simp [Value.oneCell'], fun h => by cases h⟩
theorem tt_125 : tt 125 = some ⟨.cell, 1, 8, [Value.nilFunc], false⟩ := rfl
theorem tt126 : TIOk Tryd.prog 126 ⟨.cell, 1, 8, [Value.nilFunc], false⟩ := ⟨⟨_, Tryd.underlying126, rfl⟩, ⟨Tryd.t126, _, by kernel_rfl, rfl, rfl, rfl, rfl⟩, rfl, by simp [Value.oneCell'], fun h => by cases h⟩
theorem tt_126 : tt 126 = some ⟨.cell, 1, 8, [Value.nilFunc], false⟩ := rfl
theorem tt127 : TIOk Tryd.prog 127 ⟨.cell, 1, 8, [Value.nilFunc], false⟩ := ⟨⟨_, Tryd.underlying127, rfl⟩, ⟨Tryd.t127, _, by kernel_rfl, rfl, rfl, rfl, rfl⟩, rfl, by simp [Value.oneCell'], fun h => by cases h⟩
theorem tt_127 : tt 127 = some ⟨.cell, 1, 8, [Value.nilFunc], false⟩ := rfl
theorem tt128 : TIOk Tryd.prog 128 ⟨.cell, 1, 8, [Value.nilFunc], false⟩ := ⟨⟨_, Tryd.underlying128, rfl⟩, ⟨Tryd.t128, _, by kernel_rfl, rfl, rfl, rfl, rfl⟩, rfl, by simp [Value.oneCell'], fun h => by cases h⟩
theorem tt_128 : tt 128 = some ⟨.cell, 1, 8, [Value.nilFunc], false⟩ := rfl
theorem tt129 : TIOk Tryd.prog 129 ⟨.cell, 1, 8, [Value.nilFunc], false⟩ := ⟨⟨_, Tryd.underlying129, rfl⟩, ⟨Tryd.t129, _, by kernel_rfl, rfl, rfl, rfl, rfl⟩, rfl, by simp [Value.oneCell'], fun h => by cases h⟩
theorem tt_129 : tt 129 = some ⟨.cell, 1, 8, [Value.nilFunc], false⟩ := rfl
theorem tt130 : TIOk Tryd.prog 130 ⟨.cell, 1, 8, [Value.nilFunc], false⟩ := ⟨⟨_, Tryd.underlying130, rfl⟩, ⟨Tryd.t130, _, by kernel_rfl, rfl, rfl, rfl, rfl⟩, rfl, by simp [Value.oneCell'], fun h => by cases h⟩
theorem tt_130 : tt 130 = some ⟨.cell, 1, 8, [Value.nilFunc], false⟩ := rfl
theorem tt131 : TIOk Tryd.prog 131 ⟨.cell, 1, 8, [Value.nilFunc], false⟩ := ⟨⟨_, Tryd.underlying131, rfl⟩, ⟨Tryd.t131, _, by kernel_rfl, rfl, rfl, rfl, rfl⟩, rfl, by simp [Value.oneCell'], fun h => by cases h⟩
theorem tt_131 : tt 131 = some ⟨.cell, 1, 8, [Value.nilFunc], false⟩ := rfl
theorem tt132 : TIOk Tryd.prog 132 ⟨.cell, 1, 8, [Value.nilFunc], false⟩ := ⟨⟨_, Tryd.underlying132, rfl⟩, ⟨Tryd.t132, _, by kernel_rfl, rfl, rfl, rfl, rfl⟩, rfl, by simp [Value.oneCell'], fun h => by cases h⟩
theorem tt_132 : tt 132 = some ⟨.cell, 1, 8, [Value.nilFunc], false⟩ := rfl
theorem tt133 : TIOk Tryd.prog 133 ⟨.cell, 1, 8, [Value.nilFunc], false⟩ := ⟨⟨_, Tryd.underlying133, rfl⟩, ⟨Tryd.t133, _, by kernel_rfl, rfl, rfl, rfl, rfl⟩, rfl, by simp [Value.oneCell'], fun h => by cases h⟩
theorem tt_133 : tt 133 = some ⟨.cell, 1, 8, [Value.nilFunc], false⟩ := rfl
theorem tt134 : TIOk Tryd.prog 134 ⟨.cell, 1, 8, [Value.nilFunc], false⟩ := ⟨⟨_, Tryd.underlying134, rfl⟩, ⟨Tryd.t134, _, by kernel_rfl, rfl, rfl, rfl, rfl⟩, rfl, by simp [Value.oneCell'], fun h => by cases h⟩
theorem tt_134 : tt 134 = some ⟨.cell, 1, 8, [Value.nilFunc], false⟩ := rfl
theorem tt135 : TIOk Tryd.prog 135 ⟨.cell, 1, 8, [Value.nilFunc], false⟩ := ⟨⟨_, Tryd.underlying135, rfl⟩, ⟨Tryd.t135, _, by kernel_rfl, rfl, rfl, rfl, rfl⟩, rfl, by simp [Value.oneCell'], fun h => by cases h⟩
theorem tt_135 : tt 135 = some ⟨.cell, 1, 8, [Value.nilFunc], false⟩ := rfl
theorem tt136 : TIOk Tryd.prog 136 ⟨.slc 9, 1, 24, [Value.slice none 0 0], false⟩ := ⟨Tryd.underlying136, ⟨Tryd.t136, _, by kernel_rfl, rfl, rfl, rfl, rfl⟩, rfl, by simp [Value.oneCell'], fun h => by cases h⟩
theorem tt_136 : tt 136 = some ⟨.slc 9, 1, 24, [Value.slice none 0 0], false⟩ := rfl
theorem tt137 : TIOk Tryd.prog 137 ⟨.cell, 1, 8, [Value.nilFunc], false⟩ := ⟨⟨_, Tryd.underlying137, rfl⟩, ⟨Tryd.t137, _, by kernel_rfl, rfl, rfl, rfl, rfl⟩, rfl, by simp [Value.oneCell'], fun h => by cases h⟩
theorem tt_137 : tt 137 = some ⟨.cell, 1, 8, [Value.nilFunc], false⟩ := rfl
theorem tt138 : TIOk Tryd.prog 138 ⟨.cell, 1, 8, [Value.nilFunc], false⟩ := ⟨⟨_, Tryd.underlying138, rfl⟩, ⟨Tryd.t138, _, by kernel_rfl, rfl, rfl, rfl, rfl⟩, rfl, by simp [Value.oneCell'], fun h => by cases h⟩
theorem tt_138 : tt 138 = some ⟨.cell, 1, 8, [Value.nilFunc], false⟩ := rfl
theorem tt139 : TIOk Tryd.prog 139 ⟨.cell, 1, 8, [Value.nilFunc], false⟩ := ⟨⟨_, Tryd.underlying139, rfl⟩, ⟨Tryd.t139, _, by kernel_rfl, rfl, rfl, rfl, rfl⟩, rfl, by simp [Value.oneCell'], fun h => by cases h⟩
theorem tt_139 : tt 139 = some ⟨.cell, 1, 8, [Value.nilFunc], false⟩ := rfl
theorem tt140 : TIOk Tryd.prog 140 ⟨.cell, 1, 8, [Value.nilFunc], false⟩ := ⟨⟨_, Tryd.underlying140, rfl⟩, ⟨Tryd.t140, _, by kernel_rfl, rfl, rfl, rfl, rfl⟩, rfl, by simp [Value.oneCell'], fun h => by cases h⟩
theorem tt_140 : tt 140 = some ⟨.cell, 1, 8, [Value.nilFunc], false⟩ := rfl
theorem tt142 : TIOk Tryd.prog 142 ⟨.cell, 1, 8, [Value.nilFunc], false⟩ := ⟨⟨_, Tryd.underlying142, rfl⟩, ⟨Tryd.t142, _, by kernel_rfl, rfl, rfl, rfl, rfl⟩, rfl, by simp [Value.oneCell'], fun h => by cases h⟩
theorem tt_142 : tt 142 = some ⟨.cell, 1, 8, [Value.nilFunc], false⟩ := rfl
theorem tt143 : TIOk Tryd.prog 143 ⟨.cell, 1, 8, [Value.nilFunc], false⟩ := ⟨⟨_, Tryd.underlying143, rfl⟩, ⟨Tryd.t143, _, by kernel_rfl, rfl, rfl, rfl, rfl⟩, rfl, by simp [Value.oneCell'], fun h => by cases h⟩
theorem tt_143 : tt 143 = some ⟨.cell, 1, 8, [Value.nilFunc], false⟩ := rfl
theorem tt144 : TIOk Tryd.prog 144 ⟨.cell, 1, 8, [Value.nilFunc], false⟩ := ⟨⟨_, Tryd.underlying144, rfl⟩, ⟨Tryd.t144, _, by kernel_rfl, rfl, rfl, rfl, rfl⟩, rfl, by simp [Value.oneCell'], fun h => by cases h⟩
theorem tt_144 : tt 144 = some ⟨.cell, 1, 8, [Value.nilFunc], false⟩ := rfl
theorem tt145 : TIOk Tryd.prog 145 ⟨.cell, 1, 8, [Value.nilFunc], false⟩ := ⟨⟨_, Tryd.underlying145, rfl⟩, ⟨Tryd.t145, _, by kernel_rfl, rfl, rfl, rfl, rfl⟩, rfl, by simp [Value.oneCell'], fun h => by cases h⟩
theorem tt_145 : tt 145 = some ⟨.cell, 1, 8, [Value.nilFunc], false⟩ := rfl
theorem tt147 : TIOk Tryd.prog 147 ⟨.struct [(0, 5), (1, 5)], 2, 2, [Value.int IntKind.u8 0, Value.int IntKind.u8 0], false⟩ := ⟨⟨_, Tryd.underlying147, rfl⟩, ⟨Tryd.t147, _, by kernel_rfl, rfl, rfl, rfl, rfl⟩, rfl, by simp [Value.oneCell'], fun h => by cases h⟩
theorem tt_147 : tt 147 = some ⟨.struct [(0, 5), (1, 5)], 2, 2, [Value.int IntKind.u8 0, Value.int IntKind.u8 0], false⟩ := rfl
theorem tt148 : TIOk Tryd.prog 148 ⟨.struct [(0, 5), (1, 5)], 2, 2, [Value.int IntKind.u8 0, Value.int IntKind.u8 0], true⟩ := ⟨⟨_, Tryd.underlying148, rfl⟩, ⟨Tryd.t148, _, by kernel_rfl, rfl, rfl, rfl, rfl⟩, rfl, by simp [Value.oneCell'], fun _ => ⟨by kernel_rfl, by kernel_rfl, fun fields hu => by rw [Tryd.underlying148] at hu; injection hu with hu; injection hu with hu; subst hu; simp⟩⟩
theorem tt_148 : tt 148 = some ⟨.struct [(0, 5), (1, 5)], 2, 2, [Value.int IntKind.u8 0, Value.int IntKind.u8 0], true⟩ := rfl
theorem tt149 : TIOk Tryd.prog 149 ⟨.arr 16 148, 32, 32, [Value.int IntKind.u8 0, Value.int IntKind.u8 0, Value.int IntKind.u8 0, Value.int IntKind.u8 0, Value.int IntKind.u8 0, Value.int IntKind.u8 0, Value.int IntKind.u8 0, Value.int IntKind.u8 0, Value.int IntKind.u8 0, Value.int IntKind.u8 0, Value.int IntKind.u8 0, Value.int IntKind.u8 0, Value.int IntKind.u8 0, Value.int IntKind.u8 0, Value.int IntKind.u8 0, Value.int IntKind.u8 0, Value.int IntKind.u8 0, Value.int IntKind.u8 0, Value.int IntKind.u8 0, Value.int IntKind.u8 0, Value.int IntKind.u8 0, Value.int IntKind.u8 0, Value.int IntKind.u8 0, Value.int IntKind.u8 0, Value.int IntKind.u8 0, Value.int IntKind.u8 0, Value.int IntKind.u8 0, Value.int IntKind.u8 0, Value.int IntKind.u8 0, Value.int IntKind.u8 0, Value.int IntKind.u8 0, Value.int IntKind.u8 0], false⟩ := ⟨Tryd.underlying149, ⟨Tryd.t149, _, by kernel_rfl, rfl, rfl, rfl, rfl⟩, rfl, by simp [Value.oneCell'], fun h => by cases h⟩
theorem tt_149 : tt 149 = some ⟨.arr 16 148, 32, 32, [Value.int IntKind.u8 0, Value.int IntKind.u8 0, Value.int IntKind.u8 0, Value.int IntKind.u8 0, Value.int IntKind.u8 0, Value.int IntKind.u8 0, Value.int IntKind.u8 0, Value.int IntKind.u8 0, Value.int IntKind.u8 0, Value.int IntKind.u8 0, Value.int IntKind.u8 0, Value.int IntKind.u8 0, Value.int IntKind.u8 0, Value.int IntKind.u8 0, Value.int IntKind.u8 0, Value.int IntKind.u8 0, Value.int IntKind.u8 0, Value.int IntKind.u8 0, Value.int IntKind.u8 0, Value.int IntKind.u8 0, Value.int IntKind.u8 0, Value.int IntKind.u8 0, Value.int IntKind.u8 0, Value.int IntKind.u8 0, Value.int IntKind.u8 0, Value.int IntKind.u8 0, Value.int IntKind.u8 0, Value.int IntKind.u8 0, Value.int IntKind.u8 0, Value.int IntKind.u8 0, Value.int IntKind.u8 0, Value.int IntKind.u8 0], false⟩ := rfl
theorem tt150 : TIOk Tryd.prog 150 ⟨.int .u32, 1, 4, [Value.int IntKind.u32 0], false⟩ := ⟨Tryd.underlying150, ⟨Tryd.t150, _, by kernel_rfl, rfl, rfl, rfl, rfl⟩, rfl, by simp [Value.oneCell'], fun h => by cases h⟩
theorem tt_150 : tt 150 = some ⟨.int .u32, 1, 4, [Value.int IntKind.u32 0], false⟩ := rfl
theorem tt152 : TIOk Tryd.prog 152 ⟨.cell, 1, 8, [Value.nilFunc], false⟩ := ⟨⟨_, Tryd.underlying152, rfl⟩, ⟨Tryd.t152, _, by kernel_rfl, rfl, rfl, rfl, rfl⟩, rfl, by simp [Value.oneCell'], fun h => by cases h⟩
theorem tt_152 : tt 152 = some ⟨.cell, 1, 8, [Value.nilFunc], false⟩ := rfl
theorem tt153 : TIOk Tryd.prog 153 ⟨.cell, 1, 8, [Value.nilFunc], false⟩ := ⟨⟨_, Tryd.underlying153, rfl⟩, ⟨Tryd.t153, _, by kernel_rfl, rfl, rfl, rfl, rfl⟩, rfl, by simp [Value.oneCell'], fun h => by cases h⟩
theorem tt_153 : tt 153 = some ⟨.cell, 1, 8, [Value.nilFunc], false⟩ := rfl
theorem tt154 : TIOk Tryd.prog 154 ⟨.struct [(0, 17), (1, 17), (2, 17), (3, 9)], 4, 40, [Value.pointer none, Value.pointer none, Value.pointer none, Value.string ⟨#[]⟩], false⟩ := ⟨⟨_, Tryd.underlying154, rfl⟩, ⟨Tryd.t154, _, by kernel_rfl, rfl, rfl, rfl, rfl⟩, rfl, by simp [Value.oneCell'], fun h => by cases h⟩
theorem tt_154 : tt 154 = some ⟨.struct [(0, 17), (1, 17), (2, 17), (3, 9)], 4, 40, [Value.pointer none, Value.pointer none, Value.pointer none, Value.string ⟨#[]⟩], false⟩ := rfl
theorem tt156 : TIOk Tryd.prog 156 ⟨.arr 0 16, 0, 0, [], false⟩ := ⟨Tryd.underlying156, ⟨Tryd.t156, _, by kernel_rfl, rfl, rfl, rfl, rfl⟩, rfl, by simp [Value.oneCell'], fun h => by cases h⟩
theorem tt_156 : tt 156 = some ⟨.arr 0 16, 0, 0, [], false⟩ := rfl
theorem tt157 : TIOk Tryd.prog 157 ⟨.struct [(0, 156)], 0, 0, [], false⟩ := ⟨⟨_, Tryd.underlying157, rfl⟩, ⟨Tryd.t157, _, by kernel_rfl, rfl, rfl, rfl, rfl⟩, rfl, by simp [Value.oneCell'], fun h => by cases h⟩
theorem tt_157 : tt 157 = some ⟨.struct [(0, 156)], 0, 0, [], false⟩ := rfl
theorem tt161 : TIOk Tryd.prog 161 ⟨.cell, 1, 8, [Value.nilFunc], false⟩ := ⟨⟨_, Tryd.underlying161, rfl⟩, ⟨Tryd.t161, _, by kernel_rfl, rfl, rfl, rfl, rfl⟩, rfl, by simp [Value.oneCell'], fun h => by cases h⟩
theorem tt_161 : tt 161 = some ⟨.cell, 1, 8, [Value.nilFunc], false⟩ := rfl
theorem tt162 : TIOk Tryd.prog 162 ⟨.cell, 1, 8, [Value.pointer none], false⟩ := ⟨⟨_, Tryd.underlying162, rfl⟩, ⟨Tryd.t162, _, by kernel_rfl, rfl, rfl, rfl, rfl⟩, rfl, by simp [Value.oneCell'], fun h => by cases h⟩
theorem tt_162 : tt 162 = some ⟨.cell, 1, 8, [Value.pointer none], false⟩ := rfl
theorem tt165 : TIOk Tryd.prog 165 ⟨.struct [(0, 12), (1, 12), (2, 150), (3, 159), (4, 5), (5, 5), (6, 160), (7, 161), (8, 162), (9, 163), (10, 164)], 11, 48, [Value.int IntKind.u64 0, Value.int IntKind.u64 0, Value.int IntKind.u32 0, Value.int IntKind.u8 0, Value.int IntKind.u8 0, Value.int IntKind.u8 0, Value.int IntKind.u8 0, Value.nilFunc, Value.pointer none, Value.int IntKind.i32 0, Value.int IntKind.i32 0], false⟩ := ⟨⟨_, Tryd.underlying165, rfl⟩, ⟨Tryd.t165, _, by kernel_rfl, rfl, rfl, rfl, rfl⟩, rfl, by simp [Value.oneCell'], fun h => by cases h⟩
theorem tt_165 : tt 165 = some ⟨.struct [(0, 12), (1, 12), (2, 150), (3, 159), (4, 5), (5, 5), (6, 160), (7, 161), (8, 162), (9, 163), (10, 164)], 11, 48, [Value.int IntKind.u64 0, Value.int IntKind.u64 0, Value.int IntKind.u32 0, Value.int IntKind.u8 0, Value.int IntKind.u8 0, Value.int IntKind.u8 0, Value.int IntKind.u8 0, Value.nilFunc, Value.pointer none, Value.int IntKind.i32 0, Value.int IntKind.i32 0], false⟩ := rfl
theorem tt167 : TIOk Tryd.prog 167 ⟨.cell, 1, 8, [Value.pointer none], false⟩ := ⟨⟨_, Tryd.underlying167, rfl⟩, ⟨Tryd.t167, _, by kernel_rfl, rfl, rfl, rfl, rfl⟩, rfl, by simp [Value.oneCell'], fun h => by cases h⟩
theorem tt_167 : tt 167 = some ⟨.cell, 1, 8, [Value.pointer none], false⟩ := rfl
theorem tt_ok : TTOk Tryd.prog tt := by
  intro t ti h
  unfold tt at h
  split at h
  · injection h with h; subst h; exact tt1
  · injection h with h; subst h; exact tt2
  · injection h with h; subst h; exact tt3
  · injection h with h; subst h; exact tt4
  · injection h with h; subst h; exact tt5
  · injection h with h; subst h; exact tt9
  · injection h with h; subst h; exact tt12
  · injection h with h; subst h; exact tt13
  · injection h with h; subst h; exact tt18
  · injection h with h; subst h; exact tt20
  · injection h with h; subst h; exact tt21
  · injection h with h; subst h; exact tt22
  · injection h with h; subst h; exact tt23
  · injection h with h; subst h; exact tt24
  · injection h with h; subst h; exact tt25
  · injection h with h; subst h; exact tt26
  · injection h with h; subst h; exact tt28
  · injection h with h; subst h; exact tt29
  · injection h with h; subst h; exact tt30
  · injection h with h; subst h; exact tt31
  · injection h with h; subst h; exact tt32
  · injection h with h; subst h; exact tt33
  · injection h with h; subst h; exact tt34
  · injection h with h; subst h; exact tt35
  · injection h with h; subst h; exact tt36
  · injection h with h; subst h; exact tt37
  · injection h with h; subst h; exact tt39
  · injection h with h; subst h; exact tt40
  · injection h with h; subst h; exact tt41
  · injection h with h; subst h; exact tt42
  · injection h with h; subst h; exact tt43
  · injection h with h; subst h; exact tt44
  · injection h with h; subst h; exact tt46
  · injection h with h; subst h; exact tt48
  · injection h with h; subst h; exact tt49
  · injection h with h; subst h; exact tt50
  · injection h with h; subst h; exact tt51
  · injection h with h; subst h; exact tt52
  · injection h with h; subst h; exact tt53
  · injection h with h; subst h; exact tt54
  · injection h with h; subst h; exact tt55
  · injection h with h; subst h; exact tt56
  · injection h with h; subst h; exact tt57
  · injection h with h; subst h; exact tt58
  · injection h with h; subst h; exact tt59
  · injection h with h; subst h; exact tt60
  · injection h with h; subst h; exact tt61
  · injection h with h; subst h; exact tt62
  · injection h with h; subst h; exact tt63
  · injection h with h; subst h; exact tt64
  · injection h with h; subst h; exact tt65
  · injection h with h; subst h; exact tt66
  · injection h with h; subst h; exact tt67
  · injection h with h; subst h; exact tt68
  · injection h with h; subst h; exact tt70
  · injection h with h; subst h; exact tt71
  · injection h with h; subst h; exact tt72
  · injection h with h; subst h; exact tt73
  · injection h with h; subst h; exact tt75
  · injection h with h; subst h; exact tt76
  · injection h with h; subst h; exact tt78
  · injection h with h; subst h; exact tt79
  · injection h with h; subst h; exact tt80
  · injection h with h; subst h; exact tt81
  · injection h with h; subst h; exact tt82
  · injection h with h; subst h; exact tt83
  · injection h with h; subst h; exact tt84
  · injection h with h; subst h; exact tt85
  · injection h with h; subst h; exact tt86
  · injection h with h; subst h; exact tt87
  · injection h with h; subst h; exact tt88
  · injection h with h; subst h; exact tt90
  · injection h with h; subst h; exact tt91
  · injection h with h; subst h; exact tt92
  · injection h with h; subst h; exact tt93
  · injection h with h; subst h; exact tt94
  · injection h with h; subst h; exact tt95
  · injection h with h; subst h; exact tt96
  · injection h with h; subst h; exact tt97
  · injection h with h; subst h; exact tt98
  · injection h with h; subst h; exact tt99
  · injection h with h; subst h; exact tt100
  · injection h with h; subst h; exact tt101
  · injection h with h; subst h; exact tt103
  · injection h with h; subst h; exact tt104
  · injection h with h; subst h; exact tt105
  · injection h with h; subst h; exact tt106
  · injection h with h; subst h; exact tt108
  · injection h with h; subst h; exact tt109
  · injection h with h; subst h; exact tt110
  · injection h with h; subst h; exact tt111
  · injection h with h; subst h; exact tt112
  · injection h with h; subst h; exact tt113
  · injection h with h; subst h; exact tt114
  · injection h with h; subst h; exact tt115
  · injection h with h; subst h; exact tt116
  · injection h with h; subst h; exact tt117
  · injection h with h; subst h; exact tt118
  · injection h with h; subst h; exact tt119
  · injection h with h; subst h; exact tt120
  · injection h with h; subst h; exact tt121
  · injection h with h; subst h; exact tt122
  · injection h with h; subst h; exact tt123
  · injection h with h; subst h; exact tt124
  · injection h with h; subst h; exact tt125
  · injection h with h; subst h; exact tt126
  · injection h with h; subst h; exact tt127
  · injection h with h; subst h; exact tt128
  · injection h with h; subst h; exact tt129
  · injection h with h; subst h; exact tt130
  · injection h with h; subst h; exact tt131
  · injection h with h; subst h; exact tt132
  · injection h with h; subst h; exact tt133
  · injection h with h; subst h; exact tt134
  · injection h with h; subst h; exact tt135
  · injection h with h; subst h; exact tt136
  · injection h with h; subst h; exact tt137
  · injection h with h; subst h; exact tt138
  · injection h with h; subst h; exact tt139
  · injection h with h; subst h; exact tt140
  · injection h with h; subst h; exact tt142
  · injection h with h; subst h; exact tt143
  · injection h with h; subst h; exact tt144
  · injection h with h; subst h; exact tt145
  · injection h with h; subst h; exact tt147
  · injection h with h; subst h; exact tt148
  · injection h with h; subst h; exact tt149
  · injection h with h; subst h; exact tt150
  · injection h with h; subst h; exact tt152
  · injection h with h; subst h; exact tt153
  · injection h with h; subst h; exact tt154
  · injection h with h; subst h; exact tt156
  · injection h with h; subst h; exact tt157
  · injection h with h; subst h; exact tt161
  · injection h with h; subst h; exact tt162
  · injection h with h; subst h; exact tt165
  · injection h with h; subst h; exact tt167
  · cases h
theorem tts : (type_of% tt_1) ∧ (type_of% tt_2) ∧ (type_of% tt_3) ∧ (type_of% tt_4) ∧ (type_of% tt_5) ∧ (type_of% tt_9) ∧ (type_of% tt_12) ∧ (type_of% tt_13) ∧ (type_of% tt_18) ∧ (type_of% tt_20) ∧ (type_of% tt_21) ∧ (type_of% tt_22) ∧ (type_of% tt_23) ∧ (type_of% tt_24) ∧ (type_of% tt_25) ∧ (type_of% tt_26) ∧ (type_of% tt_28) ∧ (type_of% tt_29) ∧ (type_of% tt_30) ∧ (type_of% tt_31) ∧ (type_of% tt_32) ∧ (type_of% tt_33) ∧ (type_of% tt_34) ∧ (type_of% tt_35) ∧ (type_of% tt_36) ∧ (type_of% tt_37) ∧ (type_of% tt_39) ∧ (type_of% tt_40) ∧ (type_of% tt_41) ∧ (type_of% tt_42) ∧ (type_of% tt_43) ∧ (type_of% tt_44) ∧ (type_of% tt_46) ∧ (type_of% tt_48) ∧ (type_of% tt_49) ∧ (type_of% tt_50) ∧ (type_of% tt_51) ∧ (type_of% tt_52) ∧ (type_of% tt_53) ∧ (type_of% tt_54) ∧ (type_of% tt_55) ∧ (type_of% tt_56) ∧ (type_of% tt_57) ∧ (type_of% tt_58) ∧ (type_of% tt_59) ∧ (type_of% tt_60) ∧ (type_of% tt_61) ∧ (type_of% tt_62) ∧ (type_of% tt_63) ∧ (type_of% tt_64) ∧ (type_of% tt_65) ∧ (type_of% tt_66) ∧ (type_of% tt_67) ∧ (type_of% tt_68) ∧ (type_of% tt_70) ∧ (type_of% tt_71) ∧ (type_of% tt_72) ∧ (type_of% tt_73) ∧ (type_of% tt_75) ∧ (type_of% tt_76) ∧ (type_of% tt_78) ∧ (type_of% tt_79) ∧ (type_of% tt_80) ∧ (type_of% tt_81) ∧ (type_of% tt_82) ∧ (type_of% tt_83) ∧ (type_of% tt_84) ∧ (type_of% tt_85) ∧ (type_of% tt_86) ∧ (type_of% tt_87) ∧ (type_of% tt_88) ∧ (type_of% tt_90) ∧ (type_of% tt_91) ∧ (type_of% tt_92) ∧ (type_of% tt_93) ∧ (type_of% tt_94) ∧ (type_of% tt_95) ∧ (type_of% tt_96) ∧ (type_of% tt_97) ∧ (type_of% tt_98) ∧ (type_of% tt_99) ∧ (type_of% tt_100) ∧ (type_of% tt_101) ∧ (type_of% tt_103) ∧ (type_of% tt_104) ∧ (type_of% tt_105) ∧ (type_of% tt_106) ∧ (type_of% tt_108) ∧ (type_of% tt_109) ∧ (type_of% tt_110) ∧ (type_of% tt_111) ∧ (type_of% tt_112) ∧ (type_of% tt_113) ∧ (type_of% tt_114) ∧ (type_of% tt_115) ∧ (type_of% tt_116) ∧ (type_of% tt_117) ∧ (type_of% tt_118) ∧ (type_of% tt_119) ∧ (type_of% tt_120) ∧ (type_of% tt_121) ∧ (type_of% tt_122) ∧ (type_of% tt_123) ∧ (type_of% tt_124) ∧ (type_of% tt_125) ∧ (type_of% tt_126) ∧ (type_of% tt_127) ∧ (type_of% tt_128) ∧ (type_of% tt_129) ∧ (type_of% tt_130) ∧ (type_of% tt_131) ∧ (type_of% tt_132) ∧ (type_of% tt_133) ∧ (type_of% tt_134) ∧ (type_of% tt_135) ∧ (type_of% tt_136) ∧ (type_of% tt_137) ∧ (type_of% tt_138) ∧ (type_of% tt_139) ∧ (type_of% tt_140) ∧ (type_of% tt_142) ∧ (type_of% tt_143) ∧ (type_of% tt_144) ∧ (type_of% tt_145) ∧ (type_of% tt_147) ∧ (type_of% tt_148) ∧ (type_of% tt_149) ∧ (type_of% tt_150) ∧ (type_of% tt_152) ∧ (type_of% tt_153) ∧ (type_of% tt_154) ∧ (type_of% tt_156) ∧ (type_of% tt_157) ∧ (type_of% tt_161) ∧ (type_of% tt_162) ∧ (type_of% tt_165) ∧ (type_of% tt_167) :=
  ⟨tt_1, tt_2, tt_3, tt_4, tt_5, tt_9, tt_12, tt_13, tt_18, tt_20, tt_21, tt_22, tt_23, tt_24, tt_25, tt_26, tt_28, tt_29, tt_30, tt_31, tt_32, tt_33, tt_34, tt_35, tt_36, tt_37, tt_39, tt_40, tt_41, tt_42, tt_43, tt_44, tt_46, tt_48, tt_49, tt_50, tt_51, tt_52, tt_53, tt_54, tt_55, tt_56, tt_57, tt_58, tt_59, tt_60, tt_61, tt_62, tt_63, tt_64, tt_65, tt_66, tt_67, tt_68, tt_70, tt_71, tt_72, tt_73, tt_75, tt_76, tt_78, tt_79, tt_80, tt_81, tt_82, tt_83, tt_84, tt_85, tt_86, tt_87, tt_88, tt_90, tt_91, tt_92, tt_93, tt_94, tt_95, tt_96, tt_97, tt_98, tt_99, tt_100, tt_101, tt_103, tt_104, tt_105, tt_106, tt_108, tt_109, tt_110, tt_111, tt_112, tt_113, tt_114, tt_115, tt_116, tt_117, tt_118, tt_119, tt_120, tt_121, tt_122, tt_123, tt_124, tt_125, tt_126, tt_127, tt_128, tt_129, tt_130, tt_131, tt_132, tt_133, tt_134, tt_135, tt_136, tt_137, tt_138, tt_139, tt_140, tt_142, tt_143, tt_144, tt_145, tt_147, tt_148, tt_149, tt_150, tt_152, tt_153, tt_154, tt_156, tt_157, tt_161, tt_162, tt_165, tt_167⟩
end Go.Proofs.YtldkmclfhjcicaaDoor
