import Derived.Test.YtldkmclfhjcicaaDoorProg
import Derived.Test.YtldkmclfhjcicaaDoorVP
/- The types of the program as the value machine knows them: the table holds. -/
namespace Go.Proofs.YtldkmclfhjcicaaDoor
open Go.RowKit
set_option linter.unusedVariables false
set_option linter.unusedSimpArgs false
def tt : TT
  | 2 => some ⟨.int .i64, 1, 8, [Value.int IntKind.i64 0], false⟩
  | 3 => some ⟨.int .i64, 1, 8, [Value.int IntKind.i64 0], false⟩
  | 4 => some ⟨.bool, 1, 1, [Value.bool false], false⟩
  | 5 => some ⟨.int .u8, 1, 1, [Value.int IntKind.u8 0], false⟩
  | 9 => some ⟨.str, 1, 16, [Value.string ⟨#[]⟩], false⟩
  | 21 => some ⟨.int .i32, 1, 4, [Value.int IntKind.i32 0], false⟩
  | 22 => some ⟨.slc 5, 1, 24, [Value.slice none 0 0], false⟩
  | 24 => some ⟨.arr 4 9, 4, 64, [Value.string ⟨#[]⟩, Value.string ⟨#[]⟩, Value.string ⟨#[]⟩, Value.string ⟨#[]⟩], false⟩
  | 25 => some ⟨.int .u64, 1, 8, [Value.int IntKind.u64 0], false⟩
  | 26 => some ⟨.arr 3 3, 3, 24, [Value.int IntKind.i64 0, Value.int IntKind.i64 0, Value.int IntKind.i64 0], false⟩
  | 32 => some ⟨.slc 56, 1, 24, [Value.slice none 0 0], false⟩
  | 33 => some ⟨.slc 50, 1, 24, [Value.slice none 0 0], false⟩
  | 34 => some ⟨.slc 61, 1, 24, [Value.slice none 0 0], false⟩
  | 36 => some ⟨.struct [(0, 33), (1, 34)], 2, 48, [Value.slice none 0 0, Value.slice none 0 0], false⟩
  | 37 => some ⟨.int .i64, 1, 8, [Value.int IntKind.i64 0], false⟩
  | 41 => some ⟨.slc 97, 1, 24, [Value.slice none 0 0], false⟩
  | 43 => some ⟨.struct [(0, 33), (1, 41)], 2, 48, [Value.slice none 0 0, Value.slice none 0 0], false⟩
  | 50 => some ⟨.struct [(0, 9), (1, 3), (2, 9), (3, 3)], 4, 48, [Value.string ⟨#[]⟩, Value.int IntKind.i64 0, Value.string ⟨#[]⟩, Value.int IntKind.i64 0], true⟩
  | 56 => some ⟨.struct [(0, 5), (1, 5), (2, 3), (3, 3), (4, 9)], 5, 40, [Value.int IntKind.u8 0, Value.int IntKind.u8 0, Value.int IntKind.i64 0, Value.int IntKind.i64 0, Value.string ⟨#[]⟩], true⟩
  | 59 => some ⟨.arr 3 36, 6, 144, [Value.slice none 0 0, Value.slice none 0 0, Value.slice none 0 0, Value.slice none 0 0, Value.slice none 0 0, Value.slice none 0 0], false⟩
  | 61 => some ⟨.struct [(0, 9), (1, 3)], 2, 24, [Value.string ⟨#[]⟩, Value.int IntKind.i64 0], true⟩
  | 65 => some ⟨.arr 2 36, 4, 96, [Value.slice none 0 0, Value.slice none 0 0, Value.slice none 0 0, Value.slice none 0 0], false⟩
  | 81 => some ⟨.arr 6 9, 6, 96, [Value.string ⟨#[]⟩, Value.string ⟨#[]⟩, Value.string ⟨#[]⟩, Value.string ⟨#[]⟩, Value.string ⟨#[]⟩, Value.string ⟨#[]⟩], false⟩
  | 83 => some ⟨.cell, 1, 8, [Value.nilFunc], false⟩
  | 86 => some ⟨.cell, 1, 8, [Value.nilFunc], false⟩
  | 88 => some ⟨.arr 3 9, 3, 48, [Value.string ⟨#[]⟩, Value.string ⟨#[]⟩, Value.string ⟨#[]⟩], false⟩
  | 91 => some ⟨.cell, 1, 8, [Value.nilFunc], false⟩
  | 93 => some ⟨.cell, 1, 8, [Value.nilFunc], false⟩
  | 94 => some ⟨.slc 3, 1, 24, [Value.slice none 0 0], false⟩
  | 97 => some ⟨.struct [(0, 9), (1, 3)], 2, 24, [Value.string ⟨#[]⟩, Value.int IntKind.i64 0], true⟩
  | 99 => some ⟨.cell, 1, 8, [Value.nilFunc], false⟩
  | 117 => some ⟨.cell, 1, 8, [Value.nilFunc], false⟩
  | 118 => some ⟨.cell, 1, 8, [Value.nilFunc], false⟩
  | 123 => some ⟨.cell, 1, 8, [Value.nilFunc], false⟩
  | 125 => some ⟨.cell, 1, 8, [Value.nilFunc], false⟩
  | 136 => some ⟨.slc 9, 1, 24, [Value.slice none 0 0], false⟩
  | _ => none
theorem tt2 : TIOk Tryd.prog 2 ⟨.int .i64, 1, 8, [Value.int IntKind.i64 0], false⟩ := ⟨Tryd.underlying2, ⟨Tryd.t2, _, by kernel_rfl, rfl, rfl, rfl, rfl⟩, rfl, by simp [Value.oneCell'], fun h => by cases h⟩
theorem tt_2 : tt 2 = some ⟨.int .i64, 1, 8, [Value.int IntKind.i64 0], false⟩ := rfl
theorem tt3 : TIOk Tryd.prog 3 ⟨.int .i64, 1, 8, [Value.int IntKind.i64 0], false⟩ := ⟨Tryd.underlying3, ⟨Tryd.t3, _, by kernel_rfl, rfl, rfl, rfl, rfl⟩, rfl, by simp [Value.oneCell'], fun h => by cases h⟩
theorem tt_3 : tt 3 = some ⟨.int .i64, 1, 8, [Value.int IntKind.i64 0], false⟩ := rfl
theorem tt4 : TIOk Tryd.prog 4 ⟨.bool, 1, 1, [Value.bool false], false⟩ := ⟨Tryd.underlying4, ⟨Tryd.t4, _, by kernel_rfl, rfl, rfl, rfl, rfl⟩, rfl, by simp [Value.oneCell'], fun h => by cases h⟩
theorem tt_4 : tt 4 = some ⟨.bool, 1, 1, [Value.bool false], false⟩ := rfl
theorem tt5 : TIOk Tryd.prog 5 ⟨.int .u8, 1, 1, [Value.int IntKind.u8 0], false⟩ := ⟨Tryd.underlying5, ⟨Tryd.t5, _, by kernel_rfl, rfl, rfl, rfl, rfl⟩, rfl, by simp [Value.oneCell'], fun h => by cases h⟩
theorem tt_5 : tt 5 = some ⟨.int .u8, 1, 1, [Value.int IntKind.u8 0], false⟩ := rfl
theorem tt9 : TIOk Tryd.prog 9 ⟨.str, 1, 16, [Value.string ⟨#[]⟩], false⟩ := ⟨Tryd.underlying9, ⟨Tryd.t9, _, by kernel_rfl, rfl, rfl, rfl, rfl⟩, rfl, by simp [Value.oneCell'], fun h => by cases h⟩
theorem tt_9 : tt 9 = some ⟨.str, 1, 16, [Value.string ⟨#[]⟩], false⟩ := rfl
theorem tt21 : TIOk Tryd.prog 21 ⟨.int .i32, 1, 4, [Value.int IntKind.i32 0], false⟩ := ⟨Tryd.underlying21, ⟨Tryd.t21, _, by kernel_rfl, rfl, rfl, rfl, rfl⟩, rfl, by simp [Value.oneCell'], fun h => by cases h⟩
theorem tt_21 : tt 21 = some ⟨.int .i32, 1, 4, [Value.int IntKind.i32 0], false⟩ := rfl
theorem tt22 : TIOk Tryd.prog 22 ⟨.slc 5, 1, 24, [Value.slice none 0 0], false⟩ := ⟨Tryd.underlying22, ⟨Tryd.t22, _, by kernel_rfl, rfl, rfl, rfl, rfl⟩, rfl, by simp [Value.oneCell'], fun h => by cases h⟩
theorem tt_22 : tt 22 = some ⟨.slc 5, 1, 24, [Value.slice none 0 0], false⟩ := rfl
theorem tt24 : TIOk Tryd.prog 24 ⟨.arr 4 9, 4, 64, [Value.string ⟨#[]⟩, Value.string ⟨#[]⟩, Value.string ⟨#[]⟩, Value.string ⟨#[]⟩], false⟩ := ⟨Tryd.underlying24, ⟨Tryd.t24, _, by kernel_rfl, rfl, rfl, rfl, rfl⟩, rfl, by simp [Value.oneCell'], fun h => by cases h⟩
theorem tt_24 : tt 24 = some ⟨.arr 4 9, 4, 64, [Value.string ⟨#[]⟩, Value.string ⟨#[]⟩, Value.string ⟨#[]⟩, Value.string ⟨#[]⟩], false⟩ := rfl
theorem tt25 : TIOk Tryd.prog 25 ⟨.int .u64, 1, 8, [Value.int IntKind.u64 0], false⟩ := ⟨Tryd.underlying25, ⟨Tryd.t25, _, by kernel_rfl, rfl, rfl, rfl, rfl⟩, rfl, by simp [Value.oneCell'], fun h => by cases h⟩
theorem tt_25 : tt 25 = some ⟨.int .u64, 1, 8, [Value.int IntKind.u64 0], false⟩ := rfl
theorem tt26 : TIOk Tryd.prog 26 ⟨.arr 3 3, 3, 24, [Value.int IntKind.i64 0, Value.int IntKind.i64 0, Value.int IntKind.i64 0], false⟩ := ⟨Tryd.underlying26, ⟨Tryd.t26, _, by kernel_rfl, rfl, rfl, rfl, rfl⟩, rfl, by simp [Value.oneCell'], fun h => by cases h⟩
theorem tt_26 : tt 26 = some ⟨.arr 3 3, 3, 24, [Value.int IntKind.i64 0, Value.int IntKind.i64 0, Value.int IntKind.i64 0], false⟩ := rfl
theorem tt32 : TIOk Tryd.prog 32 ⟨.slc 56, 1, 24, [Value.slice none 0 0], false⟩ := ⟨Tryd.underlying32, ⟨Tryd.t32, _, by kernel_rfl, rfl, rfl, rfl, rfl⟩, rfl, by simp [Value.oneCell'], fun h => by cases h⟩
theorem tt_32 : tt 32 = some ⟨.slc 56, 1, 24, [Value.slice none 0 0], false⟩ := rfl
theorem tt33 : TIOk Tryd.prog 33 ⟨.slc 50, 1, 24, [Value.slice none 0 0], false⟩ := ⟨Tryd.underlying33, ⟨Tryd.t33, _, by kernel_rfl, rfl, rfl, rfl, rfl⟩, rfl, by simp [Value.oneCell'], fun h => by cases h⟩
theorem tt_33 : tt 33 = some ⟨.slc 50, 1, 24, [Value.slice none 0 0], false⟩ := rfl
theorem tt34 : TIOk Tryd.prog 34 ⟨.slc 61, 1, 24, [Value.slice none 0 0], false⟩ := ⟨Tryd.underlying34, ⟨Tryd.t34, _, by kernel_rfl, rfl, rfl, rfl, rfl⟩, rfl, by simp [Value.oneCell'], fun h => by cases h⟩
theorem tt_34 : tt 34 = some ⟨.slc 61, 1, 24, [Value.slice none 0 0], false⟩ := rfl
theorem tt36 : TIOk Tryd.prog 36 ⟨.struct [(0, 33), (1, 34)], 2, 48, [Value.slice none 0 0, Value.slice none 0 0], false⟩ := ⟨⟨_, Tryd.underlying36, rfl⟩, ⟨Tryd.t36, _, by kernel_rfl, rfl, rfl, rfl, rfl⟩, rfl, by simp [Value.oneCell'], fun h => by cases h⟩
theorem tt_36 : tt 36 = some ⟨.struct [(0, 33), (1, 34)], 2, 48, [Value.slice none 0 0, Value.slice none 0 0], false⟩ := rfl
theorem tt37 : TIOk Tryd.prog 37 ⟨.int .i64, 1, 8, [Value.int IntKind.i64 0], false⟩ := ⟨Tryd.underlying37, ⟨Tryd.t37, _, by kernel_rfl, rfl, rfl, rfl, rfl⟩, rfl, by simp [Value.oneCell'], fun h => by cases h⟩
theorem tt_37 : tt 37 = some ⟨.int .i64, 1, 8, [Value.int IntKind.i64 0], false⟩ := rfl
theorem tt41 : TIOk Tryd.prog 41 ⟨.slc 97, 1, 24, [Value.slice none 0 0], false⟩ := ⟨Tryd.underlying41, ⟨Tryd.t41, _, by kernel_rfl, rfl, rfl, rfl, rfl⟩, rfl, by simp [Value.oneCell'], fun h => by cases h⟩
theorem tt_41 : tt 41 = some ⟨.slc 97, 1, 24, [Value.slice none 0 0], false⟩ := rfl
theorem tt43 : TIOk Tryd.prog 43 ⟨.struct [(0, 33), (1, 41)], 2, 48, [Value.slice none 0 0, Value.slice none 0 0], false⟩ := ⟨⟨_, Tryd.underlying43, rfl⟩, ⟨Tryd.t43, _, by kernel_rfl, rfl, rfl, rfl, rfl⟩, rfl, by simp [Value.oneCell'], fun h => by cases h⟩
theorem tt_43 : tt 43 = some ⟨.struct [(0, 33), (1, 41)], 2, 48, [Value.slice none 0 0, Value.slice none 0 0], false⟩ := rfl
theorem tt50 : TIOk Tryd.prog 50 ⟨.struct [(0, 9), (1, 3), (2, 9), (3, 3)], 4, 48, [Value.string ⟨#[]⟩, Value.int IntKind.i64 0, Value.string ⟨#[]⟩, Value.int IntKind.i64 0], true⟩ := ⟨⟨_, Tryd.underlying50, rfl⟩, ⟨Tryd.t50, _, by kernel_rfl, rfl, rfl, rfl, rfl⟩, rfl, by simp [Value.oneCell'], fun _ => ⟨by kernel_rfl, by kernel_rfl, fun fields hu => by rw [Tryd.underlying50] at hu; injection hu with hu; injection hu with hu; subst hu; simp⟩⟩
theorem tt_50 : tt 50 = some ⟨.struct [(0, 9), (1, 3), (2, 9), (3, 3)], 4, 48, [Value.string ⟨#[]⟩, Value.int IntKind.i64 0, Value.string ⟨#[]⟩, Value.int IntKind.i64 0], true⟩ := rfl
theorem tt56 : TIOk Tryd.prog 56 ⟨.struct [(0, 5), (1, 5), (2, 3), (3, 3), (4, 9)], 5, 40, [Value.int IntKind.u8 0, Value.int IntKind.u8 0, Value.int IntKind.i64 0, Value.int IntKind.i64 0, Value.string ⟨#[]⟩], true⟩ := ⟨⟨_, Tryd.underlying56, rfl⟩, ⟨Tryd.t56, _, by kernel_rfl, rfl, rfl, rfl, rfl⟩, rfl, by simp [Value.oneCell'], fun _ => ⟨by kernel_rfl, by kernel_rfl, fun fields hu => by rw [Tryd.underlying56] at hu; injection hu with hu; injection hu with hu; subst hu; simp⟩⟩
theorem tt_56 : tt 56 = some ⟨.struct [(0, 5), (1, 5), (2, 3), (3, 3), (4, 9)], 5, 40, [Value.int IntKind.u8 0, Value.int IntKind.u8 0, Value.int IntKind.i64 0, Value.int IntKind.i64 0, Value.string ⟨#[]⟩], true⟩ := rfl
theorem tt59 : TIOk Tryd.prog 59 ⟨.arr 3 36, 6, 144, [Value.slice none 0 0, Value.slice none 0 0, Value.slice none 0 0, Value.slice none 0 0, Value.slice none 0 0, Value.slice none 0 0], false⟩ := ⟨Tryd.underlying59, ⟨Tryd.t59, _, by kernel_rfl, rfl, rfl, rfl, rfl⟩, rfl, by simp [Value.oneCell'], fun h => by cases h⟩
theorem tt_59 : tt 59 = some ⟨.arr 3 36, 6, 144, [Value.slice none 0 0, Value.slice none 0 0, Value.slice none 0 0, Value.slice none 0 0, Value.slice none 0 0, Value.slice none 0 0], false⟩ := rfl
theorem tt61 : TIOk Tryd.prog 61 ⟨.struct [(0, 9), (1, 3)], 2, 24, [Value.string ⟨#[]⟩, Value.int IntKind.i64 0], true⟩ := ⟨⟨_, Tryd.underlying61, rfl⟩, ⟨Tryd.t61, _, by kernel_rfl, rfl, rfl, rfl, rfl⟩, rfl, by simp [Value.oneCell'], fun _ => ⟨by kernel_rfl, by kernel_rfl, fun fields hu => by rw [Tryd.underlying61] at hu; injection hu with hu; injection hu with hu; subst hu; simp⟩⟩
theorem tt_61 : tt 61 = some ⟨.struct [(0, 9), (1, 3)], 2, 24, [Value.string ⟨#[]⟩, Value.int IntKind.i64 0], true⟩ := rfl
theorem tt65 : TIOk Tryd.prog 65 ⟨.arr 2 36, 4, 96, [Value.slice none 0 0, Value.slice none 0 0, Value.slice none 0 0, Value.slice none 0 0], false⟩ := ⟨Tryd.underlying65, ⟨Tryd.t65, _, by kernel_rfl, rfl, rfl, rfl, rfl⟩, rfl, by simp [Value.oneCell'], fun h => by cases h⟩
theorem tt_65 : tt 65 = some ⟨.arr 2 36, 4, 96, [Value.slice none 0 0, Value.slice none 0 0, Value.slice none 0 0, Value.slice none 0 0], false⟩ := rfl
theorem tt81 : TIOk Tryd.prog 81 ⟨.arr 6 9, 6, 96, [Value.string ⟨#[]⟩, Value.string ⟨#[]⟩, Value.string ⟨#[]⟩, Value.string ⟨#[]⟩, Value.string ⟨#[]⟩, Value.string ⟨#[]⟩], false⟩ := ⟨Tryd.underlying81, ⟨Tryd.t81, _, by kernel_rfl, rfl, rfl, rfl, rfl⟩, rfl, by simp [Value.oneCell'], fun h => by cases h⟩
theorem tt_81 : tt 81 = some ⟨.arr 6 9, 6, 96, [Value.string ⟨#[]⟩, Value.string ⟨#[]⟩, Value.string ⟨#[]⟩, Value.string ⟨#[]⟩, Value.string ⟨#[]⟩, Value.string ⟨#[]⟩], false⟩ := rfl
theorem tt83 : TIOk Tryd.prog 83 ⟨.cell, 1, 8, [Value.nilFunc], false⟩ := ⟨⟨_, Tryd.underlying83, rfl⟩, ⟨Tryd.t83, _, by kernel_rfl, rfl, rfl, rfl, rfl⟩, rfl, by simp [Value.oneCell'], fun h => by cases h⟩
theorem tt_83 : tt 83 = some ⟨.cell, 1, 8, [Value.nilFunc], false⟩ := rfl
theorem tt86 : TIOk Tryd.prog 86 ⟨.cell, 1, 8, [Value.nilFunc], false⟩ := ⟨⟨_, Tryd.underlying86, rfl⟩, ⟨Tryd.t86, _, by kernel_rfl, rfl, rfl, rfl, rfl⟩, rfl, by simp [Value.oneCell'], fun h => by cases h⟩
theorem tt_86 : tt 86 = some ⟨.cell, 1, 8, [Value.nilFunc], false⟩ := rfl
theorem tt88 : TIOk Tryd.prog 88 ⟨.arr 3 9, 3, 48, [Value.string ⟨#[]⟩, Value.string ⟨#[]⟩, Value.string ⟨#[]⟩], false⟩ := ⟨Tryd.underlying88, ⟨Tryd.t88, _, by kernel_rfl, rfl, rfl, rfl, rfl⟩, rfl, by simp [Value.oneCell'], fun h => by cases h⟩
theorem tt_88 : tt 88 = some ⟨.arr 3 9, 3, 48, [Value.string ⟨#[]⟩, Value.string ⟨#[]⟩, Value.string ⟨#[]⟩], false⟩ := rfl
theorem tt91 : TIOk Tryd.prog 91 ⟨.cell, 1, 8, [Value.nilFunc], false⟩ := ⟨⟨_, Tryd.underlying91, rfl⟩, ⟨Tryd.t91, _, by kernel_rfl, rfl, rfl, rfl, rfl⟩, rfl, by simp [Value.oneCell'], fun h => by cases h⟩
theorem tt_91 : tt 91 = some ⟨.cell, 1, 8, [Value.nilFunc], false⟩ := rfl
theorem tt93 : TIOk Tryd.prog 93 ⟨.cell, 1, 8, [Value.nilFunc], false⟩ := ⟨⟨_, Tryd.underlying93, rfl⟩, ⟨Tryd.t93, _, by kernel_rfl, rfl, rfl, rfl, rfl⟩, rfl, by simp [Value.oneCell'], fun h => by cases h⟩
theorem tt_93 : tt 93 = some ⟨.cell, 1, 8, [Value.nilFunc], false⟩ := rfl
theorem tt94 : TIOk Tryd.prog 94 ⟨.slc 3, 1, 24, [Value.slice none 0 0], false⟩ := ⟨Tryd.underlying94, ⟨Tryd.t94, _, by kernel_rfl, rfl, rfl, rfl, rfl⟩, rfl, by simp [Value.oneCell'], fun h => by cases h⟩
theorem tt_94 : tt 94 = some ⟨.slc 3, 1, 24, [Value.slice none 0 0], false⟩ := rfl
theorem tt97 : TIOk Tryd.prog 97 ⟨.struct [(0, 9), (1, 3)], 2, 24, [Value.string ⟨#[]⟩, Value.int IntKind.i64 0], true⟩ := ⟨⟨_, Tryd.underlying97, rfl⟩, ⟨Tryd.t97, _, by kernel_rfl, rfl, rfl, rfl, rfl⟩, rfl, by simp [Value.oneCell'], fun _ => ⟨by kernel_rfl, by kernel_rfl, fun fields hu => by rw [Tryd.underlying97] at hu; injection hu with hu; injection hu with hu; subst hu; simp⟩⟩
theorem tt_97 : tt 97 = some ⟨.struct [(0, 9), (1, 3)], 2, 24, [Value.string ⟨#[]⟩, Value.int IntKind.i64 0], true⟩ := rfl
theorem tt99 : TIOk Tryd.prog 99 ⟨.cell, 1, 8, [Value.nilFunc], false⟩ := ⟨⟨_, Tryd.underlying99, rfl⟩, ⟨Tryd.t99, _, by kernel_rfl, rfl, rfl, rfl, rfl⟩, rfl, by simp [Value.oneCell'], fun h => by cases h⟩
theorem tt_99 : tt 99 = some ⟨.cell, 1, 8, [Value.nilFunc], false⟩ := rfl
theorem tt117 : TIOk Tryd.prog 117 ⟨.cell, 1, 8, [Value.nilFunc], false⟩ := ⟨⟨_, Tryd.underlying117, rfl⟩, ⟨Tryd.t117, _, by kernel_rfl, rfl, rfl, rfl, rfl⟩, rfl, by simp [Value.oneCell'], fun h => by cases h⟩
theorem tt_117 : tt 117 = some ⟨.cell, 1, 8, [Value.nilFunc], false⟩ := rfl
theorem tt118 : TIOk Tryd.prog 118 ⟨.cell, 1, 8, [Value.nilFunc], false⟩ := ⟨⟨_, Tryd.underlying118, rfl⟩, ⟨Tryd.t118, _, by kernel_rfl, rfl, rfl, rfl, rfl⟩, rfl, by simp [Value.oneCell'], fun h => by cases h⟩
theorem tt_118 : tt 118 = some ⟨.cell, 1, 8, [Value.nilFunc], false⟩ := rfl
theorem tt123 : TIOk Tryd.prog 123 ⟨.cell, 1, 8, [Value.nilFunc], false⟩ := ⟨⟨_, Tryd.underlying123, rfl⟩, ⟨Tryd.t123, _, by kernel_rfl, rfl, rfl, rfl, rfl⟩, rfl, by simp [Value.oneCell'], fun h => by cases h⟩
theorem tt_123 : tt 123 = some ⟨.cell, 1, 8, [Value.nilFunc], false⟩ := rfl
theorem tt125 : TIOk Tryd.prog 125 ⟨.cell, 1, 8, [Value.nilFunc], false⟩ := ⟨⟨_, Tryd.underlying125, rfl⟩, ⟨Tryd.t125, _, by kernel_rfl, rfl, rfl, rfl, rfl⟩, rfl, by simp [Value.oneCell'], fun h => by cases h⟩
theorem tt_125 : tt 125 = some ⟨.cell, 1, 8, [Value.nilFunc], false⟩ := rfl
theorem tt136 : TIOk Tryd.prog 136 ⟨.slc 9, 1, 24, [Value.slice none 0 0], false⟩ := ⟨Tryd.underlying136, ⟨Tryd.t136, _, by kernel_rfl, rfl, rfl, rfl, rfl⟩, rfl, by simp [Value.oneCell'], fun h => by cases h⟩
theorem tt_136 : tt 136 = some ⟨.slc 9, 1, 24, [Value.slice none 0 0], false⟩ := rfl
theorem tt_ok : TTOk Tryd.prog tt := by
  intro t ti h
  unfold tt at h
  split at h
  · injection h with h; subst h; exact tt2
  · injection h with h; subst h; exact tt3
  · injection h with h; subst h; exact tt4
  · injection h with h; subst h; exact tt5
  · injection h with h; subst h; exact tt9
  · injection h with h; subst h; exact tt21
  · injection h with h; subst h; exact tt22
  · injection h with h; subst h; exact tt24
  · injection h with h; subst h; exact tt25
  · injection h with h; subst h; exact tt26
  · injection h with h; subst h; exact tt32
  · injection h with h; subst h; exact tt33
  · injection h with h; subst h; exact tt34
  · injection h with h; subst h; exact tt36
  · injection h with h; subst h; exact tt37
  · injection h with h; subst h; exact tt41
  · injection h with h; subst h; exact tt43
  · injection h with h; subst h; exact tt50
  · injection h with h; subst h; exact tt56
  · injection h with h; subst h; exact tt59
  · injection h with h; subst h; exact tt61
  · injection h with h; subst h; exact tt65
  · injection h with h; subst h; exact tt81
  · injection h with h; subst h; exact tt83
  · injection h with h; subst h; exact tt86
  · injection h with h; subst h; exact tt88
  · injection h with h; subst h; exact tt91
  · injection h with h; subst h; exact tt93
  · injection h with h; subst h; exact tt94
  · injection h with h; subst h; exact tt97
  · injection h with h; subst h; exact tt99
  · injection h with h; subst h; exact tt117
  · injection h with h; subst h; exact tt118
  · injection h with h; subst h; exact tt123
  · injection h with h; subst h; exact tt125
  · injection h with h; subst h; exact tt136
  · cases h
theorem tts : (type_of% tt_2) ∧ (type_of% tt_3) ∧ (type_of% tt_4) ∧ (type_of% tt_5) ∧ (type_of% tt_9) ∧ (type_of% tt_21) ∧ (type_of% tt_22) ∧ (type_of% tt_24) ∧ (type_of% tt_25) ∧ (type_of% tt_26) ∧ (type_of% tt_32) ∧ (type_of% tt_33) ∧ (type_of% tt_34) ∧ (type_of% tt_36) ∧ (type_of% tt_37) ∧ (type_of% tt_41) ∧ (type_of% tt_43) ∧ (type_of% tt_50) ∧ (type_of% tt_56) ∧ (type_of% tt_59) ∧ (type_of% tt_61) ∧ (type_of% tt_65) ∧ (type_of% tt_81) ∧ (type_of% tt_83) ∧ (type_of% tt_86) ∧ (type_of% tt_88) ∧ (type_of% tt_91) ∧ (type_of% tt_93) ∧ (type_of% tt_94) ∧ (type_of% tt_97) ∧ (type_of% tt_99) ∧ (type_of% tt_117) ∧ (type_of% tt_118) ∧ (type_of% tt_123) ∧ (type_of% tt_125) ∧ (type_of% tt_136) :=
  ⟨tt_2, tt_3, tt_4, tt_5, tt_9, tt_21, tt_22, tt_24, tt_25, tt_26, tt_32, tt_33, tt_34, tt_36, tt_37, tt_41, tt_43, tt_50, tt_56, tt_59, tt_61, tt_65, tt_81, tt_83, tt_86, tt_88, tt_91, tt_93, tt_94, tt_97, tt_99, tt_117, tt_118, tt_123, tt_125, tt_136⟩
attribute [go_sem] tts
end Go.Proofs.YtldkmclfhjcicaaDoor
