import Derived.Test.YtedbbinlcdgkoaaGreatDoorProg
import Derived.Test.YtedbbinlcdgkoaaGreatDoorVP
/- The types of the program as the value machine knows them: the table holds. -/
namespace Go.Proofs.YtedbbinlcdgkoaaGreatDoor
open Go.RowKit
set_option linter.unusedVariables false
set_option linter.unusedSimpArgs false
def tt : TT
  | 2 => some ⟨.int .i64, 1, 8, [Value.int IntKind.i64 0], false⟩
  | 3 => some ⟨.int .i64, 1, 8, [Value.int IntKind.i64 0], false⟩
  | 4 => some ⟨.bool, 1, 1, [Value.bool false], false⟩
  | 5 => some ⟨.int .u8, 1, 1, [Value.int IntKind.u8 0], false⟩
  | 9 => some ⟨.str, 1, 16, [Value.string ⟨#[]⟩], false⟩
  | 20 => some ⟨.iface, 1, 16, [Value.nilIface], false⟩
  | 21 => some ⟨.int .i32, 1, 4, [Value.int IntKind.i32 0], false⟩
  | 22 => some ⟨.slc 58, 1, 24, [Value.slice none 0 0], false⟩
  | 23 => some ⟨.slc 65, 1, 24, [Value.slice none 0 0], false⟩
  | 24 => some ⟨.struct [(0, 22), (1, 3), (2, 23)], 3, 56, [Value.slice none 0 0, Value.int IntKind.i64 0, Value.slice none 0 0], false⟩
  | 25 => some ⟨.struct [(0, 22), (1, 3), (2, 23)], 3, 56, [Value.slice none 0 0, Value.int IntKind.i64 0, Value.slice none 0 0], false⟩
  | 26 => some ⟨.slc 5, 1, 24, [Value.slice none 0 0], false⟩
  | 28 => some ⟨.struct [(0, 5), (1, 26), (2, 22)], 3, 56, [Value.int IntKind.u8 0, Value.slice none 0 0, Value.slice none 0 0], false⟩
  | 35 => some ⟨.int .u16, 1, 2, [Value.int IntKind.u16 0], false⟩
  | 37 => some ⟨.slc 72, 1, 24, [Value.slice none 0 0], false⟩
  | 39 => some ⟨.struct [(0, 22), (1, 3), (2, 37)], 3, 56, [Value.slice none 0 0, Value.int IntKind.i64 0, Value.slice none 0 0], false⟩
  | 43 => some ⟨.int .i64, 1, 8, [Value.int IntKind.i64 0], false⟩
  | 51 => some ⟨.slc 9, 1, 24, [Value.slice none 0 0], false⟩
  | 58 => some ⟨.struct [(0, 3), (1, 3), (2, 9), (3, 3), (4, 3)], 5, 48, [Value.int IntKind.i64 0, Value.int IntKind.i64 0, Value.string ⟨#[]⟩, Value.int IntKind.i64 0, Value.int IntKind.i64 0], true⟩
  | 61 => some ⟨.arr 2 25, 6, 112, [Value.slice none 0 0, Value.int IntKind.i64 0, Value.slice none 0 0, Value.slice none 0 0, Value.int IntKind.i64 0, Value.slice none 0 0], false⟩
  | 65 => some ⟨.struct [(0, 3), (1, 9)], 2, 24, [Value.int IntKind.i64 0, Value.string ⟨#[]⟩], true⟩
  | 66 => some ⟨.int .u64, 1, 8, [Value.int IntKind.u64 0], false⟩
  | 70 => some ⟨.cell, 1, 8, [Value.pointer none], false⟩
  | 72 => some ⟨.struct [(0, 3), (1, 9)], 2, 24, [Value.int IntKind.i64 0, Value.string ⟨#[]⟩], true⟩
  | 77 => some ⟨.cell, 1, 8, [Value.pointer none], false⟩
  | 79 => some ⟨.struct [(0, 77), (1, 26)], 2, 32, [Value.pointer none, Value.slice none 0 0], false⟩
  | 82 => some ⟨.map 9 3, 1, 8, [Value.map none], false⟩
  | 85 => some ⟨.map 9 93, 1, 8, [Value.map none], false⟩
  | 89 => some ⟨.cell, 1, 8, [Value.nilFunc], false⟩
  | 91 => some ⟨.cell, 1, 8, [Value.nilFunc], false⟩
  | 93 => some ⟨.struct [(0, 3), (1, 91)], 2, 16, [Value.int IntKind.i64 0, Value.nilFunc], false⟩
  | 95 => some ⟨.cell, 1, 8, [Value.pointer none], false⟩
  | 97 => some ⟨.map 9 4, 1, 8, [Value.map none], false⟩
  | 98 => some ⟨.cell, 1, 8, [Value.nilFunc], false⟩
  | 103 => some ⟨.cell, 1, 8, [Value.pointer none], false⟩
  | 105 => some ⟨.iface, 1, 16, [Value.nilIface], false⟩
  | 113 => some ⟨.cell, 1, 8, [Value.pointer none], false⟩
  | 116 => some ⟨.cell, 1, 8, [Value.nilFunc], false⟩
  | 129 => some ⟨.arr 24 5, 24, 24, [Value.int IntKind.u8 0, Value.int IntKind.u8 0, Value.int IntKind.u8 0, Value.int IntKind.u8 0, Value.int IntKind.u8 0, Value.int IntKind.u8 0, Value.int IntKind.u8 0, Value.int IntKind.u8 0, Value.int IntKind.u8 0, Value.int IntKind.u8 0, Value.int IntKind.u8 0, Value.int IntKind.u8 0, Value.int IntKind.u8 0, Value.int IntKind.u8 0, Value.int IntKind.u8 0, Value.int IntKind.u8 0, Value.int IntKind.u8 0, Value.int IntKind.u8 0, Value.int IntKind.u8 0, Value.int IntKind.u8 0, Value.int IntKind.u8 0, Value.int IntKind.u8 0, Value.int IntKind.u8 0, Value.int IntKind.u8 0], false⟩
  | 130 => some ⟨.int .u64, 1, 8, [Value.int IntKind.u64 0], false⟩
  | 137 => some ⟨.cell, 1, 8, [Value.nilFunc], false⟩
  | 143 => some ⟨.cell, 1, 8, [Value.pointer none], false⟩
  | 152 => some ⟨.arr 20 130, 20, 160, [Value.int IntKind.u64 0, Value.int IntKind.u64 0, Value.int IntKind.u64 0, Value.int IntKind.u64 0, Value.int IntKind.u64 0, Value.int IntKind.u64 0, Value.int IntKind.u64 0, Value.int IntKind.u64 0, Value.int IntKind.u64 0, Value.int IntKind.u64 0, Value.int IntKind.u64 0, Value.int IntKind.u64 0, Value.int IntKind.u64 0, Value.int IntKind.u64 0, Value.int IntKind.u64 0, Value.int IntKind.u64 0, Value.int IntKind.u64 0, Value.int IntKind.u64 0, Value.int IntKind.u64 0, Value.int IntKind.u64 0], false⟩
  | 153 => some ⟨.int .u32, 1, 4, [Value.int IntKind.u32 0], false⟩
  | 187 => some ⟨.cell, 1, 8, [Value.pointer none], false⟩
  | 197 => some ⟨.struct [(0, 9), (1, 9), (2, 105)], 3, 48, [Value.string ⟨#[]⟩, Value.string ⟨#[]⟩, Value.nilIface], false⟩
  | _ => none
theorem tt2 : TIOk Tryz.prog 2 ⟨.int .i64, 1, 8, [Value.int IntKind.i64 0], false⟩ := ⟨Tryz.underlying2, ⟨Tryz.t2, _, by kernel_rfl, rfl, rfl, rfl, rfl⟩, rfl, by simp [Value.oneCell'], (fun h i z h1 h2 => by rw [show Tryz.prog.info? 2 = some Tryz.t2 by kernel_rfl] at h1; injection h1 with h1; subst h1; injection h2 with h2; subst h2; rfl), (fun h => by cases h), fun h => by cases h⟩
theorem tt_2 : tt 2 = some ⟨.int .i64, 1, 8, [Value.int IntKind.i64 0], false⟩ := rfl
theorem tt3 : TIOk Tryz.prog 3 ⟨.int .i64, 1, 8, [Value.int IntKind.i64 0], false⟩ := ⟨Tryz.underlying3, ⟨Tryz.t3, _, by kernel_rfl, rfl, rfl, rfl, rfl⟩, rfl, by simp [Value.oneCell'], (fun h i z h1 h2 => by rw [show Tryz.prog.info? 3 = some Tryz.t3 by kernel_rfl] at h1; injection h1 with h1; subst h1; injection h2 with h2; subst h2; rfl), (fun h => by cases h), fun h => by cases h⟩
theorem tt_3 : tt 3 = some ⟨.int .i64, 1, 8, [Value.int IntKind.i64 0], false⟩ := rfl
theorem tt4 : TIOk Tryz.prog 4 ⟨.bool, 1, 1, [Value.bool false], false⟩ := ⟨Tryz.underlying4, ⟨Tryz.t4, _, by kernel_rfl, rfl, rfl, rfl, rfl⟩, rfl, by simp [Value.oneCell'], (fun h i z h1 h2 => by rw [show Tryz.prog.info? 4 = some Tryz.t4 by kernel_rfl] at h1; injection h1 with h1; subst h1; injection h2 with h2; subst h2; rfl), (fun h => by cases h), fun h => by cases h⟩
theorem tt_4 : tt 4 = some ⟨.bool, 1, 1, [Value.bool false], false⟩ := rfl
theorem tt5 : TIOk Tryz.prog 5 ⟨.int .u8, 1, 1, [Value.int IntKind.u8 0], false⟩ := ⟨Tryz.underlying5, ⟨Tryz.t5, _, by kernel_rfl, rfl, rfl, rfl, rfl⟩, rfl, by simp [Value.oneCell'], (fun h i z h1 h2 => by rw [show Tryz.prog.info? 5 = some Tryz.t5 by kernel_rfl] at h1; injection h1 with h1; subst h1; injection h2 with h2; subst h2; rfl), (fun h => by cases h), fun h => by cases h⟩
theorem tt_5 : tt 5 = some ⟨.int .u8, 1, 1, [Value.int IntKind.u8 0], false⟩ := rfl
theorem tt9 : TIOk Tryz.prog 9 ⟨.str, 1, 16, [Value.string ⟨#[]⟩], false⟩ := ⟨Tryz.underlying9, ⟨Tryz.t9, _, by kernel_rfl, rfl, rfl, rfl, rfl⟩, rfl, by simp [Value.oneCell'], (fun h i z h1 h2 => by rw [show Tryz.prog.info? 9 = some Tryz.t9 by kernel_rfl] at h1; injection h1 with h1; subst h1; injection h2 with h2; subst h2; rfl), (fun h => by cases h), fun h => by cases h⟩
theorem tt_9 : tt 9 = some ⟨.str, 1, 16, [Value.string ⟨#[]⟩], false⟩ := rfl
theorem tt20 : TIOk Tryz.prog 20 ⟨.iface, 1, 16, [Value.nilIface], false⟩ := ⟨⟨_, Tryz.underlying20⟩, ⟨Tryz.t20, _, by kernel_rfl, rfl, rfl, rfl, rfl⟩, rfl, by simp [Value.oneCell'], (fun h i z h1 h2 => by rw [show Tryz.prog.info? 20 = some Tryz.t20 by kernel_rfl] at h1; injection h1 with h1; subst h1; injection h2 with h2; subst h2; rfl), (fun h => by cases h), fun h => by cases h⟩
theorem tt_20 : tt 20 = some ⟨.iface, 1, 16, [Value.nilIface], false⟩ := rfl
theorem tt21 : TIOk Tryz.prog 21 ⟨.int .i32, 1, 4, [Value.int IntKind.i32 0], false⟩ := ⟨Tryz.underlying21, ⟨Tryz.t21, _, by kernel_rfl, rfl, rfl, rfl, rfl⟩, rfl, by simp [Value.oneCell'], (fun h i z h1 h2 => by rw [show Tryz.prog.info? 21 = some Tryz.t21 by kernel_rfl] at h1; injection h1 with h1; subst h1; injection h2 with h2; subst h2; rfl), (fun h => by cases h), fun h => by cases h⟩
theorem tt_21 : tt 21 = some ⟨.int .i32, 1, 4, [Value.int IntKind.i32 0], false⟩ := rfl
theorem tt22 : TIOk Tryz.prog 22 ⟨.slc 58, 1, 24, [Value.slice none 0 0], false⟩ := ⟨Tryz.underlying22, ⟨Tryz.t22, _, by kernel_rfl, rfl, rfl, rfl, rfl⟩, rfl, by simp [Value.oneCell'], (fun h i z h1 h2 => by rw [show Tryz.prog.info? 22 = some Tryz.t22 by kernel_rfl] at h1; injection h1 with h1; subst h1; injection h2 with h2; subst h2; rfl), (fun h => by cases h), fun h => by cases h⟩
theorem tt_22 : tt 22 = some ⟨.slc 58, 1, 24, [Value.slice none 0 0], false⟩ := rfl
theorem tt23 : TIOk Tryz.prog 23 ⟨.slc 65, 1, 24, [Value.slice none 0 0], false⟩ := ⟨Tryz.underlying23, ⟨Tryz.t23, _, by kernel_rfl, rfl, rfl, rfl, rfl⟩, rfl, by simp [Value.oneCell'], (fun h i z h1 h2 => by rw [show Tryz.prog.info? 23 = some Tryz.t23 by kernel_rfl] at h1; injection h1 with h1; subst h1; injection h2 with h2; subst h2; rfl), (fun h => by cases h), fun h => by cases h⟩
theorem tt_23 : tt 23 = some ⟨.slc 65, 1, 24, [Value.slice none 0 0], false⟩ := rfl
theorem tt24 : TIOk Tryz.prog 24 ⟨.struct [(0, 22), (1, 3), (2, 23)], 3, 56, [Value.slice none 0 0, Value.int IntKind.i64 0, Value.slice none 0 0], false⟩ := ⟨⟨_, Tryz.underlying24, rfl⟩, ⟨Tryz.t24, _, by kernel_rfl, rfl, rfl, rfl, rfl⟩, rfl, by simp [Value.oneCell'], (fun h => by cases h), (fun _ i z h1 h2 => by rw [show Tryz.prog.info? 24 = some Tryz.t24 by kernel_rfl] at h1; injection h1 with h1; subst h1; injection h2 with h2; exact ⟨_, h2.symm⟩), fun h => by cases h⟩
theorem tt_24 : tt 24 = some ⟨.struct [(0, 22), (1, 3), (2, 23)], 3, 56, [Value.slice none 0 0, Value.int IntKind.i64 0, Value.slice none 0 0], false⟩ := rfl
theorem tt25 : TIOk Tryz.prog 25 ⟨.struct [(0, 22), (1, 3), (2, 23)], 3, 56, [Value.slice none 0 0, Value.int IntKind.i64 0, Value.slice none 0 0], false⟩ := ⟨⟨_, Tryz.underlying25, rfl⟩, ⟨Tryz.t25, _, by kernel_rfl, rfl, rfl, rfl, rfl⟩, rfl, by simp [Value.oneCell'], (fun h => by cases h), (fun _ i z h1 h2 => by rw [show Tryz.prog.info? 25 = some Tryz.t25 by kernel_rfl] at h1; injection h1 with h1; subst h1; injection h2 with h2; exact ⟨_, h2.symm⟩), fun h => by cases h⟩
theorem tt_25 : tt 25 = some ⟨.struct [(0, 22), (1, 3), (2, 23)], 3, 56, [Value.slice none 0 0, Value.int IntKind.i64 0, Value.slice none 0 0], false⟩ := rfl
theorem tt26 : TIOk Tryz.prog 26 ⟨.slc 5, 1, 24, [Value.slice none 0 0], false⟩ := ⟨Tryz.underlying26, ⟨Tryz.t26, _, by kernel_rfl, rfl, rfl, rfl, rfl⟩, rfl, by simp [Value.oneCell'], (fun h i z h1 h2 => by rw [show Tryz.prog.info? 26 = some Tryz.t26 by kernel_rfl] at h1; injection h1 with h1; subst h1; injection h2 with h2; subst h2; rfl), (fun h => by cases h), fun h => by cases h⟩
theorem tt_26 : tt 26 = some ⟨.slc 5, 1, 24, [Value.slice none 0 0], false⟩ := rfl
theorem tt28 : TIOk Tryz.prog 28 ⟨.struct [(0, 5), (1, 26), (2, 22)], 3, 56, [Value.int IntKind.u8 0, Value.slice none 0 0, Value.slice none 0 0], false⟩ := ⟨⟨_, Tryz.underlying28, rfl⟩, ⟨Tryz.t28, _, by kernel_rfl, rfl, rfl, rfl, rfl⟩, rfl, by simp [Value.oneCell'], (fun h => by cases h), (fun _ i z h1 h2 => by rw [show Tryz.prog.info? 28 = some Tryz.t28 by kernel_rfl] at h1; injection h1 with h1; subst h1; injection h2 with h2; exact ⟨_, h2.symm⟩), fun h => by cases h⟩
theorem tt_28 : tt 28 = some ⟨.struct [(0, 5), (1, 26), (2, 22)], 3, 56, [Value.int IntKind.u8 0, Value.slice none 0 0, Value.slice none 0 0], false⟩ := rfl
theorem tt35 : TIOk Tryz.prog 35 ⟨.int .u16, 1, 2, [Value.int IntKind.u16 0], false⟩ := ⟨Tryz.underlying35, ⟨Tryz.t35, _, by kernel_rfl, rfl, rfl, rfl, rfl⟩, rfl, by simp [Value.oneCell'], (fun h i z h1 h2 => by rw [show Tryz.prog.info? 35 = some Tryz.t35 by kernel_rfl] at h1; injection h1 with h1; subst h1; injection h2 with h2; subst h2; rfl), (fun h => by cases h), fun h => by cases h⟩
theorem tt_35 : tt 35 = some ⟨.int .u16, 1, 2, [Value.int IntKind.u16 0], false⟩ := rfl
theorem tt37 : TIOk Tryz.prog 37 ⟨.slc 72, 1, 24, [Value.slice none 0 0], false⟩ := ⟨Tryz.underlying37, ⟨Tryz.t37, _, by kernel_rfl, rfl, rfl, rfl, rfl⟩, rfl, by simp [Value.oneCell'], (fun h i z h1 h2 => by rw [show Tryz.prog.info? 37 = some Tryz.t37 by kernel_rfl] at h1; injection h1 with h1; subst h1; injection h2 with h2; subst h2; rfl), (fun h => by cases h), fun h => by cases h⟩
theorem tt_37 : tt 37 = some ⟨.slc 72, 1, 24, [Value.slice none 0 0], false⟩ := rfl
theorem tt39 : TIOk Tryz.prog 39 ⟨.struct [(0, 22), (1, 3), (2, 37)], 3, 56, [Value.slice none 0 0, Value.int IntKind.i64 0, Value.slice none 0 0], false⟩ := ⟨⟨_, Tryz.underlying39, rfl⟩, ⟨Tryz.t39, _, by kernel_rfl, rfl, rfl, rfl, rfl⟩, rfl, by simp [Value.oneCell'], (fun h => by cases h), (fun _ i z h1 h2 => by rw [show Tryz.prog.info? 39 = some Tryz.t39 by kernel_rfl] at h1; injection h1 with h1; subst h1; injection h2 with h2; exact ⟨_, h2.symm⟩), fun h => by cases h⟩
theorem tt_39 : tt 39 = some ⟨.struct [(0, 22), (1, 3), (2, 37)], 3, 56, [Value.slice none 0 0, Value.int IntKind.i64 0, Value.slice none 0 0], false⟩ := rfl
theorem tt43 : TIOk Tryz.prog 43 ⟨.int .i64, 1, 8, [Value.int IntKind.i64 0], false⟩ := ⟨Tryz.underlying43, ⟨Tryz.t43, _, by kernel_rfl, rfl, rfl, rfl, rfl⟩, rfl, by simp [Value.oneCell'], (fun h i z h1 h2 => by rw [show Tryz.prog.info? 43 = some Tryz.t43 by kernel_rfl] at h1; injection h1 with h1; subst h1; injection h2 with h2; subst h2; rfl), (fun h => by cases h), fun h => by cases h⟩
theorem tt_43 : tt 43 = some ⟨.int .i64, 1, 8, [Value.int IntKind.i64 0], false⟩ := rfl
theorem tt51 : TIOk Tryz.prog 51 ⟨.slc 9, 1, 24, [Value.slice none 0 0], false⟩ := ⟨Tryz.underlying51, ⟨Tryz.t51, _, by kernel_rfl, rfl, rfl, rfl, rfl⟩, rfl, by simp [Value.oneCell'], (fun h i z h1 h2 => by rw [show Tryz.prog.info? 51 = some Tryz.t51 by kernel_rfl] at h1; injection h1 with h1; subst h1; injection h2 with h2; subst h2; rfl), (fun h => by cases h), fun h => by cases h⟩
theorem tt_51 : tt 51 = some ⟨.slc 9, 1, 24, [Value.slice none 0 0], false⟩ := rfl
theorem tt58 : TIOk Tryz.prog 58 ⟨.struct [(0, 3), (1, 3), (2, 9), (3, 3), (4, 3)], 5, 48, [Value.int IntKind.i64 0, Value.int IntKind.i64 0, Value.string ⟨#[]⟩, Value.int IntKind.i64 0, Value.int IntKind.i64 0], true⟩ := ⟨⟨_, Tryz.underlying58, rfl⟩, ⟨Tryz.t58, _, by kernel_rfl, rfl, rfl, rfl, rfl⟩, rfl, by simp [Value.oneCell'], (fun h => by cases h), (fun _ i z h1 h2 => by rw [show Tryz.prog.info? 58 = some Tryz.t58 by kernel_rfl] at h1; injection h1 with h1; subst h1; injection h2 with h2; exact ⟨_, h2.symm⟩), fun _ => ⟨by kernel_rfl, by kernel_rfl, fun fields hu => by rw [Tryz.underlying58] at hu; injection hu with hu; injection hu with hu; subst hu; simp⟩⟩
theorem tt_58 : tt 58 = some ⟨.struct [(0, 3), (1, 3), (2, 9), (3, 3), (4, 3)], 5, 48, [Value.int IntKind.i64 0, Value.int IntKind.i64 0, Value.string ⟨#[]⟩, Value.int IntKind.i64 0, Value.int IntKind.i64 0], true⟩ := rfl
theorem tt61 : TIOk Tryz.prog 61 ⟨.arr 2 25, 6, 112, [Value.slice none 0 0, Value.int IntKind.i64 0, Value.slice none 0 0, Value.slice none 0 0, Value.int IntKind.i64 0, Value.slice none 0 0], false⟩ := ⟨Tryz.underlying61, ⟨Tryz.t61, _, by kernel_rfl, rfl, rfl, rfl, rfl⟩, rfl, by simp [Value.oneCell'], (fun h => by cases h), (fun _ i z h1 h2 => by rw [show Tryz.prog.info? 61 = some Tryz.t61 by kernel_rfl] at h1; injection h1 with h1; subst h1; injection h2 with h2; exact ⟨_, h2.symm⟩), fun h => by cases h⟩
theorem tt_61 : tt 61 = some ⟨.arr 2 25, 6, 112, [Value.slice none 0 0, Value.int IntKind.i64 0, Value.slice none 0 0, Value.slice none 0 0, Value.int IntKind.i64 0, Value.slice none 0 0], false⟩ := rfl
theorem tt65 : TIOk Tryz.prog 65 ⟨.struct [(0, 3), (1, 9)], 2, 24, [Value.int IntKind.i64 0, Value.string ⟨#[]⟩], true⟩ := ⟨⟨_, Tryz.underlying65, rfl⟩, ⟨Tryz.t65, _, by kernel_rfl, rfl, rfl, rfl, rfl⟩, rfl, by simp [Value.oneCell'], (fun h => by cases h), (fun _ i z h1 h2 => by rw [show Tryz.prog.info? 65 = some Tryz.t65 by kernel_rfl] at h1; injection h1 with h1; subst h1; injection h2 with h2; exact ⟨_, h2.symm⟩), fun _ => ⟨by kernel_rfl, by kernel_rfl, fun fields hu => by rw [Tryz.underlying65] at hu; injection hu with hu; injection hu with hu; subst hu; simp⟩⟩
theorem tt_65 : tt 65 = some ⟨.struct [(0, 3), (1, 9)], 2, 24, [Value.int IntKind.i64 0, Value.string ⟨#[]⟩], true⟩ := rfl
theorem tt66 : TIOk Tryz.prog 66 ⟨.int .u64, 1, 8, [Value.int IntKind.u64 0], false⟩ := ⟨Tryz.underlying66, ⟨Tryz.t66, _, by kernel_rfl, rfl, rfl, rfl, rfl⟩, rfl, by simp [Value.oneCell'], (fun h i z h1 h2 => by rw [show Tryz.prog.info? 66 = some Tryz.t66 by kernel_rfl] at h1; injection h1 with h1; subst h1; injection h2 with h2; subst h2; rfl), (fun h => by cases h), fun h => by cases h⟩
theorem tt_66 : tt 66 = some ⟨.int .u64, 1, 8, [Value.int IntKind.u64 0], false⟩ := rfl
theorem tt70 : TIOk Tryz.prog 70 ⟨.cell, 1, 8, [Value.pointer none], false⟩ := ⟨⟨_, Tryz.underlying70, rfl⟩, ⟨Tryz.t70, _, by kernel_rfl, rfl, rfl, rfl, rfl⟩, rfl, by simp [Value.oneCell'], (fun h i z h1 h2 => by rw [show Tryz.prog.info? 70 = some Tryz.t70 by kernel_rfl] at h1; injection h1 with h1; subst h1; injection h2 with h2; subst h2; rfl), (fun h => by cases h), fun h => by cases h⟩
theorem tt_70 : tt 70 = some ⟨.cell, 1, 8, [Value.pointer none], false⟩ := rfl
theorem tt72 : TIOk Tryz.prog 72 ⟨.struct [(0, 3), (1, 9)], 2, 24, [Value.int IntKind.i64 0, Value.string ⟨#[]⟩], true⟩ := ⟨⟨_, Tryz.underlying72, rfl⟩, ⟨Tryz.t72, _, by kernel_rfl, rfl, rfl, rfl, rfl⟩, rfl, by simp [Value.oneCell'], (fun h => by cases h), (fun _ i z h1 h2 => by rw [show Tryz.prog.info? 72 = some Tryz.t72 by kernel_rfl] at h1; injection h1 with h1; subst h1; injection h2 with h2; exact ⟨_, h2.symm⟩), fun _ => ⟨by kernel_rfl, by kernel_rfl, fun fields hu => by rw [Tryz.underlying72] at hu; injection hu with hu; injection hu with hu; subst hu; simp⟩⟩
theorem tt_72 : tt 72 = some ⟨.struct [(0, 3), (1, 9)], 2, 24, [Value.int IntKind.i64 0, Value.string ⟨#[]⟩], true⟩ := rfl
theorem tt77 : TIOk Tryz.prog 77 ⟨.cell, 1, 8, [Value.pointer none], false⟩ := ⟨⟨_, Tryz.underlying77, rfl⟩, ⟨Tryz.t77, _, by kernel_rfl, rfl, rfl, rfl, rfl⟩, rfl, by simp [Value.oneCell'], (fun h i z h1 h2 => by rw [show Tryz.prog.info? 77 = some Tryz.t77 by kernel_rfl] at h1; injection h1 with h1; subst h1; injection h2 with h2; subst h2; rfl), (fun h => by cases h), fun h => by cases h⟩
theorem tt_77 : tt 77 = some ⟨.cell, 1, 8, [Value.pointer none], false⟩ := rfl
theorem tt79 : TIOk Tryz.prog 79 ⟨.struct [(0, 77), (1, 26)], 2, 32, [Value.pointer none, Value.slice none 0 0], false⟩ := ⟨⟨_, Tryz.underlying79, rfl⟩, ⟨Tryz.t79, _, by kernel_rfl, rfl, rfl, rfl, rfl⟩, rfl, by simp [Value.oneCell'], (fun h => by cases h), (fun _ i z h1 h2 => by rw [show Tryz.prog.info? 79 = some Tryz.t79 by kernel_rfl] at h1; injection h1 with h1; subst h1; injection h2 with h2; exact ⟨_, h2.symm⟩), fun h => by cases h⟩
theorem tt_79 : tt 79 = some ⟨.struct [(0, 77), (1, 26)], 2, 32, [Value.pointer none, Value.slice none 0 0], false⟩ := rfl
theorem tt82 : TIOk Tryz.prog 82 ⟨.map 9 3, 1, 8, [Value.map none], false⟩ := ⟨Tryz.underlying82, ⟨Tryz.t82, _, by kernel_rfl, rfl, rfl, rfl, rfl⟩, rfl, by simp [Value.oneCell'], (fun h i z h1 h2 => by rw [show Tryz.prog.info? 82 = some Tryz.t82 by kernel_rfl] at h1; injection h1 with h1; subst h1; injection h2 with h2; subst h2; rfl), (fun h => by cases h), fun h => by cases h⟩
theorem tt_82 : tt 82 = some ⟨.map 9 3, 1, 8, [Value.map none], false⟩ := rfl
theorem tt85 : TIOk Tryz.prog 85 ⟨.map 9 93, 1, 8, [Value.map none], false⟩ := ⟨Tryz.underlying85, ⟨Tryz.t85, _, by kernel_rfl, rfl, rfl, rfl, rfl⟩, rfl, by simp [Value.oneCell'], (fun h i z h1 h2 => by rw [show Tryz.prog.info? 85 = some Tryz.t85 by kernel_rfl] at h1; injection h1 with h1; subst h1; injection h2 with h2; subst h2; rfl), (fun h => by cases h), fun h => by cases h⟩
theorem tt_85 : tt 85 = some ⟨.map 9 93, 1, 8, [Value.map none], false⟩ := rfl
theorem tt89 : TIOk Tryz.prog 89 ⟨.cell, 1, 8, [Value.nilFunc], false⟩ := ⟨⟨_, Tryz.underlying89, rfl⟩, ⟨Tryz.t89, _, by kernel_rfl, rfl, rfl, rfl, rfl⟩, rfl, by simp [Value.oneCell'], (fun h i z h1 h2 => by rw [show Tryz.prog.info? 89 = some Tryz.t89 by kernel_rfl] at h1; injection h1 with h1; subst h1; injection h2 with h2; subst h2; rfl), (fun h => by cases h), fun h => by cases h⟩
theorem tt_89 : tt 89 = some ⟨.cell, 1, 8, [Value.nilFunc], false⟩ := rfl
theorem tt91 : TIOk Tryz.prog 91 ⟨.cell, 1, 8, [Value.nilFunc], false⟩ := ⟨⟨_, Tryz.underlying91, rfl⟩, ⟨Tryz.t91, _, by kernel_rfl, rfl, rfl, rfl, rfl⟩, rfl, by simp [Value.oneCell'], (fun h i z h1 h2 => by rw [show Tryz.prog.info? 91 = some Tryz.t91 by kernel_rfl] at h1; injection h1 with h1; subst h1; injection h2 with h2; subst h2; rfl), (fun h => by cases h), fun h => by cases h⟩
theorem tt_91 : tt 91 = some ⟨.cell, 1, 8, [Value.nilFunc], false⟩ := rfl
theorem tt93 : TIOk Tryz.prog 93 ⟨.struct [(0, 3), (1, 91)], 2, 16, [Value.int IntKind.i64 0, Value.nilFunc], false⟩ := ⟨⟨_, Tryz.underlying93, rfl⟩, ⟨Tryz.t93, _, by kernel_rfl, rfl, rfl, rfl, rfl⟩, rfl, by simp [Value.oneCell'], (fun h => by cases h), (fun _ i z h1 h2 => by rw [show Tryz.prog.info? 93 = some Tryz.t93 by kernel_rfl] at h1; injection h1 with h1; subst h1; injection h2 with h2; exact ⟨_, h2.symm⟩), fun h => by cases h⟩
theorem tt_93 : tt 93 = some ⟨.struct [(0, 3), (1, 91)], 2, 16, [Value.int IntKind.i64 0, Value.nilFunc], false⟩ := rfl
theorem tt95 : TIOk Tryz.prog 95 ⟨.cell, 1, 8, [Value.pointer none], false⟩ := ⟨⟨_, Tryz.underlying95, rfl⟩, ⟨Tryz.t95, _, by kernel_rfl, rfl, rfl, rfl, rfl⟩, rfl, by simp [Value.oneCell'], (fun h i z h1 h2 => by rw [show Tryz.prog.info? 95 = some Tryz.t95 by kernel_rfl] at h1; injection h1 with h1; subst h1; injection h2 with h2; subst h2; rfl), (fun h => by cases h), fun h => by cases h⟩
theorem tt_95 : tt 95 = some ⟨.cell, 1, 8, [Value.pointer none], false⟩ := rfl
theorem tt97 : TIOk Tryz.prog 97 ⟨.map 9 4, 1, 8, [Value.map none], false⟩ := ⟨Tryz.underlying97, ⟨Tryz.t97, _, by kernel_rfl, rfl, rfl, rfl, rfl⟩, rfl, by simp [Value.oneCell'], (fun h i z h1 h2 => by rw [show Tryz.prog.info? 97 = some Tryz.t97 by kernel_rfl] at h1; injection h1 with h1; subst h1; injection h2 with h2; subst h2; rfl), (fun h => by cases h), fun h => by cases h⟩
theorem tt_97 : tt 97 = some ⟨.map 9 4, 1, 8, [Value.map none], false⟩ := rfl
theorem tt98 : TIOk Tryz.prog 98 ⟨.cell, 1, 8, [Value.nilFunc], false⟩ := ⟨⟨_, Tryz.underlying98, rfl⟩, ⟨Tryz.t98, _, by kernel_rfl, rfl, rfl, rfl, rfl⟩, rfl, by simp [Value.oneCell'], (fun h i z h1 h2 => by rw [show Tryz.prog.info? 98 = some Tryz.t98 by kernel_rfl] at h1; injection h1 with h1; subst h1; injection h2 with h2; subst h2; rfl), (fun h => by cases h), fun h => by cases h⟩
theorem tt_98 : tt 98 = some ⟨.cell, 1, 8, [Value.nilFunc], false⟩ := rfl
theorem tt103 : TIOk Tryz.prog 103 ⟨.cell, 1, 8, [Value.pointer none], false⟩ := ⟨⟨_, Tryz.underlying103, rfl⟩, ⟨Tryz.t103, _, by kernel_rfl, rfl, rfl, rfl, rfl⟩, rfl, by simp [Value.oneCell'], (fun h i z h1 h2 => by rw [show Tryz.prog.info? 103 = some Tryz.t103 by kernel_rfl] at h1; injection h1 with h1; subst h1; injection h2 with h2; subst h2; rfl), (fun h => by cases h), fun h => by cases h⟩
theorem tt_103 : tt 103 = some ⟨.cell, 1, 8, [Value.pointer none], false⟩ := rfl
theorem tt105 : TIOk Tryz.prog 105 ⟨.iface, 1, 16, [Value.nilIface], false⟩ := ⟨⟨_, Tryz.underlying105⟩, ⟨Tryz.t105, _, by kernel_rfl, rfl, rfl, rfl, rfl⟩, rfl, by simp [Value.oneCell'], (fun h i z h1 h2 => by rw [show Tryz.prog.info? 105 = some Tryz.t105 by kernel_rfl] at h1; injection h1 with h1; subst h1; injection h2 with h2; subst h2; rfl), (fun h => by cases h), fun h => by cases h⟩
theorem tt_105 : tt 105 = some ⟨.iface, 1, 16, [Value.nilIface], false⟩ := rfl
theorem tt113 : TIOk Tryz.prog 113 ⟨.cell, 1, 8, [Value.pointer none], false⟩ := ⟨⟨_, Tryz.underlying113, rfl⟩, ⟨Tryz.t113, _, by kernel_rfl, rfl, rfl, rfl, rfl⟩, rfl, by simp [Value.oneCell'], (fun h i z h1 h2 => by rw [show Tryz.prog.info? 113 = some Tryz.t113 by kernel_rfl] at h1; injection h1 with h1; subst h1; injection h2 with h2; subst h2; rfl), (fun h => by cases h), fun h => by cases h⟩
theorem tt_113 : tt 113 = some ⟨.cell, 1, 8, [Value.pointer none], false⟩ := rfl
theorem tt116 : TIOk Tryz.prog 116 ⟨.cell, 1, 8, [Value.nilFunc], false⟩ := ⟨⟨_, Tryz.underlying116, rfl⟩, ⟨Tryz.t116, _, by kernel_rfl, rfl, rfl, rfl, rfl⟩, rfl, by simp [Value.oneCell'], (fun h i z h1 h2 => by rw [show Tryz.prog.info? 116 = some Tryz.t116 by kernel_rfl] at h1; injection h1 with h1; subst h1; injection h2 with h2; subst h2; rfl), (fun h => by cases h), fun h => by cases h⟩
theorem tt_116 : tt 116 = some ⟨.cell, 1, 8, [Value.nilFunc], false⟩ := rfl
theorem tt129 : TIOk Tryz.prog 129 ⟨.arr 24 5, 24, 24, [Value.int IntKind.u8 0, Value.int IntKind.u8 0, Value.int IntKind.u8 0, Value.int IntKind.u8 0, Value.int IntKind.u8 0, Value.int IntKind.u8 0, Value.int IntKind.u8 0, Value.int IntKind.u8 0, Value.int IntKind.u8 0, Value.int IntKind.u8 0, Value.int IntKind.u8 0, Value.int IntKind.u8 0, Value.int IntKind.u8 0, Value.int IntKind.u8 0, Value.int IntKind.u8 0, Value.int IntKind.u8 0, Value.int IntKind.u8 0, Value.int IntKind.u8 0, Value.int IntKind.u8 0, Value.int IntKind.u8 0, Value.int IntKind.u8 0, Value.int IntKind.u8 0, Value.int IntKind.u8 0, Value.int IntKind.u8 0], false⟩ := ⟨Tryz.underlying129, ⟨Tryz.t129, _, by kernel_rfl, rfl, rfl, rfl, rfl⟩, rfl, by simp [Value.oneCell'], (fun h => by cases h), (fun _ i z h1 h2 => by rw [show Tryz.prog.info? 129 = some Tryz.t129 by kernel_rfl] at h1; injection h1 with h1; subst h1; injection h2 with h2; exact ⟨_, h2.symm⟩), fun h => by cases h⟩
theorem tt_129 : tt 129 = some ⟨.arr 24 5, 24, 24, [Value.int IntKind.u8 0, Value.int IntKind.u8 0, Value.int IntKind.u8 0, Value.int IntKind.u8 0, Value.int IntKind.u8 0, Value.int IntKind.u8 0, Value.int IntKind.u8 0, Value.int IntKind.u8 0, Value.int IntKind.u8 0, Value.int IntKind.u8 0, Value.int IntKind.u8 0, Value.int IntKind.u8 0, Value.int IntKind.u8 0, Value.int IntKind.u8 0, Value.int IntKind.u8 0, Value.int IntKind.u8 0, Value.int IntKind.u8 0, Value.int IntKind.u8 0, Value.int IntKind.u8 0, Value.int IntKind.u8 0, Value.int IntKind.u8 0, Value.int IntKind.u8 0, Value.int IntKind.u8 0, Value.int IntKind.u8 0], false⟩ := rfl
theorem tt130 : TIOk Tryz.prog 130 ⟨.int .u64, 1, 8, [Value.int IntKind.u64 0], false⟩ := ⟨Tryz.underlying130, ⟨Tryz.t130, _, by kernel_rfl, rfl, rfl, rfl, rfl⟩, rfl, by simp [Value.oneCell'], (fun h i z h1 h2 => by rw [show Tryz.prog.info? 130 = some Tryz.t130 by kernel_rfl] at h1; injection h1 with h1; subst h1; injection h2 with h2; subst h2; rfl), (fun h => by cases h), fun h => by cases h⟩
theorem tt_130 : tt 130 = some ⟨.int .u64, 1, 8, [Value.int IntKind.u64 0], false⟩ := rfl
theorem tt137 : TIOk Tryz.prog 137 ⟨.cell, 1, 8, [Value.nilFunc], false⟩ := ⟨⟨_, Tryz.underlying137, rfl⟩, ⟨Tryz.t137, _, by kernel_rfl, rfl, rfl, rfl, rfl⟩, rfl, by simp [Value.oneCell'], (fun h i z h1 h2 => by rw [show Tryz.prog.info? 137 = some Tryz.t137 by kernel_rfl] at h1; injection h1 with h1; subst h1; injection h2 with h2; subst h2; rfl), (fun h => by cases h), fun h => by cases h⟩
theorem tt_137 : tt 137 = some ⟨.cell, 1, 8, [Value.nilFunc], false⟩ := rfl
theorem tt143 : TIOk Tryz.prog 143 ⟨.cell, 1, 8, [Value.pointer none], false⟩ := ⟨⟨_, Tryz.underlying143, rfl⟩, ⟨Tryz.t143, _, by kernel_rfl, rfl, rfl, rfl, rfl⟩, rfl, by simp [Value.oneCell'], (fun h i z h1 h2 => by rw [show Tryz.prog.info? 143 = some Tryz.t143 by kernel_rfl] at h1; injection h1 with h1; subst h1; injection h2 with h2; subst h2; rfl), (fun h => by cases h), fun h => by cases h⟩
theorem tt_143 : tt 143 = some ⟨.cell, 1, 8, [Value.pointer none], false⟩ := rfl
theorem tt152 : TIOk Tryz.prog 152 ⟨.arr 20 130, 20, 160, [Value.int IntKind.u64 0, Value.int IntKind.u64 0, Value.int IntKind.u64 0, Value.int IntKind.u64 0, Value.int IntKind.u64 0, Value.int IntKind.u64 0, Value.int IntKind.u64 0, Value.int IntKind.u64 0, Value.int IntKind.u64 0, Value.int IntKind.u64 0, Value.int IntKind.u64 0, Value.int IntKind.u64 0, Value.int IntKind.u64 0, Value.int IntKind.u64 0, Value.int IntKind.u64 0, Value.int IntKind.u64 0, Value.int IntKind.u64 0, Value.int IntKind.u64 0, Value.int IntKind.u64 0, Value.int IntKind.u64 0], false⟩ := ⟨Tryz.underlying152, ⟨Tryz.t152, _, by kernel_rfl, rfl, rfl, rfl, rfl⟩, rfl, by simp [Value.oneCell'], (fun h => by cases h), (fun _ i z h1 h2 => by rw [show Tryz.prog.info? 152 = some Tryz.t152 by kernel_rfl] at h1; injection h1 with h1; subst h1; injection h2 with h2; exact ⟨_, h2.symm⟩), fun h => by cases h⟩
theorem tt_152 : tt 152 = some ⟨.arr 20 130, 20, 160, [Value.int IntKind.u64 0, Value.int IntKind.u64 0, Value.int IntKind.u64 0, Value.int IntKind.u64 0, Value.int IntKind.u64 0, Value.int IntKind.u64 0, Value.int IntKind.u64 0, Value.int IntKind.u64 0, Value.int IntKind.u64 0, Value.int IntKind.u64 0, Value.int IntKind.u64 0, Value.int IntKind.u64 0, Value.int IntKind.u64 0, Value.int IntKind.u64 0, Value.int IntKind.u64 0, Value.int IntKind.u64 0, Value.int IntKind.u64 0, Value.int IntKind.u64 0, Value.int IntKind.u64 0, Value.int IntKind.u64 0], false⟩ := rfl
theorem tt153 : TIOk Tryz.prog 153 ⟨.int .u32, 1, 4, [Value.int IntKind.u32 0], false⟩ := ⟨Tryz.underlying153, ⟨Tryz.t153, _, by kernel_rfl, rfl, rfl, rfl, rfl⟩, rfl, by simp [Value.oneCell'], (fun h i z h1 h2 => by rw [show Tryz.prog.info? 153 = some Tryz.t153 by kernel_rfl] at h1; injection h1 with h1; subst h1; injection h2 with h2; subst h2; rfl), (fun h => by cases h), fun h => by cases h⟩
theorem tt_153 : tt 153 = some ⟨.int .u32, 1, 4, [Value.int IntKind.u32 0], false⟩ := rfl
theorem tt187 : TIOk Tryz.prog 187 ⟨.cell, 1, 8, [Value.pointer none], false⟩ := ⟨⟨_, Tryz.underlying187, rfl⟩, ⟨Tryz.t187, _, by kernel_rfl, rfl, rfl, rfl, rfl⟩, rfl, by simp [Value.oneCell'], (fun h i z h1 h2 => by rw [show Tryz.prog.info? 187 = some Tryz.t187 by kernel_rfl] at h1; injection h1 with h1; subst h1; injection h2 with h2; subst h2; rfl), (fun h => by cases h), fun h => by cases h⟩
theorem tt_187 : tt 187 = some ⟨.cell, 1, 8, [Value.pointer none], false⟩ := rfl
theorem tt197 : TIOk Tryz.prog 197 ⟨.struct [(0, 9), (1, 9), (2, 105)], 3, 48, [Value.string ⟨#[]⟩, Value.string ⟨#[]⟩, Value.nilIface], false⟩ := ⟨⟨_, Tryz.underlying197, rfl⟩, ⟨Tryz.t197, _, by kernel_rfl, rfl, rfl, rfl, rfl⟩, rfl, by simp [Value.oneCell'], (fun h => by cases h), (fun _ i z h1 h2 => by rw [show Tryz.prog.info? 197 = some Tryz.t197 by kernel_rfl] at h1; injection h1 with h1; subst h1; injection h2 with h2; exact ⟨_, h2.symm⟩), fun h => by cases h⟩
theorem tt_197 : tt 197 = some ⟨.struct [(0, 9), (1, 9), (2, 105)], 3, 48, [Value.string ⟨#[]⟩, Value.string ⟨#[]⟩, Value.nilIface], false⟩ := rfl
theorem tt_ok : TTOk Tryz.prog tt := by
  intro t ti h
  unfold tt at h
  split at h
  · injection h with h; subst h; exact tt2
  · injection h with h; subst h; exact tt3
  · injection h with h; subst h; exact tt4
  · injection h with h; subst h; exact tt5
  · injection h with h; subst h; exact tt9
  · injection h with h; subst h; exact tt20
  · injection h with h; subst h; exact tt21
  · injection h with h; subst h; exact tt22
  · injection h with h; subst h; exact tt23
  · injection h with h; subst h; exact tt24
  · injection h with h; subst h; exact tt25
  · injection h with h; subst h; exact tt26
  · injection h with h; subst h; exact tt28
  · injection h with h; subst h; exact tt35
  · injection h with h; subst h; exact tt37
  · injection h with h; subst h; exact tt39
  · injection h with h; subst h; exact tt43
  · injection h with h; subst h; exact tt51
  · injection h with h; subst h; exact tt58
  · injection h with h; subst h; exact tt61
  · injection h with h; subst h; exact tt65
  · injection h with h; subst h; exact tt66
  · injection h with h; subst h; exact tt70
  · injection h with h; subst h; exact tt72
  · injection h with h; subst h; exact tt77
  · injection h with h; subst h; exact tt79
  · injection h with h; subst h; exact tt82
  · injection h with h; subst h; exact tt85
  · injection h with h; subst h; exact tt89
  · injection h with h; subst h; exact tt91
  · injection h with h; subst h; exact tt93
  · injection h with h; subst h; exact tt95
  · injection h with h; subst h; exact tt97
  · injection h with h; subst h; exact tt98
  · injection h with h; subst h; exact tt103
  · injection h with h; subst h; exact tt105
  · injection h with h; subst h; exact tt113
  · injection h with h; subst h; exact tt116
  · injection h with h; subst h; exact tt129
  · injection h with h; subst h; exact tt130
  · injection h with h; subst h; exact tt137
  · injection h with h; subst h; exact tt143
  · injection h with h; subst h; exact tt152
  · injection h with h; subst h; exact tt153
  · injection h with h; subst h; exact tt187
  · injection h with h; subst h; exact tt197
  · cases h
theorem tts : (type_of% tt_2) ∧ (type_of% tt_3) ∧ (type_of% tt_4) ∧ (type_of% tt_5) ∧ (type_of% tt_9) ∧ (type_of% tt_20) ∧ (type_of% tt_21) ∧ (type_of% tt_22) ∧ (type_of% tt_23) ∧ (type_of% tt_24) ∧ (type_of% tt_25) ∧ (type_of% tt_26) ∧ (type_of% tt_28) ∧ (type_of% tt_35) ∧ (type_of% tt_37) ∧ (type_of% tt_39) ∧ (type_of% tt_43) ∧ (type_of% tt_51) ∧ (type_of% tt_58) ∧ (type_of% tt_61) ∧ (type_of% tt_65) ∧ (type_of% tt_66) ∧ (type_of% tt_70) ∧ (type_of% tt_72) ∧ (type_of% tt_77) ∧ (type_of% tt_79) ∧ (type_of% tt_82) ∧ (type_of% tt_85) ∧ (type_of% tt_89) ∧ (type_of% tt_91) ∧ (type_of% tt_93) ∧ (type_of% tt_95) ∧ (type_of% tt_97) ∧ (type_of% tt_98) ∧ (type_of% tt_103) ∧ (type_of% tt_105) ∧ (type_of% tt_113) ∧ (type_of% tt_116) ∧ (type_of% tt_129) ∧ (type_of% tt_130) ∧ (type_of% tt_137) ∧ (type_of% tt_143) ∧ (type_of% tt_152) ∧ (type_of% tt_153) ∧ (type_of% tt_187) ∧ (type_of% tt_197) :=
  ⟨tt_2, tt_3, tt_4, tt_5, tt_9, tt_20, tt_21, tt_22, tt_23, tt_24, tt_25, tt_26, tt_28, tt_35, tt_37, tt_39, tt_43, tt_51, tt_58, tt_61, tt_65, tt_66, tt_70, tt_72, tt_77, tt_79, tt_82, tt_85, tt_89, tt_91, tt_93, tt_95, tt_97, tt_98, tt_103, tt_105, tt_113, tt_116, tt_129, tt_130, tt_137, tt_143, tt_152, tt_153, tt_187, tt_197⟩
attribute [go_sem] tts
end Go.Proofs.YtedbbinlcdgkoaaGreatDoor
