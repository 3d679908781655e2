import Derived.Test.YtjedikaidbobdaaGreatDoorProg
import Derived.Test.YtjedikaidbobdaaGreatDoorVP
/- The types of the program as the value machine knows them: the table holds. -/
namespace Go.Proofs.YtjedikaidbobdaaGreatDoor
open Go.RowKit
set_option linter.unusedVariables false
set_option linter.unusedSimpArgs false
def tt : TT
  | 1 => some ⟨.cell, 1, 8, [Value.nilFunc], false⟩
  | 3 => some ⟨.int .i64, 1, 8, [Value.int IntKind.i64 0], false⟩
  | 4 => some ⟨.bool, 1, 1, [Value.bool false], false⟩
  | 5 => some ⟨.int .u8, 1, 1, [Value.int IntKind.u8 0], false⟩
  | 9 => some ⟨.str, 1, 16, [Value.string ⟨#[]⟩], false⟩
  | 21 => some ⟨.int .i32, 1, 4, [Value.int IntKind.i32 0], false⟩
  | 22 => some ⟨.slc 50, 1, 24, [Value.slice none 0 0], false⟩
  | 24 => some ⟨.slc 44, 1, 24, [Value.slice none 0 0], false⟩
  | 26 => some ⟨.slc 48, 1, 24, [Value.slice none 0 0], false⟩
  | 27 => some ⟨.int .i64, 1, 8, [Value.int IntKind.i64 0], false⟩
  | 41 => some ⟨.struct [(0, 3), (1, 3), (2, 4), (3, 4), (4, 3), (5, 3), (6, 3), (7, 3)], 8, 56, [Value.int IntKind.i64 0, Value.int IntKind.i64 0, Value.bool false, Value.bool false, Value.int IntKind.i64 0, Value.int IntKind.i64 0, Value.int IntKind.i64 0, Value.int IntKind.i64 0], true⟩
  | 42 => some ⟨.slc 45, 1, 24, [Value.slice none 0 0], false⟩
  | 44 => some ⟨.struct [(0, 9), (1, 41), (9, 42)], 10, 96, [Value.string ⟨#[]⟩, Value.int IntKind.i64 0, Value.int IntKind.i64 0, Value.bool false, Value.bool false, Value.int IntKind.i64 0, Value.int IntKind.i64 0, Value.int IntKind.i64 0, Value.int IntKind.i64 0, Value.slice none 0 0], false⟩
  | 45 => some ⟨.slc 5, 1, 24, [Value.slice none 0 0], false⟩
  | 48 => some ⟨.struct [(0, 4), (1, 45), (2, 4)], 3, 40, [Value.bool false, Value.slice none 0 0, Value.bool false], false⟩
  | 50 => some ⟨.struct [(0, 9), (1, 41), (9, 42)], 10, 96, [Value.string ⟨#[]⟩, Value.int IntKind.i64 0, Value.int IntKind.i64 0, Value.bool false, Value.bool false, Value.int IntKind.i64 0, Value.int IntKind.i64 0, Value.int IntKind.i64 0, Value.int IntKind.i64 0, Value.slice none 0 0], false⟩
  | 51 => some ⟨.int .u64, 1, 8, [Value.int IntKind.u64 0], false⟩
  | 65 => some ⟨.cell, 1, 8, [Value.nilFunc], false⟩
  | 67 => some ⟨.cell, 1, 8, [Value.pointer none], false⟩
  | 69 => some ⟨.struct [(0, 26), (1, 3)], 2, 32, [Value.slice none 0 0, Value.int IntKind.i64 0], false⟩
  | 87 => some ⟨.slc 3, 1, 24, [Value.slice none 0 0], false⟩
  | 91 => some ⟨.cell, 1, 8, [Value.nilFunc], false⟩
  | 97 => some ⟨.cell, 1, 8, [Value.map none], false⟩
  | 115 => some ⟨.int .u64, 1, 8, [Value.int IntKind.u64 0], false⟩
  | 117 => some ⟨.iface, 1, 16, [Value.nilIface], false⟩
  | 127 => some ⟨.cell, 1, 8, [Value.pointer none], false⟩
  | 129 => some ⟨.struct [(0, 127), (1, 45)], 2, 32, [Value.pointer none, Value.slice none 0 0], false⟩
  | _ => none
theorem tt1 : TIOk Tryz.prog 1 ⟨.cell, 1, 8, [Value.nilFunc], false⟩ := ⟨⟨_, Tryz.underlying1, rfl⟩, ⟨Tryz.t1, _, by kernel_rfl, rfl, rfl, rfl, rfl⟩, rfl, by simp [Value.oneCell'], fun h => by cases h⟩
theorem tt_1 : tt 1 = some ⟨.cell, 1, 8, [Value.nilFunc], false⟩ := rfl
theorem tt3 : TIOk Tryz.prog 3 ⟨.int .i64, 1, 8, [Value.int IntKind.i64 0], false⟩ := ⟨Tryz.underlying3, ⟨Tryz.t3, _, by kernel_rfl, rfl, rfl, rfl, rfl⟩, rfl, by simp [Value.oneCell'], fun h => by cases h⟩
theorem tt_3 : tt 3 = some ⟨.int .i64, 1, 8, [Value.int IntKind.i64 0], false⟩ := rfl
theorem tt4 : TIOk Tryz.prog 4 ⟨.bool, 1, 1, [Value.bool false], false⟩ := ⟨Tryz.underlying4, ⟨Tryz.t4, _, by kernel_rfl, rfl, rfl, rfl, rfl⟩, rfl, by simp [Value.oneCell'], fun h => by cases h⟩
theorem tt_4 : tt 4 = some ⟨.bool, 1, 1, [Value.bool false], false⟩ := rfl
theorem tt5 : TIOk Tryz.prog 5 ⟨.int .u8, 1, 1, [Value.int IntKind.u8 0], false⟩ := ⟨Tryz.underlying5, ⟨Tryz.t5, _, by kernel_rfl, rfl, rfl, rfl, rfl⟩, rfl, by simp [Value.oneCell'], fun h => by cases h⟩
theorem tt_5 : tt 5 = some ⟨.int .u8, 1, 1, [Value.int IntKind.u8 0], false⟩ := rfl
theorem tt9 : TIOk Tryz.prog 9 ⟨.str, 1, 16, [Value.string ⟨#[]⟩], false⟩ := ⟨Tryz.underlying9, ⟨Tryz.t9, _, by kernel_rfl, rfl, rfl, rfl, rfl⟩, rfl, by simp [Value.oneCell'], fun h => by cases h⟩
theorem tt_9 : tt 9 = some ⟨.str, 1, 16, [Value.string ⟨#[]⟩], false⟩ := rfl
theorem tt21 : TIOk Tryz.prog 21 ⟨.int .i32, 1, 4, [Value.int IntKind.i32 0], false⟩ := ⟨Tryz.underlying21, ⟨Tryz.t21, _, by kernel_rfl, rfl, rfl, rfl, rfl⟩, rfl, by simp [Value.oneCell'], fun h => by cases h⟩
theorem tt_21 : tt 21 = some ⟨.int .i32, 1, 4, [Value.int IntKind.i32 0], false⟩ := rfl
theorem tt22 : TIOk Tryz.prog 22 ⟨.slc 50, 1, 24, [Value.slice none 0 0], false⟩ := ⟨Tryz.underlying22, ⟨Tryz.t22, _, by kernel_rfl, rfl, rfl, rfl, rfl⟩, rfl, by simp [Value.oneCell'], fun h => by cases h⟩
theorem tt_22 : tt 22 = some ⟨.slc 50, 1, 24, [Value.slice none 0 0], false⟩ := rfl
theorem tt24 : TIOk Tryz.prog 24 ⟨.slc 44, 1, 24, [Value.slice none 0 0], false⟩ := ⟨Tryz.underlying24, ⟨Tryz.t24, _, by kernel_rfl, rfl, rfl, rfl, rfl⟩, rfl, by simp [Value.oneCell'], fun h => by cases h⟩
theorem tt_24 : tt 24 = some ⟨.slc 44, 1, 24, [Value.slice none 0 0], false⟩ := rfl
theorem tt26 : TIOk Tryz.prog 26 ⟨.slc 48, 1, 24, [Value.slice none 0 0], false⟩ := ⟨Tryz.underlying26, ⟨Tryz.t26, _, by kernel_rfl, rfl, rfl, rfl, rfl⟩, rfl, by simp [Value.oneCell'], fun h => by cases h⟩
theorem tt_26 : tt 26 = some ⟨.slc 48, 1, 24, [Value.slice none 0 0], false⟩ := rfl
theorem tt27 : TIOk Tryz.prog 27 ⟨.int .i64, 1, 8, [Value.int IntKind.i64 0], false⟩ := ⟨Tryz.underlying27, ⟨Tryz.t27, _, by kernel_rfl, rfl, rfl, rfl, rfl⟩, rfl, by simp [Value.oneCell'], fun h => by cases h⟩
theorem tt_27 : tt 27 = some ⟨.int .i64, 1, 8, [Value.int IntKind.i64 0], false⟩ := rfl
theorem tt41 : TIOk Tryz.prog 41 ⟨.struct [(0, 3), (1, 3), (2, 4), (3, 4), (4, 3), (5, 3), (6, 3), (7, 3)], 8, 56, [Value.int IntKind.i64 0, Value.int IntKind.i64 0, Value.bool false, Value.bool false, Value.int IntKind.i64 0, Value.int IntKind.i64 0, Value.int IntKind.i64 0, Value.int IntKind.i64 0], true⟩ := ⟨⟨_, Tryz.underlying41, rfl⟩, ⟨Tryz.t41, _, by kernel_rfl, rfl, rfl, rfl, rfl⟩, rfl, by simp [Value.oneCell'], fun _ => ⟨by kernel_rfl, by kernel_rfl, fun fields hu => by rw [Tryz.underlying41] at hu; injection hu with hu; injection hu with hu; subst hu; simp⟩⟩
theorem tt_41 : tt 41 = some ⟨.struct [(0, 3), (1, 3), (2, 4), (3, 4), (4, 3), (5, 3), (6, 3), (7, 3)], 8, 56, [Value.int IntKind.i64 0, Value.int IntKind.i64 0, Value.bool false, Value.bool false, Value.int IntKind.i64 0, Value.int IntKind.i64 0, Value.int IntKind.i64 0, Value.int IntKind.i64 0], true⟩ := rfl
theorem tt42 : TIOk Tryz.prog 42 ⟨.slc 45, 1, 24, [Value.slice none 0 0], false⟩ := ⟨Tryz.underlying42, ⟨Tryz.t42, _, by kernel_rfl, rfl, rfl, rfl, rfl⟩, rfl, by simp [Value.oneCell'], fun h => by cases h⟩
theorem tt_42 : tt 42 = some ⟨.slc 45, 1, 24, [Value.slice none 0 0], false⟩ := rfl
theorem tt44 : TIOk Tryz.prog 44 ⟨.struct [(0, 9), (1, 41), (9, 42)], 10, 96, [Value.string ⟨#[]⟩, Value.int IntKind.i64 0, Value.int IntKind.i64 0, Value.bool false, Value.bool false, Value.int IntKind.i64 0, Value.int IntKind.i64 0, Value.int IntKind.i64 0, Value.int IntKind.i64 0, Value.slice none 0 0], false⟩ := ⟨⟨_, Tryz.underlying44, rfl⟩, ⟨Tryz.t44, _, by kernel_rfl, rfl, rfl, rfl, rfl⟩, rfl, by simp [Value.oneCell'], fun h => by cases h⟩
theorem tt_44 : tt 44 = some ⟨.struct [(0, 9), (1, 41), (9, 42)], 10, 96, [Value.string ⟨#[]⟩, Value.int IntKind.i64 0, Value.int IntKind.i64 0, Value.bool false, Value.bool false, Value.int IntKind.i64 0, Value.int IntKind.i64 0, Value.int IntKind.i64 0, Value.int IntKind.i64 0, Value.slice none 0 0], false⟩ := rfl
theorem tt45 : TIOk Tryz.prog 45 ⟨.slc 5, 1, 24, [Value.slice none 0 0], false⟩ := ⟨Tryz.underlying45, ⟨Tryz.t45, _, by kernel_rfl, rfl, rfl, rfl, rfl⟩, rfl, by simp [Value.oneCell'], fun h => by cases h⟩
theorem tt_45 : tt 45 = some ⟨.slc 5, 1, 24, [Value.slice none 0 0], false⟩ := rfl
theorem tt48 : TIOk Tryz.prog 48 ⟨.struct [(0, 4), (1, 45), (2, 4)], 3, 40, [Value.bool false, Value.slice none 0 0, Value.bool false], false⟩ := ⟨⟨_, Tryz.underlying48, rfl⟩, ⟨Tryz.t48, _, by kernel_rfl, rfl, rfl, rfl, rfl⟩, rfl, by simp [Value.oneCell'], fun h => by cases h⟩
theorem tt_48 : tt 48 = some ⟨.struct [(0, 4), (1, 45), (2, 4)], 3, 40, [Value.bool false, Value.slice none 0 0, Value.bool false], false⟩ := rfl
theorem tt50 : TIOk Tryz.prog 50 ⟨.struct [(0, 9), (1, 41), (9, 42)], 10, 96, [Value.string ⟨#[]⟩, Value.int IntKind.i64 0, Value.int IntKind.i64 0, Value.bool false, Value.bool false, Value.int IntKind.i64 0, Value.int IntKind.i64 0, Value.int IntKind.i64 0, Value.int IntKind.i64 0, Value.slice none 0 0], false⟩ := ⟨⟨_, Tryz.underlying50, rfl⟩, ⟨Tryz.t50, _, by kernel_rfl, rfl, rfl, rfl, rfl⟩, rfl, by simp [Value.oneCell'], fun h => by cases h⟩
theorem tt_50 : tt 50 = some ⟨.struct [(0, 9), (1, 41), (9, 42)], 10, 96, [Value.string ⟨#[]⟩, Value.int IntKind.i64 0, Value.int IntKind.i64 0, Value.bool false, Value.bool false, Value.int IntKind.i64 0, Value.int IntKind.i64 0, Value.int IntKind.i64 0, Value.int IntKind.i64 0, Value.slice none 0 0], false⟩ := rfl
theorem tt51 : TIOk Tryz.prog 51 ⟨.int .u64, 1, 8, [Value.int IntKind.u64 0], false⟩ := ⟨Tryz.underlying51, ⟨Tryz.t51, _, by kernel_rfl, rfl, rfl, rfl, rfl⟩, rfl, by simp [Value.oneCell'], fun h => by cases h⟩
theorem tt_51 : tt 51 = some ⟨.int .u64, 1, 8, [Value.int IntKind.u64 0], false⟩ := rfl
theorem tt65 : TIOk Tryz.prog 65 ⟨.cell, 1, 8, [Value.nilFunc], false⟩ := ⟨⟨_, Tryz.underlying65, rfl⟩, ⟨Tryz.t65, _, by kernel_rfl, rfl, rfl, rfl, rfl⟩, rfl, by simp [Value.oneCell'], fun h => by cases h⟩
theorem tt_65 : tt 65 = some ⟨.cell, 1, 8, [Value.nilFunc], false⟩ := rfl
theorem tt67 : TIOk Tryz.prog 67 ⟨.cell, 1, 8, [Value.pointer none], false⟩ := ⟨⟨_, Tryz.underlying67, rfl⟩, ⟨Tryz.t67, _, by kernel_rfl, rfl, rfl, rfl, rfl⟩, rfl, by simp [Value.oneCell'], fun h => by cases h⟩
theorem tt_67 : tt 67 = some ⟨.cell, 1, 8, [Value.pointer none], false⟩ := rfl
theorem tt69 : TIOk Tryz.prog 69 ⟨.struct [(0, 26), (1, 3)], 2, 32, [Value.slice none 0 0, Value.int IntKind.i64 0], false⟩ := ⟨⟨_, Tryz.underlying69, rfl⟩, ⟨Tryz.t69, _, by kernel_rfl, rfl, rfl, rfl, rfl⟩, rfl, by simp [Value.oneCell'], fun h => by cases h⟩
theorem tt_69 : tt 69 = some ⟨.struct [(0, 26), (1, 3)], 2, 32, [Value.slice none 0 0, Value.int IntKind.i64 0], false⟩ := rfl
theorem tt87 : TIOk Tryz.prog 87 ⟨.slc 3, 1, 24, [Value.slice none 0 0], false⟩ := ⟨Tryz.underlying87, ⟨Tryz.t87, _, by kernel_rfl, rfl, rfl, rfl, rfl⟩, rfl, by simp [Value.oneCell'], fun h => by cases h⟩
theorem tt_87 : tt 87 = some ⟨.slc 3, 1, 24, [Value.slice none 0 0], false⟩ := rfl
theorem tt91 : TIOk Tryz.prog 91 ⟨.cell, 1, 8, [Value.nilFunc], false⟩ := ⟨⟨_, Tryz.underlying91, rfl⟩, ⟨Tryz.t91, _, by kernel_rfl, rfl, rfl, rfl, rfl⟩, rfl, by simp [Value.oneCell'], fun h => by cases h⟩
theorem tt_91 : tt 91 = some ⟨.cell, 1, 8, [Value.nilFunc], false⟩ := rfl
theorem tt97 : TIOk Tryz.prog 97 ⟨.cell, 1, 8, [Value.map none], false⟩ := ⟨⟨_, Tryz.underlying97, rfl⟩, ⟨Tryz.t97, _, by kernel_rfl, rfl, rfl, rfl, rfl⟩, rfl, by simp [Value.oneCell'], fun h => by cases h⟩
theorem tt_97 : tt 97 = some ⟨.cell, 1, 8, [Value.map none], false⟩ := rfl
theorem tt115 : TIOk Tryz.prog 115 ⟨.int .u64, 1, 8, [Value.int IntKind.u64 0], false⟩ := ⟨Tryz.underlying115, ⟨Tryz.t115, _, by kernel_rfl, rfl, rfl, rfl, rfl⟩, rfl, by simp [Value.oneCell'], fun h => by cases h⟩
theorem tt_115 : tt 115 = some ⟨.int .u64, 1, 8, [Value.int IntKind.u64 0], false⟩ := rfl
theorem tt117 : TIOk Tryz.prog 117 ⟨.iface, 1, 16, [Value.nilIface], false⟩ := ⟨⟨_, Tryz.underlying117⟩, ⟨Tryz.t117, _, by kernel_rfl, rfl, rfl, rfl, rfl⟩, rfl, by simp [Value.oneCell'], fun h => by cases h⟩
theorem tt_117 : tt 117 = some ⟨.iface, 1, 16, [Value.nilIface], false⟩ := rfl
theorem tt127 : TIOk Tryz.prog 127 ⟨.cell, 1, 8, [Value.pointer none], false⟩ := ⟨⟨_, Tryz.underlying127, rfl⟩, ⟨Tryz.t127, _, by kernel_rfl, rfl, rfl, rfl, rfl⟩, rfl, by simp [Value.oneCell'], fun h => by cases h⟩
theorem tt_127 : tt 127 = some ⟨.cell, 1, 8, [Value.pointer none], false⟩ := rfl
theorem tt129 : TIOk Tryz.prog 129 ⟨.struct [(0, 127), (1, 45)], 2, 32, [Value.pointer none, Value.slice none 0 0], false⟩ := ⟨⟨_, Tryz.underlying129, rfl⟩, ⟨Tryz.t129, _, by kernel_rfl, rfl, rfl, rfl, rfl⟩, rfl, by simp [Value.oneCell'], fun h => by cases h⟩
theorem tt_129 : tt 129 = some ⟨.struct [(0, 127), (1, 45)], 2, 32, [Value.pointer none, Value.slice none 0 0], false⟩ := rfl
theorem tt_ok : TTOk Tryz.prog tt := by
  intro t ti h
  unfold tt at h
  split at h
  · injection h with h; subst h; exact tt1
  · injection h with h; subst h; exact tt3
  · injection h with h; subst h; exact tt4
  · injection h with h; subst h; exact tt5
  · injection h with h; subst h; exact tt9
  · injection h with h; subst h; exact tt21
  · injection h with h; subst h; exact tt22
  · injection h with h; subst h; exact tt24
  · injection h with h; subst h; exact tt26
  · injection h with h; subst h; exact tt27
  · injection h with h; subst h; exact tt41
  · injection h with h; subst h; exact tt42
  · injection h with h; subst h; exact tt44
  · injection h with h; subst h; exact tt45
  · injection h with h; subst h; exact tt48
  · injection h with h; subst h; exact tt50
  · injection h with h; subst h; exact tt51
  · injection h with h; subst h; exact tt65
  · injection h with h; subst h; exact tt67
  · injection h with h; subst h; exact tt69
  · injection h with h; subst h; exact tt87
  · injection h with h; subst h; exact tt91
  · injection h with h; subst h; exact tt97
  · injection h with h; subst h; exact tt115
  · injection h with h; subst h; exact tt117
  · injection h with h; subst h; exact tt127
  · injection h with h; subst h; exact tt129
  · cases h
theorem tts : (type_of% tt_1) ∧ (type_of% tt_3) ∧ (type_of% tt_4) ∧ (type_of% tt_5) ∧ (type_of% tt_9) ∧ (type_of% tt_21) ∧ (type_of% tt_22) ∧ (type_of% tt_24) ∧ (type_of% tt_26) ∧ (type_of% tt_27) ∧ (type_of% tt_41) ∧ (type_of% tt_42) ∧ (type_of% tt_44) ∧ (type_of% tt_45) ∧ (type_of% tt_48) ∧ (type_of% tt_50) ∧ (type_of% tt_51) ∧ (type_of% tt_65) ∧ (type_of% tt_67) ∧ (type_of% tt_69) ∧ (type_of% tt_87) ∧ (type_of% tt_91) ∧ (type_of% tt_97) ∧ (type_of% tt_115) ∧ (type_of% tt_117) ∧ (type_of% tt_127) ∧ (type_of% tt_129) :=
  ⟨tt_1, tt_3, tt_4, tt_5, tt_9, tt_21, tt_22, tt_24, tt_26, tt_27, tt_41, tt_42, tt_44, tt_45, tt_48, tt_50, tt_51, tt_65, tt_67, tt_69, tt_87, tt_91, tt_97, tt_115, tt_117, tt_127, tt_129⟩
attribute [go_sem] tts
end Go.Proofs.YtjedikaidbobdaaGreatDoor
