import Derived.Test.YtnaljgmcpagbbaaGreatDoorProg
import Derived.Test.YtnaljgmcpagbbaaGreatDoorVP
/- The types of the program as the value machine knows them: the table holds. -/
namespace Go.Proofs.YtnaljgmcpagbbaaGreatDoor
open Go.RowKit
set_option linter.unusedVariables false
set_option linter.unusedSimpArgs false
def tt : TT
  | 3 => some ⟨.int .i64, 1, 8, [Value.int IntKind.i64 0], false⟩
  | 4 => some ⟨.bool, 1, 1, [Value.bool false], false⟩
  | 5 => some ⟨.int .u8, 1, 1, [Value.int IntKind.u8 0], false⟩
  | 9 => some ⟨.str, 1, 16, [Value.string ⟨#[]⟩], false⟩
  | 22 => some ⟨.slc 34, 1, 24, [Value.slice none 0 0], false⟩
  | 25 => some ⟨.slc 9, 1, 24, [Value.slice none 0 0], false⟩
  | 26 => some ⟨.int .i64, 1, 8, [Value.int IntKind.i64 0], false⟩
  | 32 => some ⟨.slc 37, 1, 24, [Value.slice none 0 0], false⟩
  | 34 => some ⟨.struct [(0, 3), (1, 9), (2, 9), (3, 32), (4, 25)], 5, 88, [Value.int IntKind.i64 0, Value.string ⟨#[]⟩, Value.string ⟨#[]⟩, Value.slice none 0 0, Value.slice none 0 0], false⟩
  | 37 => some ⟨.struct [(0, 9), (1, 9), (2, 25)], 3, 56, [Value.string ⟨#[]⟩, Value.string ⟨#[]⟩, Value.slice none 0 0], false⟩
  | 42 => some ⟨.cell, 1, 8, [Value.nilFunc], false⟩
  | 52 => some ⟨.cell, 1, 8, [Value.pointer none], false⟩
  | 54 => some ⟨.struct [(0, 25), (1, 3)], 2, 32, [Value.slice none 0 0, Value.int IntKind.i64 0], false⟩
  | 58 => some ⟨.cell, 1, 8, [Value.pointer none], false⟩
  | 60 => some ⟨.cell, 1, 8, [Value.nilFunc], false⟩
  | 74 => some ⟨.cell, 1, 8, [Value.nilFunc], false⟩
  | 100 => some ⟨.slc 3, 1, 24, [Value.slice none 0 0], false⟩
  | _ => none
theorem tt3 : TIOk Tryz.prog 3 ⟨.int .i64, 1, 8, [Value.int IntKind.i64 0], false⟩ := ⟨Tryz.underlying3, ⟨Tryz.t3, _, by kernel_rfl, rfl, rfl, rfl, rfl⟩, rfl, by simp [Value.oneCell'], fun h => by cases h⟩
theorem tt_3 : tt 3 = some ⟨.int .i64, 1, 8, [Value.int IntKind.i64 0], false⟩ := rfl
theorem tt4 : TIOk Tryz.prog 4 ⟨.bool, 1, 1, [Value.bool false], false⟩ := ⟨Tryz.underlying4, ⟨Tryz.t4, _, by kernel_rfl, rfl, rfl, rfl, rfl⟩, rfl, by simp [Value.oneCell'], fun h => by cases h⟩
theorem tt_4 : tt 4 = some ⟨.bool, 1, 1, [Value.bool false], false⟩ := rfl
theorem tt5 : TIOk Tryz.prog 5 ⟨.int .u8, 1, 1, [Value.int IntKind.u8 0], false⟩ := ⟨Tryz.underlying5, ⟨Tryz.t5, _, by kernel_rfl, rfl, rfl, rfl, rfl⟩, rfl, by simp [Value.oneCell'], fun h => by cases h⟩
theorem tt_5 : tt 5 = some ⟨.int .u8, 1, 1, [Value.int IntKind.u8 0], false⟩ := rfl
theorem tt9 : TIOk Tryz.prog 9 ⟨.str, 1, 16, [Value.string ⟨#[]⟩], false⟩ := ⟨Tryz.underlying9, ⟨Tryz.t9, _, by kernel_rfl, rfl, rfl, rfl, rfl⟩, rfl, by simp [Value.oneCell'], fun h => by cases h⟩
theorem tt_9 : tt 9 = some ⟨.str, 1, 16, [Value.string ⟨#[]⟩], false⟩ := rfl
theorem tt22 : TIOk Tryz.prog 22 ⟨.slc 34, 1, 24, [Value.slice none 0 0], false⟩ := ⟨Tryz.underlying22, ⟨Tryz.t22, _, by kernel_rfl, rfl, rfl, rfl, rfl⟩, rfl, by simp [Value.oneCell'], fun h => by cases h⟩
theorem tt_22 : tt 22 = some ⟨.slc 34, 1, 24, [Value.slice none 0 0], false⟩ := rfl
theorem tt25 : TIOk Tryz.prog 25 ⟨.slc 9, 1, 24, [Value.slice none 0 0], false⟩ := ⟨Tryz.underlying25, ⟨Tryz.t25, _, by kernel_rfl, rfl, rfl, rfl, rfl⟩, rfl, by simp [Value.oneCell'], fun h => by cases h⟩
theorem tt_25 : tt 25 = some ⟨.slc 9, 1, 24, [Value.slice none 0 0], false⟩ := rfl
theorem tt26 : TIOk Tryz.prog 26 ⟨.int .i64, 1, 8, [Value.int IntKind.i64 0], false⟩ := ⟨Tryz.underlying26, ⟨Tryz.t26, _, by kernel_rfl, rfl, rfl, rfl, rfl⟩, rfl, by simp [Value.oneCell'], fun h => by cases h⟩
theorem tt_26 : tt 26 = some ⟨.int .i64, 1, 8, [Value.int IntKind.i64 0], false⟩ := rfl
theorem tt32 : TIOk Tryz.prog 32 ⟨.slc 37, 1, 24, [Value.slice none 0 0], false⟩ := ⟨Tryz.underlying32, ⟨Tryz.t32, _, by kernel_rfl, rfl, rfl, rfl, rfl⟩, rfl, by simp [Value.oneCell'], fun h => by cases h⟩
theorem tt_32 : tt 32 = some ⟨.slc 37, 1, 24, [Value.slice none 0 0], false⟩ := rfl
theorem tt34 : TIOk Tryz.prog 34 ⟨.struct [(0, 3), (1, 9), (2, 9), (3, 32), (4, 25)], 5, 88, [Value.int IntKind.i64 0, Value.string ⟨#[]⟩, Value.string ⟨#[]⟩, Value.slice none 0 0, Value.slice none 0 0], false⟩ := ⟨⟨_, Tryz.underlying34, rfl⟩, ⟨Tryz.t34, _, by kernel_rfl, rfl, rfl, rfl, rfl⟩, rfl, by simp [Value.oneCell'], fun h => by cases h⟩
theorem tt_34 : tt 34 = some ⟨.struct [(0, 3), (1, 9), (2, 9), (3, 32), (4, 25)], 5, 88, [Value.int IntKind.i64 0, Value.string ⟨#[]⟩, Value.string ⟨#[]⟩, Value.slice none 0 0, Value.slice none 0 0], false⟩ := rfl
theorem tt37 : TIOk Tryz.prog 37 ⟨.struct [(0, 9), (1, 9), (2, 25)], 3, 56, [Value.string ⟨#[]⟩, Value.string ⟨#[]⟩, Value.slice none 0 0], false⟩ := ⟨⟨_, Tryz.underlying37, rfl⟩, ⟨Tryz.t37, _, by kernel_rfl, rfl, rfl, rfl, rfl⟩, rfl, by simp [Value.oneCell'], fun h => by cases h⟩
theorem tt_37 : tt 37 = some ⟨.struct [(0, 9), (1, 9), (2, 25)], 3, 56, [Value.string ⟨#[]⟩, Value.string ⟨#[]⟩, Value.slice none 0 0], false⟩ := rfl
theorem tt42 : TIOk Tryz.prog 42 ⟨.cell, 1, 8, [Value.nilFunc], false⟩ := ⟨⟨_, Tryz.underlying42, rfl⟩, ⟨Tryz.t42, _, by kernel_rfl, rfl, rfl, rfl, rfl⟩, rfl, by simp [Value.oneCell'], fun h => by cases h⟩
theorem tt_42 : tt 42 = some ⟨.cell, 1, 8, [Value.nilFunc], false⟩ := rfl
theorem tt52 : TIOk Tryz.prog 52 ⟨.cell, 1, 8, [Value.pointer none], false⟩ := ⟨⟨_, Tryz.underlying52, rfl⟩, ⟨Tryz.t52, _, by kernel_rfl, rfl, rfl, rfl, rfl⟩, rfl, by simp [Value.oneCell'], fun h => by cases h⟩
theorem tt_52 : tt 52 = some ⟨.cell, 1, 8, [Value.pointer none], false⟩ := rfl
theorem tt54 : TIOk Tryz.prog 54 ⟨.struct [(0, 25), (1, 3)], 2, 32, [Value.slice none 0 0, Value.int IntKind.i64 0], false⟩ := ⟨⟨_, Tryz.underlying54, rfl⟩, ⟨Tryz.t54, _, by kernel_rfl, rfl, rfl, rfl, rfl⟩, rfl, by simp [Value.oneCell'], fun h => by cases h⟩
theorem tt_54 : tt 54 = some ⟨.struct [(0, 25), (1, 3)], 2, 32, [Value.slice none 0 0, Value.int IntKind.i64 0], false⟩ := rfl
theorem tt58 : TIOk Tryz.prog 58 ⟨.cell, 1, 8, [Value.pointer none], false⟩ := ⟨⟨_, Tryz.underlying58, rfl⟩, ⟨Tryz.t58, _, by kernel_rfl, rfl, rfl, rfl, rfl⟩, rfl, by simp [Value.oneCell'], fun h => by cases h⟩
theorem tt_58 : tt 58 = some ⟨.cell, 1, 8, [Value.pointer none], false⟩ := rfl
theorem tt60 : TIOk Tryz.prog 60 ⟨.cell, 1, 8, [Value.nilFunc], false⟩ := ⟨⟨_, Tryz.underlying60, rfl⟩, ⟨Tryz.t60, _, by kernel_rfl, rfl, rfl, rfl, rfl⟩, rfl, by simp [Value.oneCell'], fun h => by cases h⟩
theorem tt_60 : tt 60 = some ⟨.cell, 1, 8, [Value.nilFunc], false⟩ := rfl
theorem tt74 : TIOk Tryz.prog 74 ⟨.cell, 1, 8, [Value.nilFunc], false⟩ := ⟨⟨_, Tryz.underlying74, rfl⟩, ⟨Tryz.t74, _, by kernel_rfl, rfl, rfl, rfl, rfl⟩, rfl, by simp [Value.oneCell'], fun h => by cases h⟩
theorem tt_74 : tt 74 = some ⟨.cell, 1, 8, [Value.nilFunc], false⟩ := rfl
theorem tt100 : TIOk Tryz.prog 100 ⟨.slc 3, 1, 24, [Value.slice none 0 0], false⟩ := ⟨Tryz.underlying100, ⟨Tryz.t100, _, by kernel_rfl, rfl, rfl, rfl, rfl⟩, rfl, by simp [Value.oneCell'], fun h => by cases h⟩
theorem tt_100 : tt 100 = some ⟨.slc 3, 1, 24, [Value.slice none 0 0], false⟩ := rfl
theorem tt_ok : TTOk Tryz.prog tt := by
  intro t ti h
  unfold tt at h
  split at h
  · injection h with h; subst h; exact tt3
  · injection h with h; subst h; exact tt4
  · injection h with h; subst h; exact tt5
  · injection h with h; subst h; exact tt9
  · injection h with h; subst h; exact tt22
  · injection h with h; subst h; exact tt25
  · injection h with h; subst h; exact tt26
  · injection h with h; subst h; exact tt32
  · injection h with h; subst h; exact tt34
  · injection h with h; subst h; exact tt37
  · injection h with h; subst h; exact tt42
  · injection h with h; subst h; exact tt52
  · injection h with h; subst h; exact tt54
  · injection h with h; subst h; exact tt58
  · injection h with h; subst h; exact tt60
  · injection h with h; subst h; exact tt74
  · injection h with h; subst h; exact tt100
  · cases h
theorem tts : (type_of% tt_3) ∧ (type_of% tt_4) ∧ (type_of% tt_5) ∧ (type_of% tt_9) ∧ (type_of% tt_22) ∧ (type_of% tt_25) ∧ (type_of% tt_26) ∧ (type_of% tt_32) ∧ (type_of% tt_34) ∧ (type_of% tt_37) ∧ (type_of% tt_42) ∧ (type_of% tt_52) ∧ (type_of% tt_54) ∧ (type_of% tt_58) ∧ (type_of% tt_60) ∧ (type_of% tt_74) ∧ (type_of% tt_100) :=
  ⟨tt_3, tt_4, tt_5, tt_9, tt_22, tt_25, tt_26, tt_32, tt_34, tt_37, tt_42, tt_52, tt_54, tt_58, tt_60, tt_74, tt_100⟩
attribute [go_sem] tts
end Go.Proofs.YtnaljgmcpagbbaaGreatDoor
