import Derived.Test.YtnaljgmcpagbbaaDoorProg
import Derived.Test.YtnaljgmcpagbbaaDoorVP
/- The types of the program as the value machine knows them: the table holds. -/
namespace Go.Proofs.YtnaljgmcpagbbaaDoor
open Go.RowKit
set_option linter.unusedVariables false
set_option linter.unusedSimpArgs false
def tt : TT
  | 3 => some ⟨.int .i64, 1, 8, [Value.int IntKind.i64 0], false⟩
  | 4 => some ⟨.bool, 1, 1, [Value.bool false], false⟩
  | 5 => some ⟨.int .u8, 1, 1, [Value.int IntKind.u8 0], false⟩
  | 9 => some ⟨.str, 1, 16, [Value.string ⟨#[]⟩], false⟩
  | 22 => some ⟨.cell, 1, 8, [Value.nilFunc], false⟩
  | 24 => some ⟨.slc 9, 1, 24, [Value.slice none 0 0], false⟩
  | 25 => some ⟨.slc 5, 1, 24, [Value.slice none 0 0], false⟩
  | 26 => some ⟨.slc 33, 1, 24, [Value.slice none 0 0], false⟩
  | 27 => some ⟨.int .i64, 1, 8, [Value.int IntKind.i64 0], false⟩
  | 31 => some ⟨.slc 42, 1, 24, [Value.slice none 0 0], false⟩
  | 33 => some ⟨.struct [(0, 3), (1, 9), (2, 9), (3, 31), (4, 24)], 5, 88, [Value.int IntKind.i64 0, Value.string ⟨#[]⟩, Value.string ⟨#[]⟩, Value.slice none 0 0, Value.slice none 0 0], false⟩
  | 42 => some ⟨.struct [(0, 9), (1, 9), (2, 24)], 3, 56, [Value.string ⟨#[]⟩, Value.string ⟨#[]⟩, Value.slice none 0 0], false⟩
  | 52 => some ⟨.int .u64, 1, 8, [Value.int IntKind.u64 0], false⟩
  | 56 => some ⟨.cell, 1, 8, [Value.pointer none], false⟩
  | 58 => some ⟨.struct [(0, 24), (1, 3)], 2, 32, [Value.slice none 0 0, Value.int IntKind.i64 0], false⟩
  | 63 => some ⟨.cell, 1, 8, [Value.pointer none], false⟩
  | 64 => some ⟨.slc 3, 1, 24, [Value.slice none 0 0], false⟩
  | 69 => some ⟨.cell, 1, 8, [Value.nilFunc], false⟩
  | 75 => some ⟨.cell, 1, 8, [Value.nilFunc], false⟩
  | _ => none
theorem tt3 : TIOk Tryd.prog 3 ⟨.int .i64, 1, 8, [Value.int IntKind.i64 0], false⟩ := ⟨Tryd.underlying3, ⟨Tryd.t3, _, by kernel_rfl, rfl, rfl, rfl, rfl⟩, rfl, by simp [Value.oneCell'], fun h => by cases h⟩
theorem tt_3 : tt 3 = some ⟨.int .i64, 1, 8, [Value.int IntKind.i64 0], false⟩ := rfl
theorem tt4 : TIOk Tryd.prog 4 ⟨.bool, 1, 1, [Value.bool false], false⟩ := ⟨Tryd.underlying4, ⟨Tryd.t4, _, by kernel_rfl, rfl, rfl, rfl, rfl⟩, rfl, by simp [Value.oneCell'], fun h => by cases h⟩
theorem tt_4 : tt 4 = some ⟨.bool, 1, 1, [Value.bool false], false⟩ := rfl
theorem tt5 : TIOk Tryd.prog 5 ⟨.int .u8, 1, 1, [Value.int IntKind.u8 0], false⟩ := ⟨Tryd.underlying5, ⟨Tryd.t5, _, by kernel_rfl, rfl, rfl, rfl, rfl⟩, rfl, by simp [Value.oneCell'], fun h => by cases h⟩
theorem tt_5 : tt 5 = some ⟨.int .u8, 1, 1, [Value.int IntKind.u8 0], false⟩ := rfl
theorem tt9 : TIOk Tryd.prog 9 ⟨.str, 1, 16, [Value.string ⟨#[]⟩], false⟩ := ⟨Tryd.underlying9, ⟨Tryd.t9, _, by kernel_rfl, rfl, rfl, rfl, rfl⟩, rfl, by simp [Value.oneCell'], fun h => by cases h⟩
theorem tt_9 : tt 9 = some ⟨.str, 1, 16, [Value.string ⟨#[]⟩], false⟩ := rfl
theorem tt22 : TIOk Tryd.prog 22 ⟨.cell, 1, 8, [Value.nilFunc], false⟩ := ⟨⟨_, Tryd.underlying22, rfl⟩, ⟨Tryd.t22, _, by kernel_rfl, rfl, rfl, rfl, rfl⟩, rfl, by simp [Value.oneCell'], fun h => by cases h⟩
theorem tt_22 : tt 22 = some ⟨.cell, 1, 8, [Value.nilFunc], false⟩ := rfl
theorem tt24 : TIOk Tryd.prog 24 ⟨.slc 9, 1, 24, [Value.slice none 0 0], false⟩ := ⟨Tryd.underlying24, ⟨Tryd.t24, _, by kernel_rfl, rfl, rfl, rfl, rfl⟩, rfl, by simp [Value.oneCell'], fun h => by cases h⟩
theorem tt_24 : tt 24 = some ⟨.slc 9, 1, 24, [Value.slice none 0 0], false⟩ := rfl
theorem tt25 : TIOk Tryd.prog 25 ⟨.slc 5, 1, 24, [Value.slice none 0 0], false⟩ := ⟨Tryd.underlying25, ⟨Tryd.t25, _, by kernel_rfl, rfl, rfl, rfl, rfl⟩, rfl, by simp [Value.oneCell'], fun h => by cases h⟩
theorem tt_25 : tt 25 = some ⟨.slc 5, 1, 24, [Value.slice none 0 0], false⟩ := rfl
theorem tt26 : TIOk Tryd.prog 26 ⟨.slc 33, 1, 24, [Value.slice none 0 0], false⟩ := ⟨Tryd.underlying26, ⟨Tryd.t26, _, by kernel_rfl, rfl, rfl, rfl, rfl⟩, rfl, by simp [Value.oneCell'], fun h => by cases h⟩
theorem tt_26 : tt 26 = some ⟨.slc 33, 1, 24, [Value.slice none 0 0], false⟩ := rfl
theorem tt27 : TIOk Tryd.prog 27 ⟨.int .i64, 1, 8, [Value.int IntKind.i64 0], false⟩ := ⟨Tryd.underlying27, ⟨Tryd.t27, _, by kernel_rfl, rfl, rfl, rfl, rfl⟩, rfl, by simp [Value.oneCell'], fun h => by cases h⟩
theorem tt_27 : tt 27 = some ⟨.int .i64, 1, 8, [Value.int IntKind.i64 0], false⟩ := rfl
theorem tt31 : TIOk Tryd.prog 31 ⟨.slc 42, 1, 24, [Value.slice none 0 0], false⟩ := ⟨Tryd.underlying31, ⟨Tryd.t31, _, by kernel_rfl, rfl, rfl, rfl, rfl⟩, rfl, by simp [Value.oneCell'], fun h => by cases h⟩
theorem tt_31 : tt 31 = some ⟨.slc 42, 1, 24, [Value.slice none 0 0], false⟩ := rfl
theorem tt33 : TIOk Tryd.prog 33 ⟨.struct [(0, 3), (1, 9), (2, 9), (3, 31), (4, 24)], 5, 88, [Value.int IntKind.i64 0, Value.string ⟨#[]⟩, Value.string ⟨#[]⟩, Value.slice none 0 0, Value.slice none 0 0], false⟩ := ⟨⟨_, Tryd.underlying33, rfl⟩, ⟨Tryd.t33, _, by kernel_rfl, rfl, rfl, rfl, rfl⟩, rfl, by simp [Value.oneCell'], fun h => by cases h⟩
theorem tt_33 : tt 33 = some ⟨.struct [(0, 3), (1, 9), (2, 9), (3, 31), (4, 24)], 5, 88, [Value.int IntKind.i64 0, Value.string ⟨#[]⟩, Value.string ⟨#[]⟩, Value.slice none 0 0, Value.slice none 0 0], false⟩ := rfl
theorem tt42 : TIOk Tryd.prog 42 ⟨.struct [(0, 9), (1, 9), (2, 24)], 3, 56, [Value.string ⟨#[]⟩, Value.string ⟨#[]⟩, Value.slice none 0 0], false⟩ := ⟨⟨_, Tryd.underlying42, rfl⟩, ⟨Tryd.t42, _, by kernel_rfl, rfl, rfl, rfl, rfl⟩, rfl, by simp [Value.oneCell'], fun h => by cases h⟩
theorem tt_42 : tt 42 = some ⟨.struct [(0, 9), (1, 9), (2, 24)], 3, 56, [Value.string ⟨#[]⟩, Value.string ⟨#[]⟩, Value.slice none 0 0], false⟩ := rfl
theorem tt52 : TIOk Tryd.prog 52 ⟨.int .u64, 1, 8, [Value.int IntKind.u64 0], false⟩ := ⟨Tryd.underlying52, ⟨Tryd.t52, _, by kernel_rfl, rfl, rfl, rfl, rfl⟩, rfl, by simp [Value.oneCell'], fun h => by cases h⟩
theorem tt_52 : tt 52 = some ⟨.int .u64, 1, 8, [Value.int IntKind.u64 0], false⟩ := rfl
theorem tt56 : TIOk Tryd.prog 56 ⟨.cell, 1, 8, [Value.pointer none], false⟩ := ⟨⟨_, Tryd.underlying56, rfl⟩, ⟨Tryd.t56, _, by kernel_rfl, rfl, rfl, rfl, rfl⟩, rfl, by simp [Value.oneCell'], fun h => by cases h⟩
theorem tt_56 : tt 56 = some ⟨.cell, 1, 8, [Value.pointer none], false⟩ := rfl
theorem tt58 : TIOk Tryd.prog 58 ⟨.struct [(0, 24), (1, 3)], 2, 32, [Value.slice none 0 0, Value.int IntKind.i64 0], false⟩ := ⟨⟨_, Tryd.underlying58, rfl⟩, ⟨Tryd.t58, _, by kernel_rfl, rfl, rfl, rfl, rfl⟩, rfl, by simp [Value.oneCell'], fun h => by cases h⟩
theorem tt_58 : tt 58 = some ⟨.struct [(0, 24), (1, 3)], 2, 32, [Value.slice none 0 0, Value.int IntKind.i64 0], false⟩ := rfl
theorem tt63 : TIOk Tryd.prog 63 ⟨.cell, 1, 8, [Value.pointer none], false⟩ := ⟨⟨_, Tryd.underlying63, rfl⟩, ⟨Tryd.t63, _, by kernel_rfl, rfl, rfl, rfl, rfl⟩, rfl, by simp [Value.oneCell'], fun h => by cases h⟩
theorem tt_63 : tt 63 = some ⟨.cell, 1, 8, [Value.pointer none], false⟩ := rfl
theorem tt64 : TIOk Tryd.prog 64 ⟨.slc 3, 1, 24, [Value.slice none 0 0], false⟩ := ⟨Tryd.underlying64, ⟨Tryd.t64, _, by kernel_rfl, rfl, rfl, rfl, rfl⟩, rfl, by simp [Value.oneCell'], fun h => by cases h⟩
theorem tt_64 : tt 64 = some ⟨.slc 3, 1, 24, [Value.slice none 0 0], false⟩ := rfl
theorem tt69 : TIOk Tryd.prog 69 ⟨.cell, 1, 8, [Value.nilFunc], false⟩ := ⟨⟨_, Tryd.underlying69, rfl⟩, ⟨Tryd.t69, _, by kernel_rfl, rfl, rfl, rfl, rfl⟩, rfl, by simp [Value.oneCell'], fun h => by cases h⟩
theorem tt_69 : tt 69 = some ⟨.cell, 1, 8, [Value.nilFunc], false⟩ := rfl
theorem tt75 : TIOk Tryd.prog 75 ⟨.cell, 1, 8, [Value.nilFunc], false⟩ := ⟨⟨_, Tryd.underlying75, rfl⟩, ⟨Tryd.t75, _, by kernel_rfl, rfl, rfl, rfl, rfl⟩, rfl, by simp [Value.oneCell'], fun h => by cases h⟩
theorem tt_75 : tt 75 = some ⟨.cell, 1, 8, [Value.nilFunc], false⟩ := rfl
theorem tt_ok : TTOk Tryd.prog tt := by
  intro t ti h
  unfold tt at h
  split at h
  · injection h with h; subst h; exact tt3
  · injection h with h; subst h; exact tt4
  · injection h with h; subst h; exact tt5
  · injection h with h; subst h; exact tt9
  · injection h with h; subst h; exact tt22
  · injection h with h; subst h; exact tt24
  · injection h with h; subst h; exact tt25
  · injection h with h; subst h; exact tt26
  · injection h with h; subst h; exact tt27
  · injection h with h; subst h; exact tt31
  · injection h with h; subst h; exact tt33
  · injection h with h; subst h; exact tt42
  · injection h with h; subst h; exact tt52
  · injection h with h; subst h; exact tt56
  · injection h with h; subst h; exact tt58
  · injection h with h; subst h; exact tt63
  · injection h with h; subst h; exact tt64
  · injection h with h; subst h; exact tt69
  · injection h with h; subst h; exact tt75
  · cases h
theorem tts : (type_of% tt_3) ∧ (type_of% tt_4) ∧ (type_of% tt_5) ∧ (type_of% tt_9) ∧ (type_of% tt_22) ∧ (type_of% tt_24) ∧ (type_of% tt_25) ∧ (type_of% tt_26) ∧ (type_of% tt_27) ∧ (type_of% tt_31) ∧ (type_of% tt_33) ∧ (type_of% tt_42) ∧ (type_of% tt_52) ∧ (type_of% tt_56) ∧ (type_of% tt_58) ∧ (type_of% tt_63) ∧ (type_of% tt_64) ∧ (type_of% tt_69) ∧ (type_of% tt_75) :=
  ⟨tt_3, tt_4, tt_5, tt_9, tt_22, tt_24, tt_25, tt_26, tt_27, tt_31, tt_33, tt_42, tt_52, tt_56, tt_58, tt_63, tt_64, tt_69, tt_75⟩
attribute [go_sem] tts
end Go.Proofs.YtnaljgmcpagbbaaDoor
