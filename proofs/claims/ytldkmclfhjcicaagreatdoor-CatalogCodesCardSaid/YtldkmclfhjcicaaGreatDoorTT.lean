import Derived.Test.YtldkmclfhjcicaaGreatDoorProg
import Derived.Test.YtldkmclfhjcicaaGreatDoorVP
/- The types of the program as the value machine knows them: the table holds. -/
namespace Go.Proofs.YtldkmclfhjcicaaGreatDoor
open Go.RowKit
set_option linter.unusedVariables false
set_option linter.unusedSimpArgs false
def tt : TT
  | 3 => some ⟨.int .i64, 1, 8, [Value.int IntKind.i64 0], false⟩
  | 4 => some ⟨.bool, 1, 1, [Value.bool false], false⟩
  | 5 => some ⟨.int .u8, 1, 1, [Value.int IntKind.u8 0], false⟩
  | 9 => some ⟨.str, 1, 16, [Value.string ⟨#[]⟩], false⟩
  | 21 => some ⟨.int .i32, 1, 4, [Value.int IntKind.i32 0], false⟩
  | 22 => some ⟨.slc 45, 1, 24, [Value.slice none 0 0], false⟩
  | 23 => some ⟨.slc 54, 1, 24, [Value.slice none 0 0], false⟩
  | 25 => some ⟨.struct [(0, 22), (1, 23)], 2, 48, [Value.slice none 0 0, Value.slice none 0 0], false⟩
  | 26 => some ⟨.slc 42, 1, 24, [Value.slice none 0 0], false⟩
  | 27 => some ⟨.slc 5, 1, 24, [Value.slice none 0 0], false⟩
  | 28 => some ⟨.int .u16, 1, 2, [Value.int IntKind.u16 0], false⟩
  | 29 => some ⟨.slc 47, 1, 24, [Value.slice none 0 0], false⟩
  | 31 => some ⟨.struct [(0, 22), (1, 29)], 2, 48, [Value.slice none 0 0, Value.slice none 0 0], false⟩
  | 42 => some ⟨.struct [(0, 5), (1, 5), (2, 3), (3, 3), (4, 9)], 5, 40, [Value.int IntKind.u8 0, Value.int IntKind.u8 0, Value.int IntKind.i64 0, Value.int IntKind.i64 0, Value.string ⟨#[]⟩], true⟩
  | 43 => some ⟨.cell, 1, 8, [Value.nilFunc], false⟩
  | 45 => some ⟨.struct [(0, 9), (1, 3), (2, 9), (3, 3)], 4, 48, [Value.string ⟨#[]⟩, Value.int IntKind.i64 0, Value.string ⟨#[]⟩, Value.int IntKind.i64 0], true⟩
  | 47 => some ⟨.struct [(0, 9), (1, 3)], 2, 24, [Value.string ⟨#[]⟩, Value.int IntKind.i64 0], true⟩
  | 48 => some ⟨.int .i64, 1, 8, [Value.int IntKind.i64 0], false⟩
  | 54 => some ⟨.struct [(0, 9), (1, 3)], 2, 24, [Value.string ⟨#[]⟩, Value.int IntKind.i64 0], true⟩
  | 64 => some ⟨.arr 3 9, 3, 48, [Value.string ⟨#[]⟩, Value.string ⟨#[]⟩, Value.string ⟨#[]⟩], false⟩
  | 75 => some ⟨.int .u64, 1, 8, [Value.int IntKind.u64 0], false⟩
  | 83 => some ⟨.slc 3, 1, 24, [Value.slice none 0 0], false⟩
  | 87 => some ⟨.cell, 1, 8, [Value.nilFunc], false⟩
  | 89 => some ⟨.cell, 1, 8, [Value.nilFunc], false⟩
  | 90 => some ⟨.cell, 1, 8, [Value.pointer none], false⟩
  | 92 => some ⟨.struct [(0, 27), (1, 4)], 2, 32, [Value.slice none 0 0, Value.bool false], false⟩
  | 95 => some ⟨.cell, 1, 8, [Value.nilFunc], false⟩
  | 98 => some ⟨.cell, 1, 8, [Value.nilFunc], false⟩
  | 101 => some ⟨.cell, 1, 8, [Value.nilFunc], false⟩
  | 108 => some ⟨.arr 6 9, 6, 96, [Value.string ⟨#[]⟩, Value.string ⟨#[]⟩, Value.string ⟨#[]⟩, Value.string ⟨#[]⟩, Value.string ⟨#[]⟩, Value.string ⟨#[]⟩], false⟩
  | 111 => some ⟨.slc 9, 1, 24, [Value.slice none 0 0], false⟩
  | 113 => some ⟨.cell, 1, 8, [Value.nilFunc], false⟩
  | 118 => some ⟨.cell, 1, 8, [Value.nilFunc], false⟩
  | _ => none
theorem tt3 : TIOk Tryz.prog 3 ⟨.int .i64, 1, 8, [Value.int IntKind.i64 0], false⟩ := ⟨Tryz.underlying3, ⟨Tryz.t3, _, by kernel_rfl, rfl, rfl, rfl, rfl⟩, rfl, by simp [Value.oneCell'], fun h => by cases h⟩
theorem tt_3 : tt 3 = some ⟨.int .i64, 1, 8, [Value.int IntKind.i64 0], false⟩ := rfl
theorem tt4 : TIOk Tryz.prog 4 ⟨.bool, 1, 1, [Value.bool false], false⟩ := ⟨Tryz.underlying4, ⟨Tryz.t4, _, by kernel_rfl, rfl, rfl, rfl, rfl⟩, rfl, by simp [Value.oneCell'], fun h => by cases h⟩
theorem tt_4 : tt 4 = some ⟨.bool, 1, 1, [Value.bool false], false⟩ := rfl
theorem tt5 : TIOk Tryz.prog 5 ⟨.int .u8, 1, 1, [Value.int IntKind.u8 0], false⟩ := ⟨Tryz.underlying5, ⟨Tryz.t5, _, by kernel_rfl, rfl, rfl, rfl, rfl⟩, rfl, by simp [Value.oneCell'], fun h => by cases h⟩
theorem tt_5 : tt 5 = some ⟨.int .u8, 1, 1, [Value.int IntKind.u8 0], false⟩ := rfl
theorem tt9 : TIOk Tryz.prog 9 ⟨.str, 1, 16, [Value.string ⟨#[]⟩], false⟩ := ⟨Tryz.underlying9, ⟨Tryz.t9, _, by kernel_rfl, rfl, rfl, rfl, rfl⟩, rfl, by simp [Value.oneCell'], fun h => by cases h⟩
theorem tt_9 : tt 9 = some ⟨.str, 1, 16, [Value.string ⟨#[]⟩], false⟩ := rfl
theorem tt21 : TIOk Tryz.prog 21 ⟨.int .i32, 1, 4, [Value.int IntKind.i32 0], false⟩ := ⟨Tryz.underlying21, ⟨Tryz.t21, _, by kernel_rfl, rfl, rfl, rfl, rfl⟩, rfl, by simp [Value.oneCell'], fun h => by cases h⟩
theorem tt_21 : tt 21 = some ⟨.int .i32, 1, 4, [Value.int IntKind.i32 0], false⟩ := rfl
theorem tt22 : TIOk Tryz.prog 22 ⟨.slc 45, 1, 24, [Value.slice none 0 0], false⟩ := ⟨Tryz.underlying22, ⟨Tryz.t22, _, by kernel_rfl, rfl, rfl, rfl, rfl⟩, rfl, by simp [Value.oneCell'], fun h => by cases h⟩
theorem tt_22 : tt 22 = some ⟨.slc 45, 1, 24, [Value.slice none 0 0], false⟩ := rfl
theorem tt23 : TIOk Tryz.prog 23 ⟨.slc 54, 1, 24, [Value.slice none 0 0], false⟩ := ⟨Tryz.underlying23, ⟨Tryz.t23, _, by kernel_rfl, rfl, rfl, rfl, rfl⟩, rfl, by simp [Value.oneCell'], fun h => by cases h⟩
theorem tt_23 : tt 23 = some ⟨.slc 54, 1, 24, [Value.slice none 0 0], false⟩ := rfl
theorem tt25 : TIOk Tryz.prog 25 ⟨.struct [(0, 22), (1, 23)], 2, 48, [Value.slice none 0 0, Value.slice none 0 0], false⟩ := ⟨⟨_, Tryz.underlying25, rfl⟩, ⟨Tryz.t25, _, by kernel_rfl, rfl, rfl, rfl, rfl⟩, rfl, by simp [Value.oneCell'], fun h => by cases h⟩
theorem tt_25 : tt 25 = some ⟨.struct [(0, 22), (1, 23)], 2, 48, [Value.slice none 0 0, Value.slice none 0 0], false⟩ := rfl
theorem tt26 : TIOk Tryz.prog 26 ⟨.slc 42, 1, 24, [Value.slice none 0 0], false⟩ := ⟨Tryz.underlying26, ⟨Tryz.t26, _, by kernel_rfl, rfl, rfl, rfl, rfl⟩, rfl, by simp [Value.oneCell'], fun h => by cases h⟩
theorem tt_26 : tt 26 = some ⟨.slc 42, 1, 24, [Value.slice none 0 0], false⟩ := rfl
theorem tt27 : TIOk Tryz.prog 27 ⟨.slc 5, 1, 24, [Value.slice none 0 0], false⟩ := ⟨Tryz.underlying27, ⟨Tryz.t27, _, by kernel_rfl, rfl, rfl, rfl, rfl⟩, rfl, by simp [Value.oneCell'], fun h => by cases h⟩
theorem tt_27 : tt 27 = some ⟨.slc 5, 1, 24, [Value.slice none 0 0], false⟩ := rfl
theorem tt28 : TIOk Tryz.prog 28 ⟨.int .u16, 1, 2, [Value.int IntKind.u16 0], false⟩ := ⟨Tryz.underlying28, ⟨Tryz.t28, _, by kernel_rfl, rfl, rfl, rfl, rfl⟩, rfl, by simp [Value.oneCell'], fun h => by cases h⟩
theorem tt_28 : tt 28 = some ⟨.int .u16, 1, 2, [Value.int IntKind.u16 0], false⟩ := rfl
theorem tt29 : TIOk Tryz.prog 29 ⟨.slc 47, 1, 24, [Value.slice none 0 0], false⟩ := ⟨Tryz.underlying29, ⟨Tryz.t29, _, by kernel_rfl, rfl, rfl, rfl, rfl⟩, rfl, by simp [Value.oneCell'], fun h => by cases h⟩
theorem tt_29 : tt 29 = some ⟨.slc 47, 1, 24, [Value.slice none 0 0], false⟩ := rfl
theorem tt31 : TIOk Tryz.prog 31 ⟨.struct [(0, 22), (1, 29)], 2, 48, [Value.slice none 0 0, Value.slice none 0 0], false⟩ := ⟨⟨_, Tryz.underlying31, rfl⟩, ⟨Tryz.t31, _, by kernel_rfl, rfl, rfl, rfl, rfl⟩, rfl, by simp [Value.oneCell'], fun h => by cases h⟩
theorem tt_31 : tt 31 = some ⟨.struct [(0, 22), (1, 29)], 2, 48, [Value.slice none 0 0, Value.slice none 0 0], false⟩ := rfl
theorem tt42 : TIOk Tryz.prog 42 ⟨.struct [(0, 5), (1, 5), (2, 3), (3, 3), (4, 9)], 5, 40, [Value.int IntKind.u8 0, Value.int IntKind.u8 0, Value.int IntKind.i64 0, Value.int IntKind.i64 0, Value.string ⟨#[]⟩], true⟩ := ⟨⟨_, Tryz.underlying42, rfl⟩, ⟨Tryz.t42, _, by kernel_rfl, rfl, rfl, rfl, rfl⟩, rfl, by simp [Value.oneCell'], fun _ => ⟨by kernel_rfl, by kernel_rfl, fun fields hu => by rw [Tryz.underlying42] at hu; injection hu with hu; injection hu with hu; subst hu; simp⟩⟩
theorem tt_42 : tt 42 = some ⟨.struct [(0, 5), (1, 5), (2, 3), (3, 3), (4, 9)], 5, 40, [Value.int IntKind.u8 0, Value.int IntKind.u8 0, Value.int IntKind.i64 0, Value.int IntKind.i64 0, Value.string ⟨#[]⟩], true⟩ := rfl
theorem tt43 : TIOk Tryz.prog 43 ⟨.cell, 1, 8, [Value.nilFunc], false⟩ := ⟨⟨_, Tryz.underlying43, rfl⟩, ⟨Tryz.t43, _, by kernel_rfl, rfl, rfl, rfl, rfl⟩, rfl, by simp [Value.oneCell'], fun h => by cases h⟩
theorem tt_43 : tt 43 = some ⟨.cell, 1, 8, [Value.nilFunc], false⟩ := rfl
theorem tt45 : TIOk Tryz.prog 45 ⟨.struct [(0, 9), (1, 3), (2, 9), (3, 3)], 4, 48, [Value.string ⟨#[]⟩, Value.int IntKind.i64 0, Value.string ⟨#[]⟩, Value.int IntKind.i64 0], true⟩ := ⟨⟨_, Tryz.underlying45, rfl⟩, ⟨Tryz.t45, _, by kernel_rfl, rfl, rfl, rfl, rfl⟩, rfl, by simp [Value.oneCell'], fun _ => ⟨by kernel_rfl, by kernel_rfl, fun fields hu => by rw [Tryz.underlying45] at hu; injection hu with hu; injection hu with hu; subst hu; simp⟩⟩
theorem tt_45 : tt 45 = some ⟨.struct [(0, 9), (1, 3), (2, 9), (3, 3)], 4, 48, [Value.string ⟨#[]⟩, Value.int IntKind.i64 0, Value.string ⟨#[]⟩, Value.int IntKind.i64 0], true⟩ := rfl
theorem tt47 : TIOk Tryz.prog 47 ⟨.struct [(0, 9), (1, 3)], 2, 24, [Value.string ⟨#[]⟩, Value.int IntKind.i64 0], true⟩ := ⟨⟨_, Tryz.underlying47, rfl⟩, ⟨Tryz.t47, _, by kernel_rfl, rfl, rfl, rfl, rfl⟩, rfl, by simp [Value.oneCell'], fun _ => ⟨by kernel_rfl, by kernel_rfl, fun fields hu => by rw [Tryz.underlying47] at hu; injection hu with hu; injection hu with hu; subst hu; simp⟩⟩
theorem tt_47 : tt 47 = some ⟨.struct [(0, 9), (1, 3)], 2, 24, [Value.string ⟨#[]⟩, Value.int IntKind.i64 0], true⟩ := rfl
theorem tt48 : TIOk Tryz.prog 48 ⟨.int .i64, 1, 8, [Value.int IntKind.i64 0], false⟩ := ⟨Tryz.underlying48, ⟨Tryz.t48, _, by kernel_rfl, rfl, rfl, rfl, rfl⟩, rfl, by simp [Value.oneCell'], fun h => by cases h⟩
theorem tt_48 : tt 48 = some ⟨.int .i64, 1, 8, [Value.int IntKind.i64 0], false⟩ := rfl
theorem tt54 : TIOk Tryz.prog 54 ⟨.struct [(0, 9), (1, 3)], 2, 24, [Value.string ⟨#[]⟩, Value.int IntKind.i64 0], true⟩ := ⟨⟨_, Tryz.underlying54, rfl⟩, ⟨Tryz.t54, _, by kernel_rfl, rfl, rfl, rfl, rfl⟩, rfl, by simp [Value.oneCell'], fun _ => ⟨by kernel_rfl, by kernel_rfl, fun fields hu => by rw [Tryz.underlying54] at hu; injection hu with hu; injection hu with hu; subst hu; simp⟩⟩
theorem tt_54 : tt 54 = some ⟨.struct [(0, 9), (1, 3)], 2, 24, [Value.string ⟨#[]⟩, Value.int IntKind.i64 0], true⟩ := rfl
theorem tt64 : TIOk Tryz.prog 64 ⟨.arr 3 9, 3, 48, [Value.string ⟨#[]⟩, Value.string ⟨#[]⟩, Value.string ⟨#[]⟩], false⟩ := ⟨Tryz.underlying64, ⟨Tryz.t64, _, by kernel_rfl, rfl, rfl, rfl, rfl⟩, rfl, by simp [Value.oneCell'], fun h => by cases h⟩
theorem tt_64 : tt 64 = some ⟨.arr 3 9, 3, 48, [Value.string ⟨#[]⟩, Value.string ⟨#[]⟩, Value.string ⟨#[]⟩], false⟩ := rfl
theorem tt75 : TIOk Tryz.prog 75 ⟨.int .u64, 1, 8, [Value.int IntKind.u64 0], false⟩ := ⟨Tryz.underlying75, ⟨Tryz.t75, _, by kernel_rfl, rfl, rfl, rfl, rfl⟩, rfl, by simp [Value.oneCell'], fun h => by cases h⟩
theorem tt_75 : tt 75 = some ⟨.int .u64, 1, 8, [Value.int IntKind.u64 0], false⟩ := rfl
theorem tt83 : TIOk Tryz.prog 83 ⟨.slc 3, 1, 24, [Value.slice none 0 0], false⟩ := ⟨Tryz.underlying83, ⟨Tryz.t83, _, by kernel_rfl, rfl, rfl, rfl, rfl⟩, rfl, by simp [Value.oneCell'], fun h => by cases h⟩
theorem tt_83 : tt 83 = some ⟨.slc 3, 1, 24, [Value.slice none 0 0], false⟩ := rfl
theorem tt87 : TIOk Tryz.prog 87 ⟨.cell, 1, 8, [Value.nilFunc], false⟩ := ⟨⟨_, Tryz.underlying87, rfl⟩, ⟨Tryz.t87, _, by kernel_rfl, rfl, rfl, rfl, rfl⟩, rfl, by simp [Value.oneCell'], fun h => by cases h⟩
theorem tt_87 : tt 87 = some ⟨.cell, 1, 8, [Value.nilFunc], false⟩ := rfl
theorem tt89 : TIOk Tryz.prog 89 ⟨.cell, 1, 8, [Value.nilFunc], false⟩ := ⟨⟨_, Tryz.underlying89, rfl⟩, ⟨Tryz.t89, _, by kernel_rfl, rfl, rfl, rfl, rfl⟩, rfl, by simp [Value.oneCell'], fun h => by cases h⟩
theorem tt_89 : tt 89 = some ⟨.cell, 1, 8, [Value.nilFunc], false⟩ := rfl
theorem tt90 : TIOk Tryz.prog 90 ⟨.cell, 1, 8, [Value.pointer none], false⟩ := ⟨⟨_, Tryz.underlying90, rfl⟩, ⟨Tryz.t90, _, by kernel_rfl, rfl, rfl, rfl, rfl⟩, rfl, by simp [Value.oneCell'], fun h => by cases h⟩
theorem tt_90 : tt 90 = some ⟨.cell, 1, 8, [Value.pointer none], false⟩ := rfl
theorem tt92 : TIOk Tryz.prog 92 ⟨.struct [(0, 27), (1, 4)], 2, 32, [Value.slice none 0 0, Value.bool false], false⟩ := ⟨⟨_, Tryz.underlying92, rfl⟩, ⟨Tryz.t92, _, by kernel_rfl, rfl, rfl, rfl, rfl⟩, rfl, by simp [Value.oneCell'], fun h => by cases h⟩
theorem tt_92 : tt 92 = some ⟨.struct [(0, 27), (1, 4)], 2, 32, [Value.slice none 0 0, Value.bool false], false⟩ := rfl
theorem tt95 : TIOk Tryz.prog 95 ⟨.cell, 1, 8, [Value.nilFunc], false⟩ := ⟨⟨_, Tryz.underlying95, rfl⟩, ⟨Tryz.t95, _, by kernel_rfl, rfl, rfl, rfl, rfl⟩, rfl, by simp [Value.oneCell'], fun h => by cases h⟩
theorem tt_95 : tt 95 = some ⟨.cell, 1, 8, [Value.nilFunc], false⟩ := rfl
theorem tt98 : TIOk Tryz.prog 98 ⟨.cell, 1, 8, [Value.nilFunc], false⟩ := ⟨⟨_, Tryz.underlying98, rfl⟩, ⟨Tryz.t98, _, by kernel_rfl, rfl, rfl, rfl, rfl⟩, rfl, by simp [Value.oneCell'], fun h => by cases h⟩
theorem tt_98 : tt 98 = some ⟨.cell, 1, 8, [Value.nilFunc], false⟩ := rfl
theorem tt101 : TIOk Tryz.prog 101 ⟨.cell, 1, 8, [Value.nilFunc], false⟩ := ⟨⟨_, Tryz.underlying101, rfl⟩, ⟨Tryz.t101, _, by kernel_rfl, rfl, rfl, rfl, rfl⟩, rfl, by simp [Value.oneCell'], fun h => by cases h⟩
theorem tt_101 : tt 101 = some ⟨.cell, 1, 8, [Value.nilFunc], false⟩ := rfl
theorem tt108 : TIOk Tryz.prog 108 ⟨.arr 6 9, 6, 96, [Value.string ⟨#[]⟩, Value.string ⟨#[]⟩, Value.string ⟨#[]⟩, Value.string ⟨#[]⟩, Value.string ⟨#[]⟩, Value.string ⟨#[]⟩], false⟩ := ⟨Tryz.underlying108, ⟨Tryz.t108, _, by kernel_rfl, rfl, rfl, rfl, rfl⟩, rfl, by simp [Value.oneCell'], fun h => by cases h⟩
theorem tt_108 : tt 108 = some ⟨.arr 6 9, 6, 96, [Value.string ⟨#[]⟩, Value.string ⟨#[]⟩, Value.string ⟨#[]⟩, Value.string ⟨#[]⟩, Value.string ⟨#[]⟩, Value.string ⟨#[]⟩], false⟩ := rfl
theorem tt111 : TIOk Tryz.prog 111 ⟨.slc 9, 1, 24, [Value.slice none 0 0], false⟩ := ⟨Tryz.underlying111, ⟨Tryz.t111, _, by kernel_rfl, rfl, rfl, rfl, rfl⟩, rfl, by simp [Value.oneCell'], fun h => by cases h⟩
theorem tt_111 : tt 111 = some ⟨.slc 9, 1, 24, [Value.slice none 0 0], false⟩ := rfl
theorem tt113 : TIOk Tryz.prog 113 ⟨.cell, 1, 8, [Value.nilFunc], false⟩ := ⟨⟨_, Tryz.underlying113, rfl⟩, ⟨Tryz.t113, _, by kernel_rfl, rfl, rfl, rfl, rfl⟩, rfl, by simp [Value.oneCell'], fun h => by cases h⟩
theorem tt_113 : tt 113 = some ⟨.cell, 1, 8, [Value.nilFunc], false⟩ := rfl
theorem tt118 : TIOk Tryz.prog 118 ⟨.cell, 1, 8, [Value.nilFunc], false⟩ := ⟨⟨_, Tryz.underlying118, rfl⟩, ⟨Tryz.t118, _, by kernel_rfl, rfl, rfl, rfl, rfl⟩, rfl, by simp [Value.oneCell'], fun h => by cases h⟩
theorem tt_118 : tt 118 = some ⟨.cell, 1, 8, [Value.nilFunc], false⟩ := rfl
theorem tt_ok : TTOk Tryz.prog tt := by
  intro t ti h
  unfold tt at h
  split at h
  · injection h with h; subst h; exact tt3
  · injection h with h; subst h; exact tt4
  · injection h with h; subst h; exact tt5
  · injection h with h; subst h; exact tt9
  · injection h with h; subst h; exact tt21
  · injection h with h; subst h; exact tt22
  · injection h with h; subst h; exact tt23
  · injection h with h; subst h; exact tt25
  · injection h with h; subst h; exact tt26
  · injection h with h; subst h; exact tt27
  · injection h with h; subst h; exact tt28
  · injection h with h; subst h; exact tt29
  · injection h with h; subst h; exact tt31
  · injection h with h; subst h; exact tt42
  · injection h with h; subst h; exact tt43
  · injection h with h; subst h; exact tt45
  · injection h with h; subst h; exact tt47
  · injection h with h; subst h; exact tt48
  · injection h with h; subst h; exact tt54
  · injection h with h; subst h; exact tt64
  · injection h with h; subst h; exact tt75
  · injection h with h; subst h; exact tt83
  · injection h with h; subst h; exact tt87
  · injection h with h; subst h; exact tt89
  · injection h with h; subst h; exact tt90
  · injection h with h; subst h; exact tt92
  · injection h with h; subst h; exact tt95
  · injection h with h; subst h; exact tt98
  · injection h with h; subst h; exact tt101
  · injection h with h; subst h; exact tt108
  · injection h with h; subst h; exact tt111
  · injection h with h; subst h; exact tt113
  · injection h with h; subst h; exact tt118
  · cases h
theorem tts : (type_of% tt_3) ∧ (type_of% tt_4) ∧ (type_of% tt_5) ∧ (type_of% tt_9) ∧ (type_of% tt_21) ∧ (type_of% tt_22) ∧ (type_of% tt_23) ∧ (type_of% tt_25) ∧ (type_of% tt_26) ∧ (type_of% tt_27) ∧ (type_of% tt_28) ∧ (type_of% tt_29) ∧ (type_of% tt_31) ∧ (type_of% tt_42) ∧ (type_of% tt_43) ∧ (type_of% tt_45) ∧ (type_of% tt_47) ∧ (type_of% tt_48) ∧ (type_of% tt_54) ∧ (type_of% tt_64) ∧ (type_of% tt_75) ∧ (type_of% tt_83) ∧ (type_of% tt_87) ∧ (type_of% tt_89) ∧ (type_of% tt_90) ∧ (type_of% tt_92) ∧ (type_of% tt_95) ∧ (type_of% tt_98) ∧ (type_of% tt_101) ∧ (type_of% tt_108) ∧ (type_of% tt_111) ∧ (type_of% tt_113) ∧ (type_of% tt_118) :=
  ⟨tt_3, tt_4, tt_5, tt_9, tt_21, tt_22, tt_23, tt_25, tt_26, tt_27, tt_28, tt_29, tt_31, tt_42, tt_43, tt_45, tt_47, tt_48, tt_54, tt_64, tt_75, tt_83, tt_87, tt_89, tt_90, tt_92, tt_95, tt_98, tt_101, tt_108, tt_111, tt_113, tt_118⟩
attribute [go_sem] tts
end Go.Proofs.YtldkmclfhjcicaaGreatDoor
