import Derived.LoopN
import Derived.Laws.Bits64b
import Derived.Lib.Builder
import Derived.Outline
import Derived.WalkMore
import Derived.WalkKit
import Derived.Test.YtedbbinlcdgkoaaGreatDoorProg
import Derived.Test.YtedbbinlcdgkoaaGreatDoorFr
/- strconv.FormatInt in base 16, of numbers from 4096 to 5119. -/
namespace Go.Proofs.YtedbbinlcdgkoaaGreatDoor
open Go.RowKit Go.Lib
-- FUSE
-- LESS
set_option linter.unusedVariables false
set_option linter.unusedSimpArgs false
def lowS : List UInt8 := [48, 49, 50, 51, 52, 53, 54, 55, 56, 57, 97, 98, 99, 100, 101, 102]
def lowD (n : Nat) : UInt8 := lowS.getD n 0
def low3 (n : Nat) : List UInt8 := [lowD (n / 256), lowD (n / 16 % 16), lowD (n % 16)]
set_option maxHeartbeats 4000000 in
set_option maxRecDepth 100000 in
theorem isPow_16 (w : World) : Calls Tryz.prog 113 #[.int .i64 16] w fun e w' => e = .returned (.bool true) ∧ w' = w := by
  go_enter Tryz.func113, Tryz.ntmps113
  go_wp2
  go_ret
  exact ⟨rfl, rfl⟩
set_option maxHeartbeats 4000000 in
set_option maxRecDepth 100000 in
theorem tz64_16 (w : World) (hd : w.cell? ⟨6, 15, none⟩ = some (.int .u8 4)) : Calls Tryz.prog 129 #[.int .u64 16] w fun e w' => e = .returned (.int .i64 4) ∧ w' = w := by
  go_enter Tryz.func129, Tryz.ntmps129
  have key : IntKind.u64.wrap (bits .and .u64 16 (IntKind.u64.wrap (-16)) * 285870213051353865) / 288230376151711744 = 15 := by decide
  go_wp2_with (simp only [key])
  go_ret
  exact ⟨rfl, rfl⟩
set_option maxHeartbeats 4000000 in
set_option maxRecDepth 100000 in
theorem tz_16 (w : World) (hd : w.cell? ⟨6, 15, none⟩ = some (.int .u8 4)) : Calls Tryz.prog 114 #[.int .u64 16] w fun e w' => e = .returned (.int .i64 4) ∧ w' = w := by
  go_enter Tryz.func114, Tryz.ntmps114
  go_wp2_with (go_at_call 129; refine (tz64_16 _ hd).mono ?_; rintro e w1 ⟨rfl, rfl⟩)
  go_ret
  exact ⟨rfl, rfl⟩
set_option maxHeartbeats 4000000 in
set_option maxRecDepth 100000 in
theorem formatBits_any (n : Nat) (hn : n < 1024) (w : World) (hd : w.cell? ⟨6, 15, none⟩ = some (.int .u8 4)) : Calls Tryz.prog 89 #[.slice none 0 0, .int .u64 ((4096 + n : Nat) : Int), .int .i64 16, .bool false, .bool false] w fun e w' =>
    e = .returned (.tuple #[.slice none 0 0, .string ⟨(49 :: low3 n).toArray⟩]) ∧ Below w.heap.size w w' := by
  have h1 : decide ((16 : Int) ≤ 4096 + (n : Int)) = true := decide_eq_true (by omega)
  have k1 : bits .and .u64 (4096 + (n : Int)) 15 = ((n % 16 : Nat) : Int) := by
    have := bits_and_u64_nat (4096 + n) 15 (by omega) (by omega)
    rw [show (4096 + (n : Int)) = ((4096 + n : Nat) : Int) by omega, show (15 : Int) = ((15 : Nat) : Int) from rfl, this, show (15 : Nat) = 2 ^ 4 - 1 from rfl, Nat.and_two_pow_sub_one_eq_mod]
    omega
  have h2 : decide ((16 : Int) ≤ (4096 + (n : Int)) / 16) = true := decide_eq_true (by omega)
  have h3 : decide ((16 : Int) ≤ (4096 + (n : Int)) / 16 / 16) = true := decide_eq_true (by omega)
  have h4 : (4096 + (n : Int)) / 16 / 16 / 16 = 1 := by omega
  have k2 : bits .and .u64 ((4096 + (n : Int)) / 16) 15 = ((n / 16 % 16 : Nat) : Int) := by
    have := bits_and_u64_nat ((4096 + n) / 16) 15 (by omega) (by omega)
    rw [show (4096 + (n : Int)) / 16 = (((4096 + n) / 16 : Nat) : Int) by omega, show (15 : Int) = ((15 : Nat) : Int) from rfl, this, show (15 : Nat) = 2 ^ 4 - 1 from rfl, Nat.and_two_pow_sub_one_eq_mod]
    omega
  have k3 : bits .and .u64 ((4096 + (n : Int)) / 16 / 16) 15 = ((n / 256 : Nat) : Int) := by
    have := bits_and_u64_nat ((4096 + n) / 16 / 16) 15 (by omega) (by omega)
    rw [show (4096 + (n : Int)) / 16 / 16 = (((4096 + n) / 16 / 16 : Nat) : Int) by omega, show (15 : Int) = ((15 : Nat) : Int) from rfl, this, show (15 : Nat) = 2 ^ 4 - 1 from rfl, Nat.and_two_pow_sub_one_eq_mod]
    omega
  go_enter Tryz.func89, Tryz.ntmps89
  go_wp2_with (fail)
  go_at_call 113
  refine (isPow_16 _).mono ?_
  rintro e w1 ⟨rfl, rfl⟩
  go_wp2_with (fail)
  go_at_call 114
  have hd2 : (w.alloc (Obj.cells Tryz.zeroCells154 154)).cell? ⟨6, 15, none⟩ = some (.int .u8 4) := by
    have hlt := World.block_lt_of_cell? w _ hd
    exact (World.cell?_of_block (a := ⟨6, 15, none⟩) (Lib.alloc_old w (Obj.cells Tryz.zeroCells154 154) _ hlt)).trans hd
  refine (tz_16 _ hd2).mono ?_
  rintro e w1 ⟨rfl, rfl⟩
  go_wp2_with (fail)
  refine wp_loop_rounds 4 ?_
  rw [rounds_succ]
  go_wp2_with (fail)
  rw [rounds_succ]
  go_wp2_with (fail)
  rw [rounds_succ]
  go_wp2_with (fail)
  rw [rounds_succ]
  go_wp2_with (fail)
  have g : ∀ k (h : k < 36), k < 16 → (({ data := #[48, 49, 50, 51, 52, 53, 54, 55, 56, 57, 97, 98, 99, 100, 101, 102, 103, 104, 105, 106, 107, 108, 109, 110, 111, 112, 113, 114, 115, 116, 117, 118, 119, 120, 121, 122] } : ByteArray)[k]'h) = lowD k := by decide
  rw [g (n % 16) (by omega) (by omega), g (n / 16 % 16) (by omega) (by omega), g (n / 256) (by omega) (by omega), g 1 (by omega) (by omega)]
  generalize hX : lowD (n % 16) = x0
  generalize hY : lowD (n / 16 % 16) = x1
  generalize hZ : lowD (n / 256) = x2
  have hz : ∃ A : Array Value, A.size = 65 ∧ Tryz.zeroCells154 = A := ⟨_, by kernel_rfl, rfl⟩
  obtain ⟨A, hA, hA2⟩ := hz
  rw [hA2]
  have hcv : (convert 26 9 (.slice (some ⟨w.heap.size, 61, none⟩) 4 4)).run Tryz.prog (w.alloc (.cells ((((A.setIfInBounds 64 (Value.int .u8 (x0.toNat : Int))).setIfInBounds 63 (Value.int .u8 (x1.toNat : Int))).setIfInBounds 62 (Value.int .u8 (x2.toNat : Int))).setIfInBounds 61 (Value.int .u8 ((lowD 1).toNat : Int))) 154)) = .ok (.string ⟨[lowD 1, x2, x1, x0].toArray⟩) (w.alloc (.cells ((((A.setIfInBounds 64 (Value.int .u8 (x0.toNat : Int))).setIfInBounds 63 (Value.int .u8 (x1.toNat : Int))).setIfInBounds 62 (Value.int .u8 (x2.toNat : Int))).setIfInBounds 61 (Value.int .u8 ((lowD 1).toNat : Int))) 154)) :=
    run_convert_bytes_back _ 26 9 5 ⟨w.heap.size, 61, none⟩ 4 [lowD 1, x2, x1, x0] Tryz.underlying26 Tryz.underlying5 Tryz.underlying9 (fun j hj => by
      rw [show (⟨w.heap.size, 61, none⟩ : Addr).add j = ⟨w.heap.size, 61 + j, none⟩ by simp [Addr.add]]
      rw [World.cell?_alloc_mark]
      have : j = 0 ∨ j = 1 ∨ j = 2 ∨ j = 3 := by simp only [List.length_cons, List.length_nil] at hj; omega
      rcases this with rfl | rfl | rfl | rfl <;> simp [Array.getElem?_setIfInBounds, hA])
  rw [hcv]
  simp only [Result.andThen]
  rw [Oper.upon_value]
  go_wp2
  go_returns
  refine ⟨by unfold low3; rw [hX, hY, hZ]; rfl, ?_⟩
  exact (Below.refl w.heap.size w).alloc (Nat.le_refl _) _
set_option maxHeartbeats 4000000 in
set_option maxRecDepth 100000 in
theorem FormatI_in (n : Nat) (hn : n < 1024) (w : World) (hd : w.cell? ⟨6, 15, none⟩ = some (.int .u8 4)) : Calls Tryz.prog 65 #[.int .i64 (4096 + (n : Int)), .int .i64 16] w fun e w' =>
    e = .returned (.string ⟨(49 :: low3 n).toArray⟩) ∧ Below w.heap.size w w' := by
  have h1 : IntKind.u64.wrap (4096 + (n : Int)) = ((4096 + n : Nat) : Int) := by rw [IntKind.wrap_u64]; omega
  have h2 : decide (4096 + (n : Int) < 0) = false := decide_eq_false (by omega)
  go_enter Tryz.func65, Tryz.ntmps65
  go_wp2_with (go_at_call 89; refine (formatBits_any n hn w hd).mono ?_; rintro e w1 ⟨rfl, hb⟩)
  go_ret
  exact ⟨rfl, hb⟩
set_option maxHeartbeats 4000000 in
set_option maxRecDepth 100000 in
theorem FormatI_any (n : Nat) (hn : n < 1024) (w : World) (hd : w.cell? ⟨6, 15, none⟩ = some (.int .u8 4)) : Calls Tryz.prog 39 #[.int .i64 (4096 + (n : Int)), .int .i64 16] w fun e w' =>
    e = .returned (.string ⟨(49 :: low3 n).toArray⟩) ∧ Below w.heap.size w w' := by
  go_enter Tryz.func39, Tryz.ntmps39
  go_wp2_with (go_at_call 65; refine (FormatI_in n hn w hd).mono ?_; rintro e w1 ⟨rfl, hb⟩)
  go_ret
  exact ⟨rfl, hb⟩
end Go.Proofs.YtedbbinlcdgkoaaGreatDoor
