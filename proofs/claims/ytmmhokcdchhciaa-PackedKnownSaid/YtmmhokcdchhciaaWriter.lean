/- writer, Pack and Encode of layer 3. -/
import Derived.Test.YtmmhokcdchhciaaPut
import Derived.Test.YtmmhokcdchhciaaValid
namespace Go.Proofs.Ytmmhokcdchhciaa
open Go.RowKit
set_option linter.unusedVariables false

theorem info_u8 : (Try.prog.info? 5).map (fun i => (i.zero, i.size, i.bytes)) = some (some (.int .u8 0), 1, 1) := by kernel_rfl
theorem info_int : (Try.prog.info? 3).map (fun i => (i.zero, i.size, i.bytes)) = some (some (.int .i64 0), 1, 8) := by kernel_rfl

theorem fld_zero (n : Nat) : fld n [] = List.replicate n 0 := by
  refine List.ext_getElem (by simp [fld_length]) fun i h1 h2 => ?_
  rw [fld_get]; simp

/-- what writer hands back -/
def wval (w : World) (n : Nat) : Value := .tuple #[.slice (some ⟨w.heap.size, 0, none⟩) n n, .func (.func 47) #[] #[.pointer (some ⟨w.heap.size + 1 + 1, 0, none⟩), .pointer (some ⟨w.heap.size + 1, 0, none⟩)]]

theorem writer_any (n : Nat) (hn : n ≤ 1000) (w : World) : Calls Try.prog 42 #[.int .i64 (n : Int)] w fun e w' => e = .returned (wval w n) ∧
    Wr w' (w.heap.size + 1 + 1) (w.heap.size + 1) w.heap.size n [] ∧ Chg [] w w' ∧ w'.heap.size = w.heap.size + 3 := by
  have hmk := mk_bytes (P := Try.prog) 22 5 Try.underlying22 info_u8 n (by omega)
  go_enter Try.func42, Try.ntmps42
  go_wp2
  go_returns
  refine ⟨rfl, ⟨?_, ?_, ?_⟩, ((Chg.alloc _ _ _).trans (Chg.alloc _ _ _)).trans (Chg.alloc _ _ _), by simp⟩
  · exact (al_new (by simp)).trans (by rw [show atOf n [] = 2 * (n : Int) - 1 from by unfold atOf; simp])
  · exact al_old (al_new (by simp))
  · exact (al_old (al_old (al_new rfl))).trans (by rw [fld_zero, ← zrow_eq])

end Go.Proofs.Ytmmhokcdchhciaa
