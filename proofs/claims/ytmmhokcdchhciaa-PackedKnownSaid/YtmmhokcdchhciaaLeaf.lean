/- The small functions of layer 3 and of its reference and statements. -/
import Derived.Test.YtmmhokcdchhciaaProg
import Derived.Test.YtmmhokcdchhciaaFrame
import Derived.Test.YtmmhokcdchhciaaSpecA
namespace Go.Proofs.Ytmmhokcdchhciaa
open Go.RowKit
set_option linter.unusedVariables false

theorem inField_any (n : Int) (w : World) : Calls Try.prog 41 #[.int .i64 n] w fun e w' => e = .returned (.bool (okSize n)) ∧ w = w' := by
  have H := hid (show okSize n = (decide (1 ≤ n) && decide (n ≤ 16)) from rfl)
  by_cases h1 : 1 ≤ n <;> by_cases h2 : n ≤ 16 <;>
  · go_enter Try.func41, Try.ntmps41
    go_wp2
    go_returns
    exact ⟨by rw [H.out]; simp [*], rfl⟩

theorem rsize_any (n : Int) (w : World) : Calls Try.prog 32 #[.int .i64 n] w fun e w' => e = .returned (.bool (okSize n)) ∧ w = w' := by
  have H := hid (show okSize n = (decide (1 ≤ n) && decide (n ≤ 16)) from rfl)
  by_cases h1 : 1 ≤ n <;> by_cases h2 : n ≤ 16 <;>
  · go_enter Try.func32, Try.ntmps32
    go_wp2
    go_returns
    exact ⟨by rw [H.out]; simp [*], rfl⟩

theorem signOf_any (b : Bool) (w : World) : Calls Try.prog 45 #[.bool b] w fun e w' => e = .returned (.int .u8 (sgn b : Nat)) ∧ w = w' := by
  cases b <;>
  · go_enter Try.func45, Try.ntmps45
    go_wp2
    go_returns
    exact ⟨rfl, rfl⟩

theorem rsign_any (b : Bool) (s : ByteArray) (w : World) : Calls Try.prog 35 #[.agg #[.bool b, .string s]] w fun e w' => e = .returned (.int .i64 (sgn b : Nat)) ∧ Chg [] w w' := by
  cases b <;>
  · go_enter Try.func35, Try.ntmps35
    go_wp2
    go_returns
    exact ⟨rfl, Chg.alloc _ _ _⟩

theorem dec_any (b : Bool) (s : ByteArray) (w : World) : Calls Try.prog 28 #[.bool b, .string s] w fun e w' => e = .returned (.agg #[.bool b, .string s]) ∧ Chg [] w w' := by
  go_enter Try.func28, Try.ntmps28
  go_wp2
  go_returns
  exact ⟨rfl, Chg.alloc _ _ _⟩

theorem Same_any (w : World) (v u : Value) (xs ys : Bs) (h : Reads w v xs) (k : Reads w u ys) : Calls Try.prog 17 #[v, u] w fun e w' => e = .returned (.bool (xs == ys)) ∧ w = w' := by
  have c1 := h.str (P := Try.prog) 22 9 5 Try.underlying22 Try.underlying5 Try.underlying9
  have c2 := k.str (P := Try.prog) 22 9 5 Try.underlying22 Try.underlying5 Try.underlying9
  go_enter Try.func17, Try.ntmps17
  go_wp2
  go_returns
  exact ⟨by simp, rfl⟩

theorem same_any (w : World) (v u : Value) (xs ys : Bs) (h : Reads w v xs) (k : Reads w u ys) : Calls Try.prog 26 #[v, u] w fun e w' => e = .returned (.bool (xs == ys)) ∧ w = w' := by
  have c1 := h.str (P := Try.prog) 22 9 5 Try.underlying22 Try.underlying5 Try.underlying9
  have c2 := k.str (P := Try.prog) 22 9 5 Try.underlying22 Try.underlying5 Try.underlying9
  go_enter Try.func26, Try.ntmps26
  go_wp2
  go_returns
  exact ⟨by simp, rfl⟩

end Go.Proofs.Ytmmhokcdchhciaa
