/- The closure that writes one digit of a field: its three ways, step by step. -/
import Derived.Test.YtmmhokcdchhciaaProg
import Derived.Test.YtmmhokcdchhciaaFrame
namespace Go.Proofs.Ytmmhokcdchhciaa
open Go.RowKit
set_option linter.unusedVariables false

section
variable (w : World) (Ba Bo g n : Nat) (a x d : Int)

theorem put_none (h0 : a < 0) (ca : w.cell? ⟨Ba, 0, none⟩ = some (.int .i64 a)) :
    Calls Try.prog 47 #[.int .u8 d, .pointer (some ⟨Ba, 0, none⟩), .pointer (some ⟨Bo, 0, none⟩)] w fun e w' => e = .returned (.tuple #[]) ∧ w' = w := by
  go_enter Try.func47, Try.ntmps47
  go_wp2
  exact bodyPost_ret (v := .tuple #[]) (results_none rfl _ _ _) rfl ⟨rfl, rfl⟩

theorem put_odd (h0 : 0 ≤ a) (h1 : a ≤ 1000) (hodd : (a % 2 == 1) = true) (hi : 0 ≤ a / 2 ∧ a / 2 < n) (hx : 0 ≤ x ∧ x < 256) (hd : 0 ≤ d ∧ d < 256)
    (ca : w.cell? ⟨Ba, 0, none⟩ = some (.int .i64 a)) (fa : w.frozen? ⟨Ba, 0, none⟩ = false) (co : w.cell? ⟨Bo, 0, none⟩ = some (.slice (some ⟨g, 0, none⟩) n n))
    (cx : w.cell? ⟨g, (a / 2).toNat, none⟩ = some (.int .u8 x)) (fx : w.frozen? ⟨g, (a / 2).toNat, none⟩ = false) (hne : g ≠ Ba) :
    Calls Try.prog 47 #[.int .u8 d, .pointer (some ⟨Ba, 0, none⟩), .pointer (some ⟨Bo, 0, none⟩)] w fun e w' => e = .returned (.tuple #[]) ∧
      w' = (w.setCell ⟨g, (a / 2).toNat, none⟩ (.int .u8 (bits .or .u8 x d))).setCell ⟨Ba, 0, none⟩ (.int .i64 (a - 1)) := by
  go_enter Try.func47, Try.ntmps47
  go_wp2
  go_end0
  exact ⟨rfl, rfl⟩

theorem put_even (h0 : 0 ≤ a) (h1 : a ≤ 1000) (heven : (a % 2 == 1) = false) (hi : 0 ≤ a / 2 ∧ a / 2 < n) (hx : 0 ≤ x ∧ x < 256) (hd : 0 ≤ d ∧ d < 16)
    (ca : w.cell? ⟨Ba, 0, none⟩ = some (.int .i64 a)) (fa : w.frozen? ⟨Ba, 0, none⟩ = false) (co : w.cell? ⟨Bo, 0, none⟩ = some (.slice (some ⟨g, 0, none⟩) n n))
    (cx : w.cell? ⟨g, (a / 2).toNat, none⟩ = some (.int .u8 x)) (fx : w.frozen? ⟨g, (a / 2).toNat, none⟩ = false) (hne : g ≠ Ba) :
    Calls Try.prog 47 #[.int .u8 d, .pointer (some ⟨Ba, 0, none⟩), .pointer (some ⟨Bo, 0, none⟩)] w fun e w' => e = .returned (.tuple #[]) ∧
      w' = (w.setCell ⟨g, (a / 2).toNat, none⟩ (.int .u8 (bits .or .u8 x (d * 16)))).setCell ⟨Ba, 0, none⟩ (.int .i64 (a - 1)) := by
  go_enter Try.func47, Try.ntmps47
  go_wp2
  go_end0
  exact ⟨rfl, rfl⟩

end
end Go.Proofs.Ytmmhokcdchhciaa
