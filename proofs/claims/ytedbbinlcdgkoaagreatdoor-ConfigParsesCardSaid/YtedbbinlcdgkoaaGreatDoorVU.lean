import Derived.Test.YtedbbinlcdgkoaaGreatDoorVT
/- The value machine: a slice that was written, from here on only read. No program in sight. -/
namespace Go.Proofs.YtedbbinlcdgkoaaGreatDoor
open Go.RowKit
set_option linter.unusedVariables false
set_option linter.unusedSimpArgs false
def flatV : V → Bool
  | .int _ _ | .bool _ | .str _ | .nil => true
  | _ => false
section
variable {P : Program} {ops : Array Oper} {Q Q' : Exit → Act → World → Prop}
end
theorem lk_keep2 (s : St) : ∀ (ks : List Nat) (i : Nat), lk (keepT s ks) i = .any ∨ (i ∈ ks ∧ lk (keepT s ks) i = s.t i)
  | [], _ => .inl rfl
  | k :: ks, i => by
    unfold keepT lk
    by_cases e : i = k
    · subst e; rw [if_pos rfl]; exact .inr ⟨List.mem_cons_self, rfl⟩
    · rw [if_neg e]
      rcases lk_keep2 s ks i with h | ⟨h1, h2⟩
      · exact .inl h
      · exact .inr ⟨List.mem_cons_of_mem _ h1, h2⟩
section
variable {P : Program} {ops : Array Oper} {Q : Exit → Act → World → Prop}
end
end Go.Proofs.YtedbbinlcdgkoaaGreatDoor
