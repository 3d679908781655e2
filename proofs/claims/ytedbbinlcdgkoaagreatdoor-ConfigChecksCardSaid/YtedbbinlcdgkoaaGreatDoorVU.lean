import Derived.Test.YtedbbinlcdgkoaaGreatDoorVT
/- The value machine: a slice that was written, from here on only read. No program in sight. -/
namespace Go.Proofs.YtedbbinlcdgkoaaGreatDoor
open Go.RowKit
set_option linter.unusedVariables false
set_option linter.unusedSimpArgs false
def flatV : V → Bool
  | .int _ _ | .bool _ | .str _ | .nil => true
  | _ => false
theorem flat_rep {S S' : Sit} : ∀ {x : V} {v : Value}, flatV x = true → Rep S x v → Rep S' x v
  | .int _ _, _, _, h => h
  | .bool _, _, _, h => h
  | .str _, _, _, h => h
  | .nil, _, _, h => h
theorem flat_repL {S S' : Sit} : ∀ {l : List V} {vs : List Value}, (∀ x ∈ l, flatV x = true) → RepL S l vs → RepL S' l vs
  | [], _, _, h => h
  | x :: xs, vs, hf, h => by
    obtain ⟨u, us, h1, h2, h3⟩ := h
    exact ⟨u, us, h1, flat_rep (hf x List.mem_cons_self) h2, flat_repL (fun y hy => hf y (List.mem_cons_of_mem _ hy)) h3⟩
section
variable {P : Program} {ops : Array Oper} {Q Q' : Exit → Act → World → Prop}
end
theorem lk_keep2 (s : St) : ∀ (ks : List Nat) (i : Nat), lk (keepT s ks) i = .any ∨ (i ∈ ks ∧ lk (keepT s ks) i = s.t i)
  | [], _ => .inl rfl
  | k :: ks, i => by
    unfold keepT lk
    by_cases e : i = k
    · subst e; rw [if_pos rfl]; exact .inr ⟨List.mem_cons_self, rfl⟩
    · rw [if_neg e]
      rcases lk_keep2 s ks i with h | ⟨h1, h2⟩
      · exact .inl h
      · exact .inr ⟨List.mem_cons_of_mem _ h1, h2⟩
section
variable {P : Program} {ops : Array Oper} {Q : Exit → Act → World → Prop}
end
end Go.Proofs.YtedbbinlcdgkoaaGreatDoor
