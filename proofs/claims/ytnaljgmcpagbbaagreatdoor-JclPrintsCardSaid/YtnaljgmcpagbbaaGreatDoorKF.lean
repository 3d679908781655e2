import Derived.Outline
import Derived.Test.YtnaljgmcpagbbaaGreatDoorKE
import Derived.Test.YtnaljgmcpagbbaaGreatDoorJE
/- Layer 34 in plain Lean: how large what is read can be. -/
namespace Go.Proofs.YtnaljgmcpagbbaaGreatDoor
open Go.RowKit
set_option linter.unusedVariables false
set_option linter.unusedSimpArgs false
structure ReadS (a n z : Nat) (s : StmJ) : Prop where
  l0 : (a : Int) < s.line
  l1 : s.line ≤ (n : Int)
  dl : s.data.length ≤ n
  pl : s.params.length ≤ z + 1
  pp : ∀ p ∈ s.params, p.parts.length ≤ z + 1
theorem size_le (l : List Jb) (m : Nat) (h : ∀ x ∈ l, x.length ≤ m) : sizeJ l ≤ l.length * m := by
  induction l with
  | nil => simp [sizeJ]
  | cons a t ih =>
    rw [size_cons, List.length_cons, Nat.succ_mul]
    have := h a List.mem_cons_self
    have := ih (fun x hx => h x (List.mem_cons_of_mem _ hx))
    omega
theorem getElem_map {α β : Type} {f : α → β} {l : List α} {i : Nat} {x : β} (h : (l.map f)[i]? = some x) : ∃ y, l[i]? = some y ∧ f y = x := by
  rw [List.getElem?_map] at h
  cases hl : l[i]? with
  | none => rw [hl] at h; cases h
  | some y => rw [hl] at h; injection h with h; exact ⟨y, rfl, h⟩
end Go.Proofs.YtnaljgmcpagbbaaGreatDoor
