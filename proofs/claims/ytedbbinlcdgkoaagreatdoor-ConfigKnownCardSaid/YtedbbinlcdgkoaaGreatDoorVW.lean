import Derived.Test.YtedbbinlcdgkoaaGreatDoorVU
/- The value machine: a slice in a box's cell that is only read from here on. No program in sight. -/
namespace Go.Proofs.YtedbbinlcdgkoaaGreatDoor
open Go.RowKit
set_option linter.unusedVariables false
set_option linter.unusedSimpArgs false
section
variable {P : Program} {F : Env} {s : St} {Q : Exit → St → Prop}
end
def LeR : List (List V) → List (List V) → Prop
  | [], [] => True
  | r :: rs, r' :: rs' => LeL r r' ∧ LeR rs rs'
  | _, _ => False
theorem LeL.at {S : Sit} : ∀ {l m : List V} {b p : Nat}, LeL l m → AtL S l b p → AtL S m b p
  | [], [], _, _, _, _ => trivial
  | x :: xs, y :: ys, b, p, h, k => by
    obtain ⟨⟨k1, c, k2, k3, k4⟩, k5⟩ := k
    exact ⟨⟨k1, c, k2, k3, h.1 _ _ k4⟩, LeL.at h.2 k5⟩
  | [], _ :: _, _, _, h, _ => h.elim
  | _ :: _, [], _, _, h, _ => h.elim
theorem LeL.len : ∀ {l m : List V}, LeL l m → l.length = m.length
  | [], [], _ => rfl
  | _ :: _, _ :: _, h => congrArg (· + 1) (LeL.len h.2)
  | [], _ :: _, h => h.elim
  | _ :: _, [], h => h.elim
theorem LeR.at {S : Sit} : ∀ {l m : List (List V)} {b p : Nat}, LeR l m → AtR S l b p → AtR S m b p
  | [], [], _, _, _, _ => trivial
  | x :: xs, y :: ys, b, p, h, k => ⟨h.1.at k.1, by rw [← h.1.len]; exact LeR.at h.2 k.2⟩
  | [], _ :: _, _, _, h, _ => h.elim
  | _ :: _, [], _, _, h, _ => h.elim
theorem LeR.len : ∀ {l m : List (List V)}, LeR l m → l.length = m.length
  | [], [], _ => rfl
  | _ :: _, _ :: _, h => congrArg (· + 1) (LeR.len h.2)
  | [], _ :: _, h => h.elim
  | _ :: _, [], h => h.elim
theorem LeR.row {k : Nat} : ∀ {l m : List (List V)}, LeR l m → (∀ r ∈ l, r.length = k) → ∀ r ∈ m, r.length = k
  | [], [], _, h => h
  | x :: xs, y :: ys, h, k => fun r hr => by
    rcases List.mem_cons.1 hr with rfl | hr
    · rw [← h.1.len]; exact k x List.mem_cons_self
    · exact LeR.row h.2 (fun q hq => k q (List.mem_cons_of_mem _ hq)) r hr
  | [], _ :: _, h, _ => h.elim
  | _ :: _, [], h, _ => h.elim
theorem LeV.sl {k : Nat} {l m : List (List V)} (h : LeR l m) (hc : cleanR m) : LeV (.sl k l) (.sl k m) := fun S v ⟨a, c, h1, h2, h3, h4, h5, h6, h7⟩ => by
  have hl := h.len
  refine ⟨a, c, by rw [← hl]; exact h1, by rw [← hl]; exact h2, h3, fun e => ?_, h.row h5, hc, fun x hx => ⟨fun hne => (h7 x hx).1 (fun e => hne (List.eq_nil_of_length_eq_zero (by rw [← hl, e]; rfl))), h.at (h7 x hx).2⟩⟩
  have := h4 e
  rw [this] at hl
  exact List.eq_nil_of_length_eq_zero hl.symm
end Go.Proofs.YtedbbinlcdgkoaaGreatDoor
