import Derived.Test.YtedbbinlcdgkoaaGreatDoorVT
/- The value machine: a slice that was written, from here on only read. No program in sight. -/
namespace Go.Proofs.YtedbbinlcdgkoaaGreatDoor
open Go.RowKit
set_option linter.unusedVariables false
set_option linter.unusedSimpArgs false
theorem VWp.cool {P : Program} {F : Env} {c : Code} {Q : Exit → St → Prop} {s : St} (o x k : Nat) {E : TypeId} {rows : List (List V)} (ks os : List Nat) (hx : s.t x = .hs o rows.length) (ho : s.o o = some (.box E rows.flatten)) (hk : ∀ r ∈ rows, r.length = k) (hcl : cleanR rows)
    (h : okT (lko (keepO ⟨up s.t x (.sl k rows), up s.o o none⟩ os)) (keepT ⟨up s.t x (.sl k rows), up s.o o none⟩ ks) ∧ okO (lko (keepO ⟨up s.t x (.sl k rows), up s.o o none⟩ os)) (keepO ⟨up s.t x (.sl k rows), up s.o o none⟩ os) ∧
      VWp P F c Q (St.of (keepT ⟨up s.t x (.sl k rows), up s.o o none⟩ ks) (keepO ⟨up s.t x (.sl k rows), up s.o o none⟩ os))) : VWp P F c Q s := fun β a W hs => by
  obtain ⟨h1, h2, h3⟩ := h
  have hl0 : ∀ i, (up s.o o none) i = none ∨ (up s.o o none) i = s.o i := fun i => by
    by_cases e : i = o
    · subst e; exact .inl (up_same _ _ _)
    · exact .inr (up_other _ _ e)
  have l2 := less_keep ⟨up s.t x (.sl k rows), up s.o o none⟩ ks os
  have hblk : blk β s.o o = some (β.pb o) := by unfold blk; simp only [ho]
  have hmut : ∀ p, ¬ Mut F β (up s.o o none) (β.pb o) p := by
    rintro p (q | ⟨o', T, c', q1, q2⟩ | ⟨o', k', E', rows', q1, q2, _⟩)
    · exact hs.objs.base.dis o _ p hblk q
    · by_cases e : o' = o
      · subst e; rw [up_same] at q1; cases q1
      · rw [up_other _ _ e] at q1
        exact e (hs.objs.inj o' o (β.pb o) (by unfold blk; simp only [q1, q2]) hblk)
    · by_cases e : o' = o
      · subst e; rw [up_same] at q1; cases q1
      · rw [up_other _ _ e] at q1
        exact e (hs.objs.inj o' o (β.pb o) (by unfold blk; simp only [q1]; exact q2) hblk)
  have frame : ∀ i, Rep (sit F β (up s.o o none) W) ((up s.t x (.sl k rows)) i) (a.tmps.getD i undef) := fun i => by
    by_cases e : i = x
    · subst e
      rw [up_same]
      have hv := hs.frame i
      rw [hx] at hv
      obtain ⟨cap, hv, c1, c2⟩ := hv
      obtain ⟨_, us, rs, g1, g2, g3⟩ := hs.objs.box o E _ ho
      refine ⟨some ⟨β.pb o, 0, none⟩, cap, hv, c1, c2, (fun q => by cases q), hk, hcl, fun y hy => ?_⟩
      injection hy with hy; subst hy
      refine ⟨fun _ => rfl, AtR.flat.2 (AtL.of_get fun j hj => ?_)⟩
      obtain ⟨u, hu, hru⟩ := RepL.get g3 j hj
      refine ⟨hmut _, u, ?_, g2 u (List.mem_of_getElem? hu), hru.less hl0⟩
      show W.cell? ⟨β.pb o, 0 + j, none⟩ = some u
      rw [Nat.zero_add, cell_of_row _ _ j _ _ _ g1, List.getElem?_toArray, List.getElem?_append_left (List.getElem?_eq_some_iff.1 hu).1]; exact hu
    · rw [up_other _ _ e]
      exact (hs.frame i).less hl0
  refine h3 β a W ⟨(hs.objs.less hl0).less l2.o, closed_of h1 h2, fun i => ?_, hs.defers, hs.size⟩
  rcases l2.t i with e | e
  · rw [e]; trivial
  · rw [e]; exact (frame i).less l2.o
def flatV : V → Bool
  | .int _ _ | .bool _ | .str _ | .nil => true
  | _ => false
section
variable {P : Program} {ops : Array Oper} {Q Q' : Exit → Act → World → Prop}
end
theorem lk_keep2 (s : St) : ∀ (ks : List Nat) (i : Nat), lk (keepT s ks) i = .any ∨ (i ∈ ks ∧ lk (keepT s ks) i = s.t i)
  | [], _ => .inl rfl
  | k :: ks, i => by
    unfold keepT lk
    by_cases e : i = k
    · subst e; rw [if_pos rfl]; exact .inr ⟨List.mem_cons_self, rfl⟩
    · rw [if_neg e]
      rcases lk_keep2 s ks i with h | ⟨h1, h2⟩
      · exact .inl h
      · exact .inr ⟨List.mem_cons_of_mem _ h1, h2⟩
section
variable {P : Program} {ops : Array Oper} {Q : Exit → Act → World → Prop}
end
end Go.Proofs.YtedbbinlcdgkoaaGreatDoor
