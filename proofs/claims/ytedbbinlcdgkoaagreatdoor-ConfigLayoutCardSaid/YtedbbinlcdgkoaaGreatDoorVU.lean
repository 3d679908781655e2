import Derived.Test.YtedbbinlcdgkoaaGreatDoorVT
/- The value machine: a slice that was written, from here on only read. No program in sight. -/
namespace Go.Proofs.YtedbbinlcdgkoaaGreatDoor
open Go.RowKit
set_option linter.unusedVariables false
set_option linter.unusedSimpArgs false
def flatV : V → Bool
  | .int _ _ | .bool _ | .str _ | .nil => true
  | _ => false
theorem flat_rep {S S' : Sit} : ∀ {x : V} {v : Value}, flatV x = true → Rep S x v → Rep S' x v
  | .int _ _, _, _, h => h
  | .bool _, _, _, h => h
  | .str _, _, _, h => h
  | .nil, _, _, h => h
theorem flat_repL {S S' : Sit} : ∀ {l : List V} {vs : List Value}, (∀ x ∈ l, flatV x = true) → RepL S l vs → RepL S' l vs
  | [], _, _, h => h
  | x :: xs, vs, hf, h => by
    obtain ⟨u, us, h1, h2, h3⟩ := h
    exact ⟨u, us, h1, flat_rep (hf x List.mem_cons_self) h2, flat_repL (fun y hy => hf y (List.mem_cons_of_mem _ hy)) h3⟩
section
variable {P : Program} {ops : Array Oper} {Q Q' : Exit → Act → World → Prop}
theorem wp_put {o : Oper} {a : Act} {w : World} {K K' : Act → World → Prop} (h : ∀ a1 w1, (∀ i, o.dst ≠ some i → a1.tmps.getD i undef = a.tmps.getD i undef) → K a1 w1 → K' a1 w1)
    (hp : ∀ ch a w, Q (.panic ch) a w → Q' (.panic ch) a w) (hl : LetsOut Q → LetsOut Q') (hh : o.wp P a w K Q) : o.wp P a w K' Q' := by
  have hput : ∀ (a0 : Act) (v : Value), a0.tmps = a.tmps → ∀ i, o.dst ≠ some i → (a0.put o.dst v).tmps.getD i undef = a.tmps.getD i undef := fun a0 v ha i hi => by
    cases hd : o.dst with
    | none => simp only [Act.put]; rw [ha]
    | some d =>
      have hne : d ≠ i := fun e => hi (by rw [hd, e])
      simp [Act.put, Array.getElem?_setIfInBounds, hne, ha]
  unfold Oper.wp at *
  generalize (execOp a.eval o).run P w = r at *
  cases r with
  | ok n w' =>
    cases n <;> simp only [Oper.upon] at hh ⊢ <;>
      first
        | exact h _ _ (hput _ _ rfl) hh
        | exact Calls.mono hh (fun e w'' he => by cases e <;> first | exact h _ _ (hput _ _ rfl) he | exact hp _ _ _ he | exact hl he)
        | exact Rows.mono hh (fun _ _ he => h _ _ (hput _ _ rfl) he)
  | halt x w' => cases x <;> simp only [Oper.upon] at hh ⊢ <;> first | exact hp _ _ _ hh | exact hh
theorem wpList_to (keep : Nat → Prop) (a0 : Act) (hn : ∀ a w, Q .normal a w → (∀ i, keep i → a.tmps.getD i undef = a0.tmps.getD i undef) → Q' .normal a w)
    (hp : ∀ ch a w, Q (.panic ch) a w → Q' (.panic ch) a w) (hl : LetsOut Q → LetsOut Q') :
    ∀ (l : List Oper) (a : Act) (w : World), (∀ o ∈ l, ∀ i, keep i → o.dst ≠ some i) → (∀ i, keep i → a.tmps.getD i undef = a0.tmps.getD i undef) → wpList P ops Q l a w → wpList P ops Q' l a w
  | [], a, w, _, ha, h => hn a w h ha
  | o :: os, a, w, hd, ha, h => by
    have hd2 : ∀ o' ∈ os, ∀ i, keep i → o'.dst ≠ some i := fun o' ho => hd o' (List.mem_cons_of_mem _ ho)
    unfold wpList at h ⊢
    split
    · rename_i hw
      rw [if_pos hw] at h
      rcases h with h | ⟨h, h2⟩
      · exact .inl (wp_put (fun a1 w1 h1 hk => wpList_to keep a0 hn hp hl os a1 w1 hd2 (fun i hi => (h1 i (hd o List.mem_cons_self i hi)).trans (ha i hi)) hk) hp hl h)
      · exact .inr ⟨h, hl h2⟩
    · rename_i hw
      rw [if_neg hw] at h
      refine wpList_to keep a0 hn hp hl os _ w hd2 (fun i hi => ?_) h
      have hne := hd o List.mem_cons_self i hi
      cases ho : o.dst with
      | none => simp only [Act.put]; exact ha i hi
      | some d =>
        have : d ≠ i := fun e => hne (by rw [ho, e])
        have h3 : (a.put (some d) undef).tmps.getD i undef = a.tmps.getD i undef := by simp [Act.put, Array.getElem?_setIfInBounds, this]
        rw [h3]; exact ha i hi
end
theorem lk_keep2 (s : St) : ∀ (ks : List Nat) (i : Nat), lk (keepT s ks) i = .any ∨ (i ∈ ks ∧ lk (keepT s ks) i = s.t i)
  | [], _ => .inl rfl
  | k :: ks, i => by
    unfold keepT lk
    by_cases e : i = k
    · subst e; rw [if_pos rfl]; exact .inr ⟨List.mem_cons_self, rfl⟩
    · rw [if_neg e]
      rcases lk_keep2 s ks i with h | ⟨h1, h2⟩
      · exact .inl h
      · exact .inr ⟨List.mem_cons_of_mem _ h1, h2⟩
def noDst (ks : List Nat) (l : List Oper) : Bool := l.all fun o => match o.dst with
  | some i => !ks.contains i
  | none => true
section
variable {P : Program} {ops : Array Oper} {Q : Exit → Act → World → Prop}
def thenL (P : Program) (ops : Array Oper) (l2 : List Oper) (Q : Exit → Act → World → Prop) : Exit → Act → World → Prop
  | .normal, a, w => wpList P ops Q l2 a w
  | e, a, w => Q e a w
theorem wpList_app (l2 : List Oper) : ∀ (l1 : List Oper) (a : Act) (w : World), wpList P ops (thenL P ops l2 Q) l1 a w → wpList P ops Q (l1 ++ l2) a w
  | [], a, w, h => h
  | o :: os, a, w, h => by
    rw [List.cons_append]
    unfold wpList at h ⊢
    split
    · rename_i hw
      rw [if_pos hw] at h
      rcases h with h | ⟨h, h2⟩
      · exact .inl (wp_put (fun a1 w1 _ hk => wpList_app l2 os a1 w1 hk) (fun ch a w q => q) (fun q => q) h)
      · exact .inr ⟨h, h2⟩
    · rename_i hw
      rw [if_neg hw] at h
      exact wpList_app l2 os _ w h
end
theorem set_flat1 (v : V) : ∀ (rows : List (List V)) (i : Nat), (∀ r ∈ rows, r.length = 1) → i < rows.length → (rows.set i [v]).flatten = spl1 i [v] rows.flatten
  | [], i, _, h => by simp at h
  | r :: rs, i, hk, h => by
    have h1 := hk r List.mem_cons_self
    match r, h1 with
    | [c], _ =>
      cases i with
      | zero => simp [spl1, spl1_nil]
      | succ i =>
        have := set_flat1 v rs i (fun x hx => hk x (List.mem_cons_of_mem _ hx)) (by simpa using h)
        simp only [List.set_cons_succ, List.flatten_cons, this, List.singleton_append, spl1]
end Go.Proofs.YtedbbinlcdgkoaaGreatDoor
