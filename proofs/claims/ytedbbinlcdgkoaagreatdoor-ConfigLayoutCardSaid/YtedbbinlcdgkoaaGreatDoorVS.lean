import Derived.Test.YtedbbinlcdgkoaaGreatDoorVJ

/- The value machine: functions that may write objects that they are given. No program in sight. -/
namespace Go.Proofs.YtedbbinlcdgkoaaGreatDoor
open Go.RowKit
set_option linter.unusedVariables false
set_option linter.unusedSimpArgs false

def okR (os : Nat → Option Ob) : List (Nat × Option Nat) → Prop
  | [] => True
  | (o, none) :: r => (match os o with | some (.box _ _) => okR os r | some (.map _) => okR os r | _ => False)
  | (o, some n) :: r => (match os o with | some (.arr _ _ rows) => n ≤ rows.length ∧ okR os r | _ => False)
def okO (os : Nat → Option Ob) : List (Nat × Ob) → Prop
  | [] => True
  | (_, .box _ c) :: r => okR os (V.refsL c) ∧ okO os r
  | (_, .arr _ _ _) :: r => okO os r
  | (_, .map _) :: r => okO os r

theorem okR_ok {os : Nat → Option Ob} : ∀ {l : List (Nat × Option Nat)}, okR os l → ∀ r ∈ l, RefOk os r
  | [], _, r, hr => by cases hr
  | (o, none) :: l, h, r, hr => by
    simp only [okR] at h
    split at h
    · rename_i T c ho
      rcases List.mem_cons.1 hr with rfl | hr
      · exact ⟨_, ho, rfl⟩
      · exact okR_ok h r hr
    · rename_i es ho
      rcases List.mem_cons.1 hr with rfl | hr
      · exact ⟨_, ho, rfl⟩
      · exact okR_ok h r hr
    · exact h.elim
  | (o, some n) :: l, h, r, hr => by
    simp only [okR] at h
    split at h
    · rename_i k E rows ho
      rcases List.mem_cons.1 hr with rfl | hr
      · exact ⟨k, E, rows, ho, h.1⟩
      · exact okR_ok h.2 r hr
    · exact h.elim
theorem lko_mem {os : List (Nat × Ob)} {i : Nat} {x : Ob} (h : lko os i = some x) : (i, x) ∈ os := by
  induction os with
  | nil => cases h
  | cons p r ih =>
    obtain ⟨j, y⟩ := p
    unfold lko at h
    by_cases e : i = j
    · subst e; rw [if_pos rfl] at h; injection h with h; subst h; exact List.mem_cons_self
    · rw [if_neg e] at h; exact List.mem_cons_of_mem _ (ih h)
theorem okO_mem {os : Nat → Option Ob} {i : Nat} {T : TypeId} {c : List V} : ∀ {l : List (Nat × Ob)}, okO os l → (i, .box T c) ∈ l → okR os (V.refsL c)
  | (j, .box T' c') :: r, h, hm => by
    rcases List.mem_cons.1 hm with e | hm
    · injection e with _ e; injection e with _ e; subst e; exact h.1
    · exact okO_mem h.2 hm
  | (j, .arr _ _ _) :: r, h, hm => by
    rcases List.mem_cons.1 hm with e | hm
    · injection e with _ e; cases e
    · exact okO_mem (show okO os r from h) hm
  | (j, .map _) :: r, h, hm => by
    rcases List.mem_cons.1 hm with e | hm
    · injection e with _ e; cases e
    · exact okO_mem (show okO os r from h) hm

def fw : List (Nat × Nat) → Nat → Option Nat
  | [], _ => none
  | (a, b) :: r, x => if x = a then some b else fw r x
def bk : List (Nat × Nat) → Nat → Option Nat
  | [], _ => none
  | (a, b) :: r, x => if x = b then some a else bk r x
def okρ : List (Nat × Nat) → Bool
  | [] => true
  | (a, b) :: r => (fw r a).isNone && (bk r b).isNone && ((prv a == prv b) && (wrt a == wrt b)) && okρ r
theorem fw_bk : ∀ {ρ : List (Nat × Nat)} {a b : Nat}, okρ ρ = true → (fw ρ a = some b ↔ bk ρ b = some a)
  | [], a, b, _ => by simp [fw, bk]
  | (x, y) :: r, a, b, h => by
    unfold okρ at h
    rw [Bool.and_eq_true, Bool.and_eq_true, Bool.and_eq_true] at h
    obtain ⟨⟨⟨h1, h2⟩, _⟩, h3⟩ := h
    have ih := fw_bk (a := a) (b := b) h3
    unfold fw bk
    by_cases e1 : a = x <;> by_cases e2 : b = y
    · simp [e1, e2]
    · subst e1
      rw [if_pos rfl, if_neg e2, ← ih]
      constructor
      · intro q; injection q with q; exact absurd q.symm e2
      · intro q; rw [q] at h1; cases h1
    · subst e2
      rw [if_neg e1, if_pos rfl, ih]
      constructor
      · intro q; rw [q] at h2; cases h2
      · intro q; injection q with q; exact absurd q.symm e1
    · rw [if_neg e1, if_neg e2]; exact ih
theorem okρ_prv {ρ : List (Nat × Nat)} {a b : Nat} (h : okρ ρ = true) (hf : fw ρ a = some b) : prv a = prv b ∧ wrt a = wrt b := by
  induction ρ with
  | nil => cases hf
  | cons p r ih =>
    obtain ⟨x, y⟩ := p
    unfold okρ at h
    rw [Bool.and_eq_true, Bool.and_eq_true, Bool.and_eq_true] at h
    obtain ⟨⟨_, h2⟩, h3⟩ := h
    unfold fw at hf
    split at hf
    · rename_i e
      injection hf with hf; subst e; subst hf
      rw [Bool.and_eq_true] at h2
      exact ⟨eq_of_beq h2.1, eq_of_beq h2.2⟩
    · exact ih h3 hf
theorem fw_mem {ρ : List (Nat × Nat)} {a b : Nat} (h : fw ρ a = some b) : (a, b) ∈ ρ := by
  induction ρ with
  | nil => cases h
  | cons p r ih =>
    obtain ⟨x, y⟩ := p
    unfold fw at h
    split at h
    · rename_i e; injection h with h; subst e; subst h; exact List.mem_cons_self
    · exact List.mem_cons_of_mem _ (ih h)

mutual
def cvt (os : Nat → Option Ob) (g : Nat → Option Nat) : V → Option V
  | .agg l => (cvtL os g l).map .agg
  | .tup l => (cvtL os g l).map .tup
  | .fn f l => (cvtL os g l).map (.fn f)
  | .own o n => match g o with
    | some o' => some (.own o' n)
    | none => match os o with
      | some (.arr k _ rows) => if n = rows.length then (if prvB o rows = true then some (.sl k rows) else none) else none
      | _ => none
  | .ptr o p => match g o with
    | some o' => some (.ptr o' p)
    | none => none
  | .mp o => match g o with
    | some o' => some (.mp o')
    | none => none
  | .hs o n => match g o with
    | some o' => some (.hs o' n)
    | none => none
  | .int k n => some (.int k n)
  | .bool b => some (.bool b)
  | .str l => some (.str l)
  | .sl k rows => some (.sl k rows)
  | .nil => some .nil
  | .rp r i => some (.rp r i)
  | .raw v => some (.raw v)
  | .any => some .any
def cvtL (os : Nat → Option Ob) (g : Nat → Option Nat) : List V → Option (List V)
  | [] => some []
  | x :: xs => match cvt os g x, cvtL os g xs with
    | some y, some ys => some (y :: ys)
    | _, _ => none
end
structure Cvt (os : Nat → Option Ob) (g : Nat → Option Nat) (S S' : Sit) : Prop where
  m : ∀ b p c, ¬ S.M b p → S.W.cell? ⟨b, p, none⟩ = some c → ¬ S'.M b p ∧ S'.W.cell? ⟨b, p, none⟩ = some c
  g : ∀ o o', g o = some o' → S'.pb o' = S.pb o ∧ ∀ n u, S'.sv o' n = some u → S.sv o n = some u
  v : ∀ o k E rows v, os o = some (.arr k E rows) → prvB o rows = true → Rep S (.own o rows.length) v → Rep S' (.sl k rows) v
mutual
theorem cvt_rep {os : Nat → Option Ob} {g : Nat → Option Nat} {S S' : Sit} (h : Cvt os g S S') : ∀ (x y : V) (v : Value), cvt os g x = some y → Rep S x v → Rep S' y v ∧ ∀ r ∈ y.refs, ∃ o, g o = some r.1 ∧ (o, r.2) ∈ x.refs
  | .agg l, y, v, hv, hr => by
    simp only [cvt, Option.map_eq_some_iff] at hv
    obtain ⟨m, h1, rfl⟩ := hv
    obtain ⟨cs, g1, g2, g3⟩ := hr
    obtain ⟨k1, k2⟩ := cvtL_rep h l m cs h1 g3
    exact ⟨⟨cs, g1, g2, k1⟩, k2⟩
  | .tup l, y, v, hv, hr => by
    simp only [cvt, Option.map_eq_some_iff] at hv
    obtain ⟨m, h1, rfl⟩ := hv
    obtain ⟨cs, g1, g3⟩ := hr
    obtain ⟨k1, k2⟩ := cvtL_rep h l m cs h1 g3
    exact ⟨⟨cs, g1, k1⟩, k2⟩
  | .fn f l, y, v, hv, hr => by
    simp only [cvt, Option.map_eq_some_iff] at hv
    obtain ⟨m, h1, rfl⟩ := hv
    obtain ⟨cs, g1, g3⟩ := hr
    obtain ⟨k1, k2⟩ := cvtL_rep h l m cs h1 g3
    exact ⟨⟨cs, g1, k1⟩, k2⟩
  | .own o n, y, v, hv, hr => by
    simp only [cvt] at hv
    split at hv
    · rename_i o' ho
      injection hv with hv; subst hv
      refine ⟨⟨hr.1, fun u hu => hr.2 u ((h.g o o' ho).2 n u hu)⟩, fun r hr' => ?_⟩
      simp only [V.refs, List.mem_singleton] at hr'; subst hr'
      exact ⟨o, ho, by simp [V.refs]⟩
    · split at hv
      · rename_i k E rows ho
        split at hv
        · rename_i hn
          split at hv
          · rename_i hs
            injection hv with hv; subst hv; subst hn
            exact ⟨h.v o k E rows v ho hs hr, by simp [V.refs]⟩
          · cases hv
        · cases hv
      · cases hv
  | .hs o n, y, v, hv, hr => by
    simp only [cvt] at hv
    split at hv
    · rename_i o' ho
      injection hv with hv; subst hv
      refine ⟨?_, fun r hr' => ?_⟩
      · obtain ⟨cap, h1, h2⟩ := hr
        exact ⟨cap, by rw [(h.g o o' ho).1]; exact h1, h2⟩
      · simp only [V.refs, List.mem_singleton] at hr'; subst hr'
        exact ⟨o, ho, by simp [V.refs]⟩
    · cases hv
  | .mp o, y, v, hv, hr => by
    simp only [cvt] at hv
    split at hv
    · rename_i o' ho
      injection hv with hv; subst hv
      refine ⟨?_, fun r hr' => ?_⟩
      · show v = _
        rw [(h.g o o' ho).1]; exact hr
      · simp only [V.refs, List.mem_singleton] at hr'; subst hr'
        exact ⟨o, ho, by simp [V.refs]⟩
    · cases hv
  | .ptr o p, y, v, hv, hr => by
    simp only [cvt] at hv
    split at hv
    · rename_i o' ho
      injection hv with hv; subst hv
      refine ⟨?_, fun r hr' => ?_⟩
      · show v = _
        rw [(h.g o o' ho).1]; exact hr
      · simp only [V.refs, List.mem_singleton] at hr'; subst hr'
        exact ⟨o, ho, by simp [V.refs]⟩
    · cases hv
  | .int _ _, y, v, hv, hr => by simp only [cvt, Option.some.injEq] at hv; subst hv; exact ⟨hr, by simp [V.refs]⟩
  | .bool _, y, v, hv, hr => by simp only [cvt, Option.some.injEq] at hv; subst hv; exact ⟨hr, by simp [V.refs]⟩
  | .str _, y, v, hv, hr => by simp only [cvt, Option.some.injEq] at hv; subst hv; exact ⟨hr, by simp [V.refs]⟩
  | .sl _ _, y, v, hv, hr => by simp only [cvt, Option.some.injEq] at hv; subst hv; exact ⟨Rep.clean h.m rfl hr, by simp [V.refs]⟩
  | .nil, y, v, hv, hr => by simp only [cvt, Option.some.injEq] at hv; subst hv; exact ⟨hr, by simp [V.refs]⟩
  | .rp _ _, y, v, hv, hr => by simp only [cvt, Option.some.injEq] at hv; subst hv; exact ⟨Rep.clean h.m rfl hr, by simp [V.refs]⟩
  | .raw _, y, v, hv, hr => by simp only [cvt, Option.some.injEq] at hv; subst hv; exact ⟨hr, by simp [V.refs]⟩
  | .any, y, v, hv, hr => by simp only [cvt, Option.some.injEq] at hv; subst hv; exact ⟨hr, by simp [V.refs]⟩
theorem cvtL_rep {os : Nat → Option Ob} {g : Nat → Option Nat} {S S' : Sit} (h : Cvt os g S S') : ∀ (x y : List V) (v : List Value), cvtL os g x = some y → RepL S x v → RepL S' y v ∧ ∀ r ∈ V.refsL y, ∃ o, g o = some r.1 ∧ (o, r.2) ∈ V.refsL x
  | [], y, v, hv, hr => by simp only [cvtL, Option.some.injEq] at hv; subst hv; exact ⟨hr, by simp [V.refsL]⟩
  | x :: xs, y, v, hv, hr => by
    simp only [cvtL] at hv
    split at hv
    · rename_i y0 ys h1 h2
      injection hv with hv; subst hv
      obtain ⟨u, us, rfl, g1, g2⟩ := hr
      obtain ⟨k1, k2⟩ := cvt_rep h x y0 u h1 g1
      obtain ⟨k3, k4⟩ := cvtL_rep h xs ys us h2 g2
      refine ⟨⟨u, us, rfl, k1, k3⟩, fun r hr => ?_⟩
      rcases List.mem_append.1 hr with hr | hr
      · obtain ⟨o, q1, q2⟩ := k2 r hr; exact ⟨o, q1, List.mem_append_left _ q2⟩
      · obtain ⟨o, q1, q2⟩ := k4 r hr; exact ⟨o, q1, List.mem_append_right _ q2⟩
    · cases hv
end
def cvtO (os : Nat → Option Ob) (g : Nat → Option Nat) : Ob → Option Ob
  | .box T c => (cvtL os g c).map (.box T)
  | .arr k E rows => some (.arr k E rows)
  | .map es => some (.map es)
def takeO (os : Nat → Option Ob) (g : Nat → Option Nat) : List (Nat × Nat) → Option (List (Nat × Ob))
  | [] => some []
  | (a, b) :: r => match os b with
    | some x => (match cvtO os g x, takeO os g r with
      | some y, some l => some ((a, y) :: l)
      | _, _ => none)
    | none => takeO os g r
def giveO (f : Nat → Option Nat) : List (Nat × Ob) → Option (List (Nat × Ob))
  | [] => some []
  | (a, x) :: r => match f a, cvtO (fun _ => none) f x, giveO f r with
    | some b, some y, some l => some ((b, y) :: l)
    | _, _, _ => none
def newOk (os : Nat → Option Ob) : List (Nat × Nat) → Prop
  | [] => True
  | (a, b) :: r => (match os b with | some _ => 1000000 ≤ a | none => b < 1000000) ∧ newOk os r
theorem takeO_some {os : Nat → Option Ob} {g : Nat → Option Nat} : ∀ {ρ : List (Nat × Nat)} {l : List (Nat × Ob)}, takeO os g ρ = some l → ∀ a, lko l a = match fw ρ a with | some b => (match os b with | some x => cvtO os g x | none => lko l a) | none => none
  | [], l, h, a => by simp only [takeO, Option.some.injEq] at h; subst h; rfl
  | (x, y) :: r, l, h, a => by
    simp only [takeO] at h
    unfold fw
    split at h
    · rename_i z hz
      split at h
      · rename_i z' l' h1 h2
        injection h with h; subst h
        by_cases e : a = x
        · subst e; simp only [if_true, hz, h1]; unfold lko; rw [if_pos rfl]
        · rw [if_neg e]
          have := takeO_some h2 a
          unfold lko; rw [if_neg e]; exact this
      · cases h
    · rename_i hz
      have := takeO_some h a
      by_cases e : a = x
      · subst e; simp only [if_true, hz]
      · rw [if_neg e]; exact this
theorem takeO_none {os : Nat → Option Ob} {g : Nat → Option Nat} : ∀ {ρ : List (Nat × Nat)} {l : List (Nat × Ob)}, okρ ρ = true → takeO os g ρ = some l → ∀ a b, fw ρ a = some b → os b = none → lko l a = none
  | [], l, _, h, a, b, hf, _ => by cases hf
  | (x, y) :: r, l, hk, h, a, b, hf, hb => by
    unfold okρ at hk
    rw [Bool.and_eq_true, Bool.and_eq_true, Bool.and_eq_true] at hk
    obtain ⟨⟨⟨h1, h2⟩, _⟩, h3⟩ := hk
    simp only [takeO] at h
    unfold fw at hf
    have stay : ∀ {l' : List (Nat × Ob)}, takeO os g r = some l' → a = x → lko l' a = none := fun {l'} q e => by
      rw [takeO_some q a]
      have : fw r a = none := by rw [e]; simpa using h1
      rw [this]
    by_cases e : a = x
    · rw [if_pos e] at hf
      injection hf with hf; subst hf
      rw [hb] at h
      exact stay h e
    · rw [if_neg e] at hf
      split at h
      · split at h
        · rename_i z' l' k1 k2
          injection h with h; subst h
          unfold lko; rw [if_neg e]
          exact takeO_none h3 k2 a b hf hb
        · cases h
      · exact takeO_none h3 h a b hf hb
theorem giveO_some {f : Nat → Option Nat} {g : Nat → Option Nat} (hfg : ∀ a b, f a = some b ↔ g b = some a) : ∀ {l l' : List (Nat × Ob)}, giveO f l = some l' → ∀ b, (lko l' b = match g b with | some a => (match lko l a with | some x => cvtO (fun _ => none) f x | none => none) | none => none) ∧ ∀ a x, lko l a = some x → f a ≠ none
  | [], l', h, b => by
    simp only [giveO, Option.some.injEq] at h; subst h
    refine ⟨?_, fun a x q => by cases q⟩
    cases g b <;> rfl
  | (x, y) :: r, l', h, b => by
    simp only [giveO] at h
    split at h
    · rename_i b0 y0 l0 h1 h2 h3
      injection h with h; subst h
      obtain ⟨ih1, ih2⟩ := giveO_some hfg h3 b
      refine ⟨?_, fun a z q => ?_⟩
      · by_cases e : b = b0
        · subst e
          rw [(hfg x b).1 h1]
          simp only
          unfold lko
          rw [if_pos rfl, if_pos rfl]
          exact h2.symm
        · unfold lko
          rw [if_neg e, ih1]
          cases hg : g b with
          | none => rfl
          | some a =>
            simp only
            have : a ≠ x := fun q => by
              subst q
              have := (hfg a b).2 hg
              rw [h1] at this; injection this with this; exact e this.symm
            rw [if_neg this]
      · unfold lko at q
        by_cases e : a = x
        · subst e; rw [h1]; simp
        · rw [if_neg e] at q; exact ih2 a z q
    · cases h
end Go.Proofs.YtedbbinlcdgkoaaGreatDoor

/- The value machine: what a function does that may write objects that it is given; a call of it. No program in sight. -/
namespace Go.Proofs.YtedbbinlcdgkoaaGreatDoor
open Go.RowKit
set_option linter.unusedVariables false
set_option linter.unusedSimpArgs false

structure SpecB (P : Program) (f : FuncId) (args : List V) (os : List (Nat × Ob)) (r : V) (os' : List (Nat × Ob)) : Prop where
  ent : ∃ fn, P.funcs[f]? = some fn ∧ fn.body.isSome = true ∧ (fn.name == "runtime.NumGoroutine") = false
  clo : (∀ q ∈ r.refs, RefOk (lko os') q) ∧ ∀ o T c, lko os' o = some (.box T c) → ∀ q ∈ V.refsL c, RefOk (lko os') q
  dom : ∀ o, lko os o ≠ none → lko os' o ≠ none
  run : ∀ M L Z β w vs, Objs ⟨w, L, M, 0, lko os, β, Z, 0⟩ β (lko os) w → RepL (sit ⟨w, L, M, 0, lko os, β, Z, 0⟩ β (lko os) w) args vs →
    Calls P f vs.toArray w fun e w' => ∃ v β', e = .returned v ∧ Objs ⟨w, L, M, 0, lko os, β, Z, 0⟩ β' (lko os') w' ∧ Rep (sit ⟨w, L, M, 0, lko os, β, Z, 0⟩ β' (lko os') w') r v

def S0 (M : Nat → Nat → Prop) (w : World) : Sit := ⟨M, w, fun _ => 0, fun _ _ => none⟩
structure Spec (P : Program) (f : FuncId) (args : List V) (r : V) : Prop where
  ent : ∃ fn, P.funcs[f]? = some fn ∧ fn.body.isSome = true ∧ (fn.name == "runtime.NumGoroutine") = false
  rc : r.refs = []
  run : ∀ M w vs, (∀ b p, M b p → b < w.heap.size) → (∀ b p, gZ b p → ¬ M b p) ∧ GcW w → RepL (S0 M w) args vs → Calls P f vs.toArray w fun e w' => ∃ v, e = .returned v ∧ Chg [] w w' ∧ Rep (S0 M w') r v

mutual
def see (os : Nat → Option Ob) (g : Nat → Nat → V) : V → V
  | .agg l => .agg (seeL os g l)
  | .tup l => .tup (seeL os g l)
  | .fn f l => .fn f (seeL os g l)
  | .own o n => match os o with
    | some (.arr k _ rows) => if n = rows.length then .sl k rows else .any
    | _ => .any
  | .ptr o p => g o p
  | .mp _ => .any
  | .hs _ _ => .any
  | .int k n => .int k n
  | .bool b => .bool b
  | .str l => .str l
  | .sl k rows => .sl k rows
  | .nil => .nil
  | .rp r i => .rp r i
  | .raw v => .raw v
  | .any => .any
def seeL (os : Nat → Option Ob) (g : Nat → Nat → V) : List V → List V
  | [] => []
  | x :: xs => see os g x :: seeL os g xs
end
def seeP (os : Nat → Option Ob) (o p : Nat) : V := match os o with
  | some (.box _ c) => .rp (seeL os (fun _ _ => .any) c) p
  | _ => .any
def seen (os : Nat → Option Ob) (l : List V) : List V := seeL os (seeP os) l
def flatC : V → Bool
  | .int _ _ | .bool _ | .str _ | .nil => true
  | _ => false
def flatL : List V → Bool
  | [] => true
  | x :: xs => flatC x && flatL xs
def flatW : V → Bool
  | .int _ _ | .bool _ | .str _ | .nil => true
  | .agg l | .tup l => flatL l
  | _ => false
theorem flatC_rep {S S' : Sit} : ∀ {x : V} {v : Value}, flatC x = true → Rep S x v → Rep S' x v
  | .int _ _, _, _, h => h
  | .bool _, _, _, h => h
  | .str _, _, _, h => h
  | .nil, _, _, h => h
theorem flatL_rep {S S' : Sit} : ∀ {l : List V} {vs : List Value}, flatL l = true → RepL S l vs → RepL S' l vs
  | [], _, _, h => h
  | x :: xs, _, hf, ⟨u, us, e, h1, h2⟩ => by
    unfold flatL at hf
    rw [Bool.and_eq_true] at hf
    exact ⟨u, us, e, flatC_rep hf.1 h1, flatL_rep hf.2 h2⟩
theorem flatW_rep {S S' : Sit} : ∀ {x : V} {v : Value}, flatW x = true → Rep S x v → Rep S' x v
  | .int _ _, _, _, h => h
  | .bool _, _, _, h => h
  | .str _, _, _, h => h
  | .nil, _, _, h => h
  | .agg l, _, hf, ⟨cs, h1, h2, h3⟩ => ⟨cs, h1, h2, flatL_rep hf h3⟩
  | .tup l, _, hf, ⟨cs, h1, h3⟩ => ⟨cs, h1, flatL_rep hf h3⟩
section
variable {F : Env} {β : Bet} {os : Nat → Option Ob} {W : World}
theorem see_own {S' : Sit} (hSW : S'.W = W) (hSM : ∀ b p, S'.M b p → F.M0 b p) (h : Objs F β os W) {o n k : Nat} {E : TypeId} {rows : List (List V)} (ho : os o = some (.arr k E rows)) (hn : n = rows.length) {v : Value} (hv : Rep (sit F β os W) (.own o n) v) : Rep S' (.sl k rows) v := by
  have hve : v = β.sv o := hv.2 (β.sv o) (by show svOf _ _ o n = _; unfold svOf; simp only [ho, hn, if_true])
  subst hve
  obtain ⟨hk, hcl, _, xs, hown, h1, hx⟩ := h.arr o k E rows ho
  have hfl := flatten_len hk
  rcases hown.2 with ⟨hn, h0⟩ | ⟨g, cap, cur, hv, hbg, hg, hnc, hcm, hcs, htake⟩
  · have hr : rows = [] := List.eq_nil_of_length_eq_zero h0
    exact ⟨none, 0, by rw [hn, h0], by omega, by simp [maxLen], fun _ => hr, hk, hcl, fun x hx => by cases hx⟩
  · refine ⟨some ⟨g, 0, none⟩, cap, hv, hnc, hcm, (fun e => by cases e), hk, hcl, fun x hx' => ?_⟩
    injection hx' with hx'; subst hx'
    refine ⟨fun _ => rfl, AtR.flat.2 (AtL.of_get fun i hi => ⟨fun q => h.base.dis o g _ (by unfold blk; simp only [ho, hv]; rfl) (hSM _ _ q), ?_⟩)⟩
    obtain ⟨u, hu, hru⟩ := RepL.get hx i hi
    refine ⟨u, hSW ▸ ?_, h1 u (List.mem_of_getElem? hu), Rep.clean (S := sit F β os W) (S' := S') (fun b p c g1 g2 => ⟨fun q => g1 (.inl (hSM _ _ q)), by rw [hSW]; exact g2⟩) (refsL_nil_of (clean_flat hcl) (List.getElem_mem _)) hru⟩
    have := hown.cells (g := g) (by rw [hv]; rfl) i u hu
    rw [add_at] at this; exact this
mutual
theorem see_rep {S' : Sit} (hSW : S'.W = W) (hSM : ∀ b p, S'.M b p → F.M0 b p) (h : Objs F β os W) {g : Nat → Nat → V} (hg : ∀ o p v, Rep (sit F β os W) (.ptr o p) v → Rep S' (g o p) v) (hgr : ∀ o p, (g o p).refs = []) :
    ∀ (x : V) (v : Value), Rep (sit F β os W) x v → Rep S' (see os g x) v ∧ (see os g x).refs = []
  | .agg l, v, ⟨cs, g1, g2, g3⟩ => by
    obtain ⟨k1, k2⟩ := seeL_rep hSW hSM h hg hgr l cs g3
    exact ⟨⟨cs, g1, g2, k1⟩, k2⟩
  | .tup l, v, ⟨cs, g1, g3⟩ => by
    obtain ⟨k1, k2⟩ := seeL_rep hSW hSM h hg hgr l cs g3
    exact ⟨⟨cs, g1, k1⟩, k2⟩
  | .fn f l, v, ⟨cs, g1, g3⟩ => by
    obtain ⟨k1, k2⟩ := seeL_rep hSW hSM h hg hgr l cs g3
    exact ⟨⟨cs, g1, k1⟩, k2⟩
  | .own o n, v, hv => by
    simp only [see]
    split
    · rename_i k E rows ho
      split
      · rename_i hn
        exact ⟨see_own hSW hSM h ho hn hv, rfl⟩
      · exact ⟨trivial, rfl⟩
    · exact ⟨trivial, rfl⟩
  | .ptr o p, v, hv => ⟨hg o p v hv, hgr o p⟩
  | .mp _, v, hv => ⟨trivial, rfl⟩
  | .hs _ _, v, hv => ⟨trivial, rfl⟩
  | .int k n, v, hv => ⟨hv, rfl⟩
  | .bool b, v, hv => ⟨hv, rfl⟩
  | .str l, v, hv => ⟨hv, rfl⟩
  | .sl k rows, v, hv => ⟨Rep.clean (S := sit F β os W) (S' := S') (fun b p c g1 g2 => ⟨fun q => g1 (.inl (hSM _ _ q)), by rw [hSW]; exact g2⟩) (x := .sl k rows) rfl hv, rfl⟩
  | .nil, v, hv => ⟨hv, rfl⟩
  | .rp r i, v, hv => ⟨Rep.clean (S := sit F β os W) (S' := S') (fun b p c g1 g2 => ⟨fun q => g1 (.inl (hSM _ _ q)), by rw [hSW]; exact g2⟩) (x := .rp r i) rfl hv, rfl⟩
  | .raw u, v, hv => ⟨hv, rfl⟩
  | .any, v, hv => ⟨trivial, rfl⟩
theorem seeL_rep {S' : Sit} (hSW : S'.W = W) (hSM : ∀ b p, S'.M b p → F.M0 b p) (h : Objs F β os W) {g : Nat → Nat → V} (hg : ∀ o p v, Rep (sit F β os W) (.ptr o p) v → Rep S' (g o p) v) (hgr : ∀ o p, (g o p).refs = []) :
    ∀ (l : List V) (vs : List Value), RepL (sit F β os W) l vs → RepL S' (seeL os g l) vs ∧ V.refsL (seeL os g l) = []
  | [], vs, hv => ⟨hv, rfl⟩
  | x :: xs, vs, ⟨u, us, e, h1, h2⟩ => by
    obtain ⟨k1, k2⟩ := see_rep hSW hSM h hg hgr x u h1
    obtain ⟨k3, k4⟩ := seeL_rep hSW hSM h hg hgr xs us h2
    exact ⟨⟨u, us, e, k1, k3⟩, by show _ ++ _ = _; rw [k2, k4]; rfl⟩
end
theorem seeP_refs (os : Nat → Option Ob) (o p : Nat) : (seeP os o p).refs = [] := by unfold seeP; split <;> rfl
theorem seeP_rep {S' : Sit} (hSW : S'.W = W) (hSM : ∀ b p, S'.M b p → F.M0 b p) (h : Objs F β os W) (o p : Nat) (v : Value) (hv : Rep (sit F β os W) (.ptr o p) v) : Rep S' (seeP os o p) v := by
  unfold seeP
  split
  · rename_i T c ho
    obtain ⟨_, cs, rest, h1, h2, h3⟩ := h.box o T c ho
    obtain ⟨k1, k2⟩ := seeL_rep hSW hSM h (g := fun _ _ => .any) (fun _ _ _ _ => trivial) (fun _ _ => rfl) c cs h3
    have hl := RepL.length k1
    refine ⟨β.pb o, 0, by rw [Nat.zero_add]; exact hv, k2, AtL.of_get fun i hi => ⟨fun q => h.base.dis o (β.pb o) _ (by unfold blk; simp only [ho]) (hSM _ _ q), ?_⟩⟩
    obtain ⟨u, hu, hru⟩ := RepL.get k1 i hi
    refine ⟨u, ?_, h2 u (List.mem_of_getElem? hu), hru⟩
    rw [Nat.zero_add, hSW]
    refine (cell_of_row W _ i _ _ _ h1).trans ?_
    rw [List.getElem?_toArray, List.getElem?_append_left (List.getElem?_eq_some_iff.1 hu).1]; exact hu
  · trivial
theorem seen_rep (h : Objs F β os W) (l : List V) (vs : List Value) (hv : RepL (sit F β os W) l vs) : RepL (S0 (fun _ _ => False) W) (seen os l) vs := (seeL_rep (S' := S0 (fun _ _ => False) W) rfl (fun _ _ q => q.elim) h (seeP_rep (S' := S0 (fun _ _ => False) W) rfl (fun _ _ q => q.elim) h) (seeP_refs os) l vs hv).1
end
def BXD (P : Program) (f : FuncId) (raw : List V) (so : Nat → Option Ob) (r1 : V) (os1 : List (Nat × Ob)) : Prop :=
  (os1 = [] ∧ ∃ l, seen so raw = l ∧ Spec P f l r1 ∧ flatW r1 = true) ∨
  ∃ ρ args os r os', okρ ρ = true ∧ newOk so ρ ∧ cvtL so (bk ρ) raw = some args ∧ takeO so (bk ρ) ρ = some os ∧ SpecB P f args os r os' ∧ cvt (fun _ => none) (fw ρ) r = some r1 ∧ giveO (fw ρ) os' = some os1
inductive Fx where
  | none
  | some (ρ : Nat → V × List (Nat × Ob))
  /-- the new slices in these temporaries may be written -/
  | hot (l : List Nat)
def fixV (κ : Fx) (d : Option Nat) (r : V) (l : List (Nat × Ob)) : Prop := match κ with
  | .some ρ => ρ (d.getD 999999) = (r, l)
  | _ => True
theorem fixV_none (d : Option Nat) (r : V) (l : List (Nat × Ob)) : fixV .none d r l = True := rfl
theorem fixV_hot (q : List Nat) (d : Option Nat) (r : V) (l : List (Nat × Ob)) : fixV (.hot q) d r l = True := rfl
theorem fixV_some (ρ : Nat → V × List (Nat × Ob)) (d : Option Nat) (r : V) (l : List (Nat × Ob)) : fixV (.some ρ) d r l = (ρ (d.getD 999999) = (r, l)) := rfl
def memN : List Nat → Nat → Bool
  | [], _ => false
  | x :: l, n => if n = x then true else memN l n
def hotF (κ : Fx) (d : Option Nat) : Bool := match κ with
  | .hot l => (match d with | .some d => memN l d | .none => false)
  | _ => false
inductive Cb where
  | no
  | all
  | at (l : List Nat)
def bAt (cb : Cb) (d : Option Nat) : Bool := match cb with
  | .no => false
  | .all => true
  | .at l => (match d with | .some d => memN l d | .none => false)
theorem hotF_none (d : Option Nat) : hotF .none d = false := rfl
theorem hotF_some (ρ : Nat → V × List (Nat × Ob)) (d : Option Nat) : hotF (.some ρ) d = false := rfl
theorem hotF_hot (l : List Nat) (d : Nat) : hotF (.hot l) (some d) = memN l d := rfl
def BX (P : Program) (κ : Fx) (f : FuncId) (raw : List V) (s : St) (d : Option Nat) (K : St → Prop) : Prop :=
  ∃ r1 os1, BXD P f raw s.o r1 os1 ∧ fixV κ d r1 os1 ∧ K ⟨(s.put d r1).t, upL s.o os1⟩
section
variable {P : Program} {F : Env} {β : Bet} {so : Nat → Option Ob} {W : World}

theorem cvtO_kin {os : Nat → Option Ob} {g : Nat → Option Nat} {x y : Ob} (h : cvtO os g x = some y) : match x, y with
    | .box T c, .box T' c' => T' = T ∧ cvtL os g c = some c'
    | .arr k E r, .arr k' E' r' => k' = k ∧ E' = E ∧ r' = r
    | .map es, .map es' => es' = es
    | _, _ => False := by
  cases x with
  | box T c =>
    simp only [cvtO, Option.map_eq_some_iff] at h
    obtain ⟨m, h1, rfl⟩ := h
    exact ⟨rfl, h1⟩
  | arr k E r => simp only [cvtO, Option.some.injEq] at h; subst h; exact ⟨rfl, rfl, rfl⟩
  | map es => simp only [cvtO, Option.some.injEq] at h; subst h; rfl

theorem newOk_mem {os : Nat → Option Ob} {a b : Nat} : ∀ {ρ : List (Nat × Nat)}, newOk os ρ → (a, b) ∈ ρ → (match os b with | some _ => 1000000 ≤ a | none => b < 1000000)
  | (x, y) :: r, h, hm => by
    rcases List.mem_cons.1 hm with e | hm
    · injection e with e1 e2; subst e1; subst e2; exact h.1
    · exact newOk_mem h.2 hm

theorem bcall (h : Objs F β so W) (hcl : ∀ o T c, so o = some (.box T c) → ∀ r ∈ V.refsL c, RefOk so r) {ρ : List (Nat × Nat)} (hρ : okρ ρ = true) (hnew : newOk so ρ) {raw args : List V} {os : List (Nat × Ob)}
    (ha : cvtL so (bk ρ) raw = some args) (ht : takeO so (bk ρ) ρ = some os) {vs : List Value} (hv : RepL (sit F β so W) raw vs) {f : FuncId} {r : V} {os' : List (Nat × Ob)} (hs : SpecB P f args os r os')
    {r1 : V} {os1 : List (Nat × Ob)} (hr1 : cvt (fun _ => none) (fw ρ) r = some r1) (ho1 : giveO (fw ρ) os' = some os1) :
    Calls P f vs.toArray W fun e w' => ∃ v β', e = .returned v ∧ Objs F β' (upL so os1) w' ∧ Rep (sit F β' (upL so os1) w') r1 v ∧ (∀ x u, (∀ q ∈ x.refs, RefOk so q) → Rep (sit F β so W) x u → Rep (sit F β' (upL so os1) w') x u) ∧
      (∀ q, RefOk so q → RefOk (upL so os1) q) ∧ (∀ o T c, upL so os1 o = some (.box T c) → ∀ q ∈ V.refsL c, RefOk (upL so os1) q) ∧ (∀ q ∈ r1.refs, RefOk (upL so os1) q) ∧ (∀ (D : Nat) q, W.heap[D]? = some (.deferred q) → w'.heap[D]? = some (.deferred q)) ∧ W.heap.size ≤ w'.heap.size := by
  have fb : ∀ a b, fw ρ a = some b ↔ bk ρ b = some a := fun a b => fw_bk hρ
  -- the callee's objects
  have tk : ∀ a b, fw ρ a = some b → (∀ x, so b = some x → lko os a = cvtO so (bk ρ) x) ∧ (so b = none → lko os a = none) := fun a b q => by
    refine ⟨fun x hx => ?_, fun hx => takeO_none hρ ht a b q hx⟩
    have := takeO_some ht a
    rw [q] at this; simp only [hx] at this; exact this
  have tkn : ∀ a, fw ρ a = none → lko os a = none := fun a q => by have := takeO_some ht a; rw [q] at this; exact this
  have tks : ∀ a y, lko os a = some y → ∃ b x, fw ρ a = some b ∧ so b = some x ∧ cvtO so (bk ρ) x = some y := fun a y q => by
    cases hf : fw ρ a with
    | none => rw [tkn a hf] at q; cases q
    | some b =>
      cases hx : so b with
      | none => rw [(tk a b hf).2 hx] at q; cases q
      | some x => exact ⟨b, x, rfl, hx, by rw [← (tk a b hf).1 x hx]; exact q⟩
  have cvtOs : ∀ {b x}, (∃ a, bk ρ b = some a) → so b = some x → ∃ y, cvtO so (bk ρ) x = some y := fun {b x} ⟨a, q⟩ hx => by
    have hf := (fb a b).2 q
    have e : takeO so (bk ρ) ρ = some os := ht
    have key : ∀ (l : List (Nat × Nat)) (l' : List (Nat × Ob)), takeO so (bk ρ) l = some l' → (a, b) ∈ l → ∃ y, cvtO so (bk ρ) x = some y := by
      intro l
      induction l with
      | nil => intro l' _ hm; cases hm
      | cons p r ih =>
        obtain ⟨p1, p2⟩ := p
        intro l' h1 hm
        simp only [takeO] at h1
        rcases List.mem_cons.1 hm with e | hm
        · injection e with e1 e2; subst e1; subst e2
          rw [hx] at h1
          simp only at h1
          split at h1
          · rename_i y l0 q1 q2; exact ⟨y, q1⟩
          · cases h1
        · split at h1
          · split at h1
            · rename_i q1 q2; exact ih _ q2 hm
            · cases h1
          · exact ih _ h1 hm
    exact key ρ os e (fw_mem hf)
  let βe : Bet := ⟨fun a => match fw ρ a with | some b => β.pb b | none => 0, fun a => match fw ρ a with | some b => β.sv b | none => undef⟩
  let so' : Nat → Option Ob := fun b => match bk ρ b with | some _ => none | none => so b
  let L' : List Nat := ρ.filterMap fun p => blk β so p.2
  let E : Env := ⟨W, L', Mut F β so', 0, lko os, βe, fun b p => ¬ Mut F β so b p, 0⟩
  have pbe : ∀ a b, fw ρ a = some b → βe.pb a = β.pb b ∧ βe.sv a = β.sv b := fun a b q => by
    constructor
    · show (match fw ρ a with | some b => β.pb b | none => 0) = _; rw [q]
    · show (match fw ρ a with | some b => β.sv b | none => undef) = _; rw [q]
  have so'n : ∀ b, bk ρ b = none → so' b = so b := fun b q => by show (match bk ρ b with | some _ => none | none => so b) = _; rw [q]
  have so's : ∀ b a, bk ρ b = some a → so' b = none := fun b a q => by show (match bk ρ b with | some _ => none | none => so b) = _; rw [q]
  have so'some : ∀ b x, so' b = some x → bk ρ b = none ∧ so b = some x := fun b x q => by
    cases hb : bk ρ b with
    | none => rw [so'n b hb] at q; exact ⟨rfl, q⟩
    | some a => rw [so's b a hb] at q; cases q
  have blke : ∀ a b, fw ρ a = some b → blk βe (lko os) a = blk β so b := fun a b q => by
    obtain ⟨e1, e2⟩ := pbe a b q
    unfold blk
    cases hx : so b with
    | none => rw [(tk a b q).2 hx]
    | some x =>
      obtain ⟨y, hy⟩ := cvtOs ⟨a, (fb a b).1 q⟩ hx
      rw [(tk a b q).1 x hx, hy]
      have := cvtO_kin hy
      cases x <;> cases y <;> first | exact this.elim | (simp only [e1, e2])
  have blkn : ∀ a, fw ρ a = none → blk βe (lko os) a = none := fun a q => by unfold blk; rw [tkn a q]
  have mutE : ∀ b p, Mut E βe (lko os) b p ↔ Mut F β so b p := fun b p => by
    constructor
    · rintro (q | ⟨a, T, c, q1, q2⟩ | ⟨a, k, T, rows, q1, q2, q3⟩)
      · rcases q with q | ⟨o, T, c, q1, q2⟩ | ⟨o, k, T, rows, q1, q2, q3⟩
        · exact .inl q
        · exact .inr (.inl ⟨o, T, c, (so'some _ _ q1).2, q2⟩)
        · exact .inr (.inr ⟨o, k, T, rows, (so'some _ _ q1).2, q2, q3⟩)
      · obtain ⟨o, x, h1, h2, h3⟩ := tks a _ q1
        have := cvtO_kin h3
        cases x with
        | box T' c' => exact .inr (.inl ⟨o, T', c', h2, by rw [← (pbe a o h1).1]; exact q2⟩)
        | arr _ _ _ => exact this.elim
        | map _ => exact this.elim
      · obtain ⟨o, x, h1, h2, h3⟩ := tks a _ q1
        have := cvtO_kin h3
        cases x with
        | box T' c' => exact this.elim
        | map _ => exact this.elim
        | arr k' E' r' =>
          obtain ⟨e1, e2, e3⟩ := this
          subst e1; subst e2; subst e3
          exact .inr (.inr ⟨o, _, _, _, h2, by rw [← (pbe a o h1).2]; exact q2, (room_congr (okρ_prv hρ h1)).1 q3⟩)
    · rintro (q | ⟨o, T, c, q1, q2⟩ | ⟨o, k, T, rows, q1, q2, q3⟩)
      · exact .inl (.inl q)
      · cases hb : bk ρ o with
        | none => exact .inl (.inr (.inl ⟨o, T, c, by rw [so'n o hb]; exact q1, q2⟩))
        | some a =>
          have hf := (fb a o).2 hb
          obtain ⟨y, hy⟩ := cvtOs ⟨a, hb⟩ q1
          have hk := cvtO_kin hy
          cases y with
          | box T' c' => exact .inr (.inl ⟨a, T', c', by rw [(tk a o hf).1 _ q1, hy], by rw [(pbe a o hf).1]; exact q2⟩)
          | arr _ _ _ => exact hk.elim
          | map _ => exact hk.elim
      · cases hb : bk ρ o with
        | none => exact .inl (.inr (.inr ⟨o, k, T, rows, by rw [so'n o hb]; exact q1, q2, q3⟩))
        | some a =>
          have hf := (fb a o).2 hb
          exact .inr (.inr ⟨a, k, T, rows, by rw [(tk a o hf).1 _ q1]; rfl, by rw [(pbe a o hf).2]; exact q2, (room_congr (okρ_prv hρ hf)).2 q3⟩)
  have svE : ∀ a b, fw ρ a = some b → ∀ n u, svOf βe (lko os) a n = some u → svOf β so b n = some u := fun a b q n u hu => by
    unfold svOf at hu ⊢
    split at hu
    · rename_i k T rows ho
      obtain ⟨o, x, h1, h2, h3⟩ := tks a _ ho
      rw [q] at h1; injection h1 with h1; subst h1
      have := cvtO_kin h3
      cases x with
      | box T' c' => exact this.elim
      | map _ => exact this.elim
      | arr k' E' r' =>
        obtain ⟨e1, e2, e3⟩ := this
        subst e1; subst e2; subst e3
        rw [h2]; rw [(pbe a b q).2] at hu; exact hu
    · cases hu
  have cv1 : Cvt so (bk ρ) (sit F β so W) (sit E βe (lko os) W) := by
    refine ⟨fun b p c q1 q2 => ⟨fun q => q1 ((mutE b p).1 q), q2⟩, fun o a q => ?_, fun o k T rows v ho hs hr => ?_⟩
    · have hf := (fb a o).2 q
      exact ⟨(pbe a o hf).1, svE a o hf⟩
    · have hve : v = β.sv o := hr.2 (β.sv o) (by show svOf _ _ o _ = _; unfold svOf; simp only [ho, if_true])
      subst hve
      exact Rep.clean (S := sit F β so W) (S' := sit E βe (lko os) W) (fun b p c q1 q2 => ⟨fun q => q1 ((mutE b p).1 q), q2⟩) rfl (h.lie ho hs)
  have memL : ∀ a b c, fw ρ a = some b → blk β so b = some c → c ∈ L' := fun a b c q1 q2 => List.mem_filterMap.2 ⟨(a, b), fw_mem q1, q2⟩
  have Lmem : ∀ c, c ∈ L' → ∃ a b, fw ρ a = some b ∧ blk β so b = some c := fun c hc => by
    obtain ⟨⟨a, b⟩, h1, h2⟩ := List.mem_filterMap.1 hc
    have : ∀ {l : List (Nat × Nat)}, (a, b) ∈ l → bk l b ≠ none := by
      intro l
      induction l with
      | nil => intro q; cases q
      | cons p r ih =>
        obtain ⟨p1, p2⟩ := p
        intro q
        unfold bk
        rcases List.mem_cons.1 q with e | q
        · injection e with e1 e2; subst e1; subst e2; simp
        · split
          · simp
          · exact ih q
    cases hb : bk ρ b with
    | none => exact absurd hb (this h1)
    | some a' => exact ⟨a', b, (fb a' b).2 hb, h2⟩
  have objE : Objs E βe (lko os) W := by
    refine ⟨⟨Chg.refl _ _, fun b p q => ?_, fun a b p q => ?_, fun a q => ?_, Nat.zero_le _, fun a => Kin.refl _ _ _, fun b p c q1 q2 => ⟨fun q => q1 ((mutE b p).1 q), q2⟩, ⟨h.base.gcNow.1, h.base.gcNow.2⟩, (fun a q => by
      cases hf : fw ρ a with
      | none => rw [blkn a hf] at q; cases q
      | some o => rw [blke a o hf] at q; exact h.base.tab.1 o q), (fun q => by
      obtain ⟨a, b, _, z⟩ := Lmem _ q
      exact h.base.tab.1 b z)⟩, fun a T c q => ?_, fun a k T rows q => ?_, fun a a' b q1 q2 => ?_, fun a es q => ?_⟩
    · exact h.mut_lt (less_mut (fun o => by
        cases hb : bk ρ o with
        | none => exact .inr (so'n o hb)
        | some x => exact .inl (so's o x hb)) b p q)
    · cases hf : fw ρ a with
      | none => rw [blkn a hf] at q; cases q
      | some o =>
        rw [blke a o hf] at q
        have hbo := (fb a o).1 hf
        rintro (z | ⟨o2, T, c, z1, z2⟩ | ⟨o2, k, T, rows, z1, z2, _⟩)
        · exact h.base.dis o b p q z
        · obtain ⟨y1, y2⟩ := so'some _ _ z1
          have := h.inj o2 o b (by unfold blk; simp only [y2, z2]) q
          subst this; rw [hbo] at y1; cases y1
        · obtain ⟨y1, y2⟩ := so'some _ _ z1
          have := h.inj o2 o b (by unfold blk; simp only [y2, z2]) q
          subst this; rw [hbo] at y1; cases y1
    · cases hx : lko os a with
      | none => exact absurd hx q
      | some y =>
        obtain ⟨b, x, h1, h2, h3⟩ := tks a y hx
        have := newOk_mem hnew (fw_mem h1)
        rw [h2] at this; exact this
    · obtain ⟨o, x, h1, h2, h3⟩ := tks a _ q
      have hk := cvtO_kin h3
      cases x with
      | arr _ _ _ => exact hk.elim
      | map _ => exact hk.elim
      | box T' c' =>
        obtain ⟨e1, e2⟩ := hk
        subst e1
        obtain ⟨g1, cs, rs, g2, g3, g4⟩ := h.box o _ c' h2
        rw [← (pbe a o h1).1] at g2
        exact ⟨.inl (memL a o _ h1 (by unfold blk; simp only [h2, (pbe a o h1).1])), cs, rs, g2, g3, (cvtL_rep cv1 c' c cs e2 g4).1⟩
    · obtain ⟨o, x, h1, h2, h3⟩ := tks a _ q
      have hk := cvtO_kin h3
      cases x with
      | box _ _ => exact hk.elim
      | map _ => exact hk.elim
      | arr k' E' r' =>
        obtain ⟨e1, e2, e3⟩ := hk
        subst e1; subst e2; subst e3
        obtain ⟨g1, g2, g0, xs, g3, g4, g5⟩ := h.arr o _ _ _ h2
        have e := (pbe a o h1).2
        refine ⟨g1, g2, fun b hb => .inl (memL a o b h1 ?_), xs, by rw [e]; exact g3, g4, ?_⟩
        · unfold blk; simp only [h2]; rw [e] at hb; exact hb
        · exact RepL.mono (S := sit F β so W) (S' := sit E βe (lko os) W) cv1.m _ _ (by rw [clean_flat g2]; simp) g5
    · cases hf : fw ρ a with
      | none => rw [blkn a hf] at q1; cases q1
      | some o =>
        cases hf' : fw ρ a' with
        | none => rw [blkn a' hf'] at q2; cases q2
        | some o' =>
          rw [blke a o hf] at q1; rw [blke a' o' hf'] at q2
          have := h.inj o o' b q1 q2
          subst this
          have h1 := (fb a o).1 hf
          have h2 := (fb a' o).1 hf'
          rw [h1] at h2; injection h2
    · obtain ⟨o, x, h1, h2, h3⟩ := tks a _ q
      have hk := cvtO_kin h3
      cases x <;> first | exact hk.elim | skip
      have hk : es = _ := hk
      subst hk
      obtain ⟨g1, g2, vs', g3, g4⟩ := h.map o _ h2
      refine ⟨.inl (memL a o _ h1 (by unfold blk; simp only [h2, (pbe a o h1).1])), g2, vs', by rw [(pbe a o h1).1]; exact g3, ?_⟩
      exact RepL.mono (S := sit F β so W) (S' := sit E βe (lko os) W) cv1.m _ _ (by rw [g2]; simp) g4
  have hargs := (cvtL_rep cv1 raw args vs ha hv).1
  refine Calls.mono (hs.run (Mut F β so') L' (fun b p => ¬ Mut F β so b p) βe W vs objE hargs) ?_
  rintro e w' ⟨v, β1, rfl, hO, hR⟩
  have hO : Objs E β1 (lko os') w' := hO
  have hR : Rep (sit E β1 (lko os') w') r v := hR
  -- the caller's objects
  let s1 : Nat → Option Ob := upL so os1
  let β2 : Bet := ⟨fun b => match bk ρ b with | some a => β1.pb a | none => β.pb b, fun b => match bk ρ b with | some a => β1.sv a | none => β.sv b⟩
  have pb2 : ∀ b a, bk ρ b = some a → β2.pb b = β1.pb a ∧ β2.sv b = β1.sv a := fun b a q => by
    constructor
    · show (match bk ρ b with | some a => β1.pb a | none => β.pb b) = _; rw [q]
    · show (match bk ρ b with | some a => β1.sv a | none => β.sv b) = _; rw [q]
  have pb2n : ∀ b, bk ρ b = none → β2.pb b = β.pb b ∧ β2.sv b = β.sv b := fun b q => by
    constructor
    · show (match bk ρ b with | some a => β1.pb a | none => β.pb b) = _; rw [q]
    · show (match bk ρ b with | some a => β1.sv a | none => β.sv b) = _; rw [q]
  have gv := giveO_some fb ho1
  have s1n : ∀ b, bk ρ b = none → s1 b = so b := fun b q => by
    show upL so os1 b = _
    rw [upL_eq, (gv b).1, q]
  have gvs : ∀ a x', lko os' a = some x' → ∃ b y, fw ρ a = some b ∧ cvtO (fun _ => none) (fw ρ) x' = some y ∧ s1 b = some y := fun a x' q => by
    cases hf : fw ρ a with
    | none => exact absurd hf ((gv 0).2 a x' q)
    | some b =>
      have key : ∀ (l : List (Nat × Ob)) (l' : List (Nat × Ob)), giveO (fw ρ) l = some l' → lko l a = some x' → ∃ y, cvtO (fun _ => none) (fw ρ) x' = some y := by
        intro l
        induction l with
        | nil => intro l' _ hm; cases hm
        | cons p r ih =>
          obtain ⟨p1, p2⟩ := p
          intro l' h1 hm
          simp only [giveO] at h1
          split at h1
          · rename_i q1 q2 q3
            unfold lko at hm
            split at hm
            · injection hm with hm; subst hm; exact ⟨_, q2⟩
            · exact ih _ q3 hm
          · cases h1
      obtain ⟨y, hy⟩ := key os' os1 ho1 q
      refine ⟨b, y, rfl, hy, ?_⟩
      show upL so os1 b = _
      rw [upL_eq, (gv b).1, (fb a b).1 hf]
      simp only [q, hy]
  have s1s : ∀ b a, bk ρ b = some a → (lko os' a = none → s1 b = none) ∧ (∀ y, s1 b = some y → ∃ x', lko os' a = some x' ∧ cvtO (fun _ => none) (fw ρ) x' = some y) := fun b a q => by
    have hn : lko os' a = none → s1 b = none := fun hx => by
      show upL so os1 b = _
      rw [upL_eq, (gv b).1, q]
      simp only [hx]
      cases hso : so b with
      | none => rfl
      | some x =>
        exfalso
        have hf := (fb a b).2 q
        obtain ⟨y, hy⟩ := cvtOs ⟨a, q⟩ hso
        exact hs.dom a (by rw [(tk a b hf).1 x hso, hy]; simp) hx
    refine ⟨hn, fun y hy => ?_⟩
    cases hx : lko os' a with
    | none => rw [hn hx] at hy; cases hy
    | some x' =>
      refine ⟨x', rfl, ?_⟩
      obtain ⟨b', y', k1, k2, k3⟩ := gvs a x' hx
      have : b' = b := by rw [(fb a b).2 q] at k1; injection k1 with k1; exact k1.symm
      subst this
      rw [hy] at k3; injection k3 with k3; rw [k3]; exact k2
  have mut2 : ∀ b p, Mut F β2 s1 b p ↔ Mut E β1 (lko os') b p := fun b p => by
    constructor
    · rintro (q | ⟨o, T, c, q1, q2⟩ | ⟨o, k, T, rows, q1, q2, q3⟩)
      · exact .inl (.inl q)
      · cases hb : bk ρ o with
        | none => exact .inl (.inr (.inl ⟨o, T, c, by rw [so'n o hb, ← s1n o hb]; exact q1, by rw [← (pb2n o hb).1]; exact q2⟩))
        | some a =>
          obtain ⟨x', k1, k2⟩ := (s1s o a hb).2 _ q1
          have hk := cvtO_kin k2
          cases x' with
          | arr _ _ _ => exact hk.elim
          | map _ => exact hk.elim
          | box T' c' => exact .inr (.inl ⟨a, T', c', k1, by rw [← (pb2 o a hb).1]; exact q2⟩)
      · cases hb : bk ρ o with
        | none => exact .inl (.inr (.inr ⟨o, k, T, rows, by rw [so'n o hb, ← s1n o hb]; exact q1, by rw [← (pb2n o hb).2]; exact q2, q3⟩))
        | some a =>
          obtain ⟨x', k1, k2⟩ := (s1s o a hb).2 _ q1
          have hk := cvtO_kin k2
          cases x' with
          | box _ _ => exact hk.elim
          | map _ => exact hk.elim
          | arr k' E' r' =>
            obtain ⟨e1, e2, e3⟩ := hk
            subst e1; subst e2; subst e3
            exact .inr (.inr ⟨a, _, _, _, k1, by rw [← (pb2 o a hb).2]; exact q2, (room_congr (okρ_prv hρ ((fb a o).2 hb))).2 q3⟩)
    · rintro (q | ⟨a, T, c, q1, q2⟩ | ⟨a, k, T, rows, q1, q2, q3⟩)
      · rcases q with q | ⟨o, T, c, q1, q2⟩ | ⟨o, k, T, rows, q1, q2, q3⟩
        · exact .inl q
        · obtain ⟨y1, y2⟩ := so'some _ _ q1
          exact .inr (.inl ⟨o, T, c, by rw [s1n o y1]; exact y2, by rw [(pb2n o y1).1]; exact q2⟩)
        · obtain ⟨y1, y2⟩ := so'some _ _ q1
          exact .inr (.inr ⟨o, k, T, rows, by rw [s1n o y1]; exact y2, by rw [(pb2n o y1).2]; exact q2, q3⟩)
      · obtain ⟨o, y, k1, k2, k3⟩ := gvs a _ q1
        have hk := cvtO_kin k2
        cases y with
        | arr _ _ _ => exact hk.elim
        | map _ => exact hk.elim
        | box T' c' => exact .inr (.inl ⟨o, T', c', k3, by rw [(pb2 o a ((fb a o).1 k1)).1]; exact q2⟩)
      · obtain ⟨o, y, k1, k2, k3⟩ := gvs a _ q1
        have hk := cvtO_kin k2
        cases y with
        | box _ _ => exact hk.elim
        | map _ => exact hk.elim
        | arr k' E' r' =>
          obtain ⟨e1, e2, e3⟩ := hk
          subst e1; subst e2; subst e3
          exact .inr (.inr ⟨o, _, _, _, k3, by rw [(pb2 o a ((fb a o).1 k1)).2]; exact q2, (room_congr (okρ_prv hρ k1)).1 q3⟩)
  have hC : ∀ b p c, ¬ Mut F β so b p → W.cell? ⟨b, p, none⟩ = some c → ¬ Mut F β2 s1 b p ∧ w'.cell? ⟨b, p, none⟩ = some c := fun b p c q1 q2 => by
    obtain ⟨k1, k2⟩ := hO.base.frz b p c q1 q2
    exact ⟨fun q => k1 ((mut2 b p).1 q), k2⟩
  -- an object then and now
  have kin : ∀ b, s1 b = none ∨ (so b = none ∧ b < 1000000) ∨ (so b ≠ none ∧ Kin β β2 b (so b) (s1 b)) := fun b => by
    cases hb : bk ρ b with
    | none =>
      rw [s1n b hb]
      cases hx : so b with
      | none => exact .inl rfl
      | some x =>
        refine .inr (.inr ⟨by simp, ?_⟩)
        obtain ⟨e1, e2⟩ := pb2n b hb
        cases x with
        | box T c => exact ⟨rfl, e1⟩
        | map es => exact e1
        | arr k E r => exact ⟨rfl, rfl, Nat.le_refl _, fun _ => e2⟩
    | some a =>
      have hf := (fb a b).2 hb
      cases hx : so b with
      | none =>
        have := newOk_mem hnew (fw_mem hf)
        rw [hx] at this; exact .inr (.inl ⟨rfl, this⟩)
      | some x =>
        refine .inr (.inr ⟨by simp, ?_⟩)
        obtain ⟨y, hy⟩ := cvtOs ⟨a, hb⟩ hx
        have hla : lko os a = some y := by rw [(tk a b hf).1 x hx, hy]
        have hk : Kin βe β1 a (lko os a) (lko os' a) := hO.base.kin a
        rw [hla] at hk
        cases hl' : lko os' a with
        | none => exact absurd hl' (hs.dom a (by rw [hla]; simp))
        | some x' =>
          rw [hl'] at hk
          obtain ⟨b', y', k1, k2, k3⟩ := gvs a x' hl'
          have : b' = b := by rw [hf] at k1; injection k1 with k1; exact k1.symm
          subst this
          rw [k3]
          have c1 := cvtO_kin hy
          have c2 := cvtO_kin k2
          obtain ⟨p1, p2⟩ := pb2 b' a hb
          obtain ⟨p3, p4⟩ := pbe a b' hf
          cases x with
          | box T c =>
            cases y with
            | arr _ _ _ => exact c1.elim
            | map _ => exact c1.elim
            | box T1 c1' =>
              cases x' with
              | arr _ _ _ => exact hk.elim
              | map _ => exact hk.elim
              | box T2 c2' =>
                cases y' with
                | arr _ _ _ => exact c2.elim
                | map _ => exact c2.elim
                | box T3 c3' => exact ⟨by rw [c2.1, hk.1, c1.1], by rw [p1, hk.2, p3]⟩
          | map es0 =>
            cases y <;> first | exact c1.elim | skip
            cases x' <;> first | exact hk.elim | skip
            cases y' <;> first | exact c2.elim | skip
            have hk : β1.pb a = βe.pb a := hk
            show β2.pb b' = β.pb b'
            rw [p1, hk, p3]
          | arr k0 E0 r0 =>
            cases y with
            | box _ _ => exact c1.elim
            | map _ => exact c1.elim
            | arr k1' E1 r1' =>
              cases x' with
              | box _ _ => exact hk.elim
              | map _ => exact hk.elim
              | arr k2' E2 r2' =>
                cases y' with
                | box _ _ => exact c2.elim
                | map _ => exact c2.elim
                | arr k3' E3 r3' =>
                  obtain ⟨a1, a2, a3⟩ := c1
                  obtain ⟨b1, b2, b3⟩ := c2
                  obtain ⟨d1, d2, d3, d4⟩ := hk
                  subst a3; subst b3
                  exact ⟨by rw [b1, d1, a1], by rw [b2, d2, a2], d3, fun q => by rw [p2, d4 q, p4]⟩
  have hRef : ∀ q, RefOk so q → RefOk s1 q ∧ SameRef (sit F β so W) (sit F β2 s1 w') q := by
    have nn : ∀ b, so b ≠ none → s1 b ≠ none := fun b hb q => by
      cases hbk : bk ρ b with
      | none => rw [s1n b hbk] at q; exact hb q
      | some a =>
        have hf := (fb a b).2 hbk
        cases hx : so b with
        | none => exact hb hx
        | some x =>
          obtain ⟨y, hy⟩ := cvtOs ⟨a, hbk⟩ hx
          have hla : lko os a = some y := by rw [(tk a b hf).1 x hx, hy]
          cases hl' : lko os' a with
          | none => exact hs.dom a (by rw [hla]; simp) hl'
          | some x' =>
            obtain ⟨b', y', k1, k2, k3⟩ := gvs a x' hl'
            have : b' = b := by rw [hf] at k1; injection k1 with k1; exact k1.symm
            subst this
            rw [q] at k3; cases k3
    rintro ⟨b, _ | n⟩ hq
    · obtain ⟨z, hq, hp⟩ := hq
      have hne := nn b (by rw [hq]; simp)
      rcases kin b with k | ⟨k, _⟩ | ⟨_, k⟩
      · exact absurd k hne
      · rw [hq] at k; cases k
      · rw [hq] at k
        cases hs1 : s1 b with
        | none => exact absurd hs1 hne
        | some y =>
          rw [hs1] at k
          cases z with
          | arr _ _ _ => cases hp
          | map es =>
            cases y <;> first | exact k.elim | skip
            exact ⟨⟨_, hs1, rfl⟩, k⟩
          | box T c =>
            cases y <;> first | exact k.elim | skip
            exact ⟨⟨_, hs1, rfl⟩, k.2⟩
    · obtain ⟨k0, E0, rows, hq, hn⟩ := hq
      have hne := nn b (by rw [hq]; simp)
      rcases kin b with k | ⟨k, _⟩ | ⟨_, k⟩
      · exact absurd k hne
      · rw [hq] at k; cases k
      · rw [hq] at k
        cases hs1 : s1 b with
        | none => exact absurd hs1 hne
        | some y =>
          rw [hs1] at k
          cases y with
          | box _ _ => exact k.elim
          | map _ => exact k.elim
          | arr k' E' r' =>
            refine ⟨⟨k', E', r', hs1, Nat.le_trans hn k.2.2.1⟩, fun u hu => ?_⟩
            have hu : svOf β2 s1 b n = some u := hu
            show svOf β so b n = some u
            unfold svOf at hu ⊢
            simp only [hs1] at hu
            simp only [hq]
            split at hu
            · rename_i e
              injection hu with hu
              have e2 : r'.length = rows.length := by have := k.2.2.1; omega
              rw [if_pos (by omega), ← k.2.2.2 e2, hu]
            · cases hu
  have move : ∀ x u, (∀ q ∈ x.refs, RefOk so q) → Rep (sit F β so W) x u → Rep (sit F β2 s1 w') x u := fun x u hx hxu =>
    Rep.mono (S := sit F β so W) (S' := sit F β2 s1 w') hC x u (fun q hq => (hRef q (hx q hq)).2) hxu
  have moveL : ∀ x u, (∀ q ∈ V.refsL x, RefOk so q) → RepL (sit F β so W) x u → RepL (sit F β2 s1 w') x u := fun x u hx hxu =>
    RepL.mono (S := sit F β so W) (S' := sit F β2 s1 w') hC x u (fun q hq => (hRef q (hx q hq)).2) hxu
  have cv2 : Cvt (fun _ => none) (fw ρ) (sit E β1 (lko os') w') (sit F β2 s1 w') := by
    refine ⟨fun b p c q1 q2 => ⟨fun q => q1 ((mut2 b p).1 q), q2⟩, fun a b q => ?_, fun o k T rows v ho => by cases ho⟩
    have hbk := (fb a b).1 q
    refine ⟨(pb2 b a hbk).1, fun n u hu => ?_⟩
    have hu : svOf β2 s1 b n = some u := hu
    show svOf β1 (lko os') a n = some u
    unfold svOf at hu ⊢
    split at hu
    · rename_i k T rows ho
      obtain ⟨x', k1, k2⟩ := (s1s b a hbk).2 _ ho
      have hk := cvtO_kin k2
      cases x' with
      | box _ _ => exact hk.elim
      | map _ => exact hk.elim
      | arr k' E' r' =>
        obtain ⟨e1, e2, e3⟩ := hk
        subst e1; subst e2; subst e3
        rw [k1]; rw [(pb2 b a hbk).2] at hu; exact hu
    · cases hu
  have ref2 : ∀ a b n, fw ρ a = some b → RefOk (lko os') (a, n) → RefOk s1 (b, n) := fun a b n hf hq => by
    cases n with
    | none =>
      obtain ⟨z, hq, hp⟩ := hq
      obtain ⟨b', y, k1, k2, k3⟩ := gvs a _ hq
      have : b' = b := by rw [hf] at k1; injection k1 with k1; exact k1.symm
      subst this
      have hk := cvtO_kin k2
      refine ⟨y, k3, ?_⟩
      cases z <;> cases y <;> first | exact hk.elim | exact hp | rfl
    | some n =>
      obtain ⟨k, T, rows, hq, hn⟩ := hq
      obtain ⟨b', y, k1, k2, k3⟩ := gvs a _ hq
      have : b' = b := by rw [hf] at k1; injection k1 with k1; exact k1.symm
      subst this
      have hk := cvtO_kin k2
      cases y with
      | box _ _ => exact hk.elim
      | map _ => exact hk.elim
      | arr k' E' r' =>
        obtain ⟨e1, e2, e3⟩ := hk
        subst e1; subst e2; subst e3
        exact ⟨_, _, _, k3, hn⟩
  have refs2 : ∀ (x y : V), (∀ q ∈ x.refs, RefOk (lko os') q) → (∀ q ∈ y.refs, ∃ a, fw ρ a = some q.1 ∧ (a, q.2) ∈ x.refs) → ∀ q ∈ y.refs, RefOk s1 q := fun x y h1 h2 q hq => by
    obtain ⟨a, k1, k2⟩ := h2 q hq
    obtain ⟨b, n⟩ := q
    exact ref2 a b n k1 (h1 _ k2)
  have blk2 : ∀ b a, bk ρ b = some a → blk β2 s1 b = blk β1 (lko os') a := fun b a hb => by
    obtain ⟨e1, e2⟩ := pb2 b a hb
    unfold blk
    cases hl : lko os' a with
    | none => rw [(s1s b a hb).1 hl]
    | some x' =>
      obtain ⟨b', y, k1, k2, k3⟩ := gvs a x' hl
      have : b' = b := by rw [(fb a b).2 hb] at k1; injection k1 with k1; exact k1.symm
      subst this
      rw [k3]
      have hk := cvtO_kin k2
      cases x' <;> cases y <;> first | exact hk.elim | (simp only [e1, e2])
  have blk2n : ∀ b, bk ρ b = none → blk β2 s1 b = blk β so b := fun b hb => by
    obtain ⟨e1, e2⟩ := pb2n b hb
    unfold blk
    rw [s1n b hb]
    cases so b with
    | none => rfl
    | some x => cases x <;> simp only [e1, e2]
  have locE : ∀ a c, blk β1 (lko os') a = some c → c ∈ L' ∨ W.heap.size ≤ c := fun a c hc => by
    unfold blk at hc
    split at hc
    · rename_i T x ho
      injection hc with hc; subst hc
      exact (hO.box a T x ho).1
    · rename_i k T rows ho
      exact (hO.arr a k T rows ho).2.2.1 c hc
    · rename_i es ho
      injection hc with hc; subst hc
      exact (hO.map a es ho).1
    · cases hc
  have locF : ∀ o c, blk β so o = some c → c ∈ F.L ∨ F.w0.heap.size ≤ c := fun o c hc => by
    unfold blk at hc
    split at hc
    · rename_i T x ho
      injection hc with hc; subst hc
      exact (h.box o T x ho).1
    · rename_i k T rows ho
      exact (h.arr o k T rows ho).2.2.1 c hc
    · rename_i es ho
      injection hc with hc; subst hc
      exact (h.map o es ho).1
    · cases hc
  have loc2 : ∀ b c, blk β2 s1 b = some c → c ∈ F.L ∨ F.w0.heap.size ≤ c := fun b c hc => by
    cases hb : bk ρ b with
    | none => rw [blk2n b hb] at hc; exact locF b c hc
    | some a =>
      rw [blk2 b a hb] at hc
      rcases locE a c hc with q | q
      · obtain ⟨a', b', k1, k2⟩ := Lmem c q; exact locF b' c k2
      · exact .inr (Nat.le_trans h.chg.size q)
  have hchg : Chg F.L F.w0 w' := h.chg.then hO.base.chg (fun i hi hlt => by
    obtain ⟨a', b', k1, k2⟩ := Lmem i hi
    rcases locF b' i k2 with q | q
    · exact q
    · omega)
  have notL : ∀ b c, bk ρ b = none → blk β so b = some c → c ∉ L' := fun b c hb hc q => by
    obtain ⟨a', b', k1, k2⟩ := Lmem c q
    have := h.inj b b' c hc k2
    subst this
    have := (fb a' b).1 k1
    rw [hb] at this; cases this
  have O2 : Objs F β2 s1 w' := by
    refine ⟨h.base.step hchg (fun b c hc => ?_) kin hC, fun b T c hb1 => ?_, fun b k T rows hb1 => ?_, fun b b' c q1 q2 => ?_, fun b es hb1 => ?_⟩
    · cases hb : bk ρ b with
      | none => rw [blk2n b hb] at hc; exact .inl ⟨b, hc⟩
      | some a =>
        rw [blk2 b a hb] at hc
        rcases locE a c hc with q | q
        · obtain ⟨a', b', k1, k2⟩ := Lmem c q; exact .inl ⟨b', k2⟩
        · exact .inr q
    · refine ⟨loc2 b _ (by unfold blk; simp only [hb1]), ?_⟩
      cases hb : bk ρ b with
      | none =>
        rw [s1n b hb] at hb1
        obtain ⟨g1, cs, rs, g2, g3, g4⟩ := h.box b T c hb1
        rw [(pb2n b hb).1]
        exact ⟨cs, rs, hO.base.chg.heap g2 (notL b _ hb (by unfold blk; simp only [hb1])), g3, moveL c cs (hcl b T c hb1) g4⟩
      | some a =>
        obtain ⟨x', k1, k2⟩ := (s1s b a hb).2 _ hb1
        have hk := cvtO_kin k2
        cases x' with
        | arr _ _ _ => exact hk.elim
        | map _ => exact hk.elim
        | box T' c' =>
          obtain ⟨e1, e2⟩ := hk
          subst e1
          obtain ⟨g1, cs, rs, g2, g3, g4⟩ := hO.box a _ c' k1
          rw [(pb2 b a hb).1]
          exact ⟨cs, rs, g2, g3, (cvtL_rep cv2 c' c cs e2 g4).1⟩
    · have hloc := fun c hc => loc2 b c (by unfold blk; simp only [hb1]; exact hc)
      cases hb : bk ρ b with
      | none =>
        rw [s1n b hb] at hb1
        obtain ⟨g1, g2, g0, xs, g3, g4, g5⟩ := h.arr b k T rows hb1
        rw [(pb2n b hb).2] at hloc ⊢
        refine ⟨g1, g2, hloc, xs, ownK_keep g3 hO.base.chg (fun j hj => notL b j hb ?_), g4, moveL _ xs (by rw [clean_flat g2]; simp) g5⟩
        unfold blk; simp only [hb1]; simpa [own] using hj
      | some a =>
        obtain ⟨x', k1, k2⟩ := (s1s b a hb).2 _ hb1
        have hk := cvtO_kin k2
        cases x' with
        | box _ _ => exact hk.elim
        | map _ => exact hk.elim
        | arr k' E' r' =>
          obtain ⟨e1, e2, e3⟩ := hk
          subst e1; subst e2; subst e3
          obtain ⟨g1, g2, g0, xs, g3, g4, g5⟩ := hO.arr a _ _ _ k1
          rw [(pb2 b a hb).2] at hloc ⊢
          exact ⟨g1, g2, hloc, xs, g3, g4, RepL.mono (S := sit E β1 (lko os') w') (S' := sit F β2 s1 w') cv2.m _ _ (by rw [clean_flat g2]; simp) g5⟩
    · have mix : ∀ b b' a, bk ρ b = none → bk ρ b' = some a → blk β2 s1 b = some c → blk β2 s1 b' = some c → False := fun b b' a z1 z2 q1 q2 => by
        rw [blk2n b z1] at q1
        rw [blk2 b' a z2] at q2
        rcases locE a c q2 with q | q
        · exact notL b c z1 q1 q
        · have := h.lt q1; omega
      cases hb : bk ρ b with
      | none =>
        cases hb' : bk ρ b' with
        | none => rw [blk2n b hb] at q1; rw [blk2n b' hb'] at q2; exact h.inj b b' c q1 q2
        | some a' => exact (mix b b' a' hb hb' q1 q2).elim
      | some a =>
        cases hb' : bk ρ b' with
        | none => exact (mix b' b a hb' hb q2 q1).elim
        | some a' =>
          rw [blk2 b a hb] at q1; rw [blk2 b' a' hb'] at q2
          have := hO.inj a a' c q1 q2
          subst this
          have h1 := (fb a b).2 hb
          have h2 := (fb a b').2 hb'
          rw [h1] at h2; injection h2
    · have hloc : β2.pb b ∈ F.L ∨ F.w0.heap.size ≤ β2.pb b := loc2 b (β2.pb b) (by unfold blk; simp only [hb1])
      cases hb : bk ρ b with
      | none =>
        rw [s1n b hb] at hb1
        obtain ⟨g1, g2, vs', g3, g4⟩ := h.map b es hb1
        refine ⟨hloc, g2, vs', ?_, moveL _ vs' (by rw [g2]; simp) g4⟩
        rw [(pb2n b hb).1]
        exact hO.base.chg.heap g3 (notL b _ hb (by unfold blk; simp only [hb1]))
      | some a =>
        obtain ⟨x', k1, k2⟩ := (s1s b a hb).2 _ hb1
        have hk := cvtO_kin k2
        cases x' <;> first | exact hk.elim | skip
        have hk : es = _ := hk
        subst hk
        obtain ⟨g1, g2, vs', g3, g4⟩ := hO.map a _ k1
        exact ⟨hloc, g2, vs', by rw [(pb2 b a hb).1]; exact g3, RepL.mono (S := sit E β1 (lko os') w') (S' := sit F β2 s1 w') cv2.m _ _ (by rw [g2]; simp) g4⟩
  refine ⟨v, β2, rfl, O2, (cvt_rep cv2 r r1 v hr1 hR).1, move, fun q hq => (hRef q hq).1, fun b T c hb1 q hq => ?_, refs2 r r1 hs.clo.1 (cvt_rep cv2 r r1 v hr1 hR).2, fun D q hD => hO.base.chg.heap hD (fun hm => by
    obtain ⟨p, _, hp⟩ := List.mem_filterMap.1 hm
    exact h.not_def hp q hD), hO.base.chg.size⟩
  cases hb : bk ρ b with
  | none =>
    have hb1 : s1 b = some (.box T c) := hb1
    rw [s1n b hb] at hb1
    exact (hRef q (hcl b T c hb1 q hq)).1
  | some a =>
    obtain ⟨x', k1, k2⟩ := (s1s b a hb).2 _ hb1
    have hk := cvtO_kin k2
    cases x' with
    | arr _ _ _ => exact hk.elim
    | map _ => exact hk.elim
    | box T' c' =>
      obtain ⟨e1, e2⟩ := hk
      obtain ⟨g1, cs, rs, g2, g3, g4⟩ := hO.box a _ c' k1
      obtain ⟨a', z1, z2⟩ := (cvtL_rep cv2 c' c cs e2 g4).2 q hq
      obtain ⟨b2, n2⟩ := q
      exact ref2 a' b2 n2 z1 (hs.clo.2 a T' c' k1 _ z2)
end
end Go.Proofs.YtedbbinlcdgkoaaGreatDoor
