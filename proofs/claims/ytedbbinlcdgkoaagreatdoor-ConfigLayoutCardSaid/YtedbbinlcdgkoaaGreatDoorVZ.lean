import Derived.LoopN
import Derived.Test.YtedbbinlcdgkoaaGreatDoorVY
/- The value machine: stretches of code told by hand. No program in sight. -/
namespace Go.Proofs.YtedbbinlcdgkoaaGreatDoor
open Go.RowKit
set_option linter.unusedVariables false
set_option linter.unusedSimpArgs false
def lkD : List (Nat × V) → Nat → Option V
  | [], _ => none
  | (k, v) :: r, i => if i = k then some v else lkD r i
theorem lkD_mem {i : Nat} {v : V} : ∀ {D : List (Nat × V)}, lkD D i = some v → (i, v) ∈ D
  | [], h => by cases h
  | (k, x) :: r, h => by
    unfold lkD at h
    split at h
    · rename_i e; injection h with h; subst h; subst e; exact List.mem_cons_self
    · exact List.mem_cons_of_mem _ (lkD_mem h)
def flatA : V → Bool
  | .any => true
  | v => flatV v
theorem flatA_rep {S S' : Sit} {x : V} {v : Value} (h : flatA x = true) (hr : Rep S x v) : Rep S' x v := by
  cases x with
  | any => trivial
  | int k n => exact hr
  | bool b => exact hr
  | str l => exact hr
  | nil => exact hr
  | agg l => cases h
  | tup l => cases h
  | sl k r => cases h
  | ptr o p => cases h
  | own o n => cases h
  | hs o n => cases h
  | rp r p => cases h
  | fn f l => cases h
  | raw v => cases h
  | mp o => cases h
theorem flatA_refs {x : V} (h : flatA x = true) : x.refs = [] := by
  cases x with
  | any => rfl
  | int k n => rfl
  | bool b => rfl
  | str l => rfl
  | nil => rfl
  | agg l => cases h
  | tup l => cases h
  | sl k r => cases h
  | ptr o p => cases h
  | own o n => cases h
  | hs o n => cases h
  | rp r p => cases h
  | fn f l => cases h
  | raw v => cases h
  | mp o => cases h
theorem VWp.by {P : Program} {F : Env} {s : St} {Q : Exit → St → Prop} {c : Code} (D : List (Nat × V)) (hD : ∀ p ∈ D, flatA p.2 = true)
    (h : ∀ β a W, Sim F β s a W → c.wp P (fun e a' W' => e = .normal ∧ a'.tmps.size = a.tmps.size ∧ a'.defers = a.defers ∧ Chg [] W W' ∧ ∀ i, match lkD D i with
      | some v => Rep (S0 (fun _ _ => False) W) v (a'.tmps.getD i undef)
      | none => a'.tmps.getD i undef = a.tmps.getD i undef) a W)
    (hq : Q .normal ⟨fun i => (lkD D i).getD (s.t i), s.o⟩) : VWp P F c Q s := fun β a W hs => by
  refine Go.wp_mono (h β a W hs) ?_
  rintro e a' W' ⟨rfl, hsz, hdf, hc, ht⟩
  have hw := hs.world hc
  refine ⟨_, β, hq, ⟨hw.objs, ⟨fun i r hr => ?_, hw.closed.o⟩, fun i => ?_, by rw [hdf]; exact hw.defers, by rw [hsz]; exact hw.size⟩⟩
  · have hr : r ∈ ((lkD D i).getD (s.t i)).refs := hr
    cases hk : lkD D i with
    | none => rw [hk] at hr; exact hw.closed.t i r hr
    | some v => rw [hk, Option.getD_some, flatA_refs (hD _ (lkD_mem hk))] at hr; cases hr
  · show Rep _ ((lkD D i).getD (s.t i)) _
    have hti := ht i
    cases hk : lkD D i with
    | none => rw [hk] at hti; simp only at hti; rw [Option.getD_none, hti]; exact hw.frame i
    | some v => rw [hk] at hti; simp only at hti; rw [Option.getD_some]; exact flatA_rep (hD _ (lkD_mem hk)) hti
theorem lk_app (E : List (Nat × V)) (i : Nat) : ∀ D : List (Nat × V), (∃ v, (i, v) ∈ D ∧ lk (D ++ E) i = v) ∨ lk (D ++ E) i = lk E i
  | [] => .inr rfl
  | (k, v) :: D => by
    have e : lk (((k, v) :: D) ++ E) i = if i = k then v else lk (D ++ E) i := rfl
    rw [e]
    by_cases h : i = k
    · rw [if_pos h]; subst h; exact .inl ⟨v, List.mem_cons_self, rfl⟩
    · rw [if_neg h]
      rcases lk_app E i D with ⟨x, q1, q2⟩ | q
      · exact .inl ⟨x, List.mem_cons_of_mem _ q1, q2⟩
      · exact .inr q
theorem VWp.by2 {P : Program} {F : Env} {s : St} {Q : Exit → St → Prop} {c : Code} (ks : List Nat) (D : List (Nat × V)) (hD : ∀ p ∈ D, flatA p.2 = true)
    (h : ∀ β a W, Sim F β s a W → c.wp P (fun e a' W' => e = .normal ∧ a'.tmps.size = a.tmps.size ∧ a'.defers = a.defers ∧ Chg [] W W' ∧ (∀ i ∈ ks, a'.tmps.getD i undef = a.tmps.getD i undef) ∧ ∀ p ∈ D, Rep (S0 (fun _ _ => False) W) p.2 (a'.tmps.getD p.1 undef)) a W)
    (hq : Q .normal ⟨lk (D ++ keepT s ks), s.o⟩) : VWp P F c Q s := fun β a W hs => by
  refine Go.wp_mono (h β a W hs) ?_
  rintro e a' W' ⟨rfl, hsz, hdf, hc, hk, ht⟩
  have hw := hs.world hc
  refine ⟨_, β, hq, ⟨hw.objs, ⟨fun i r hr => ?_, hw.closed.o⟩, fun i => ?_, by rw [hdf]; exact hw.defers, by rw [hsz]; exact hw.size⟩⟩
  · have hr : r ∈ (lk (D ++ keepT s ks) i).refs := hr
    rcases lk_app (keepT s ks) i D with ⟨v, q1, q2⟩ | q
    · rw [q2, flatA_refs (hD _ q1)] at hr; cases hr
    · rw [q] at hr
      rcases lk_keep2 s ks i with z | ⟨_, z⟩
      · rw [z] at hr; cases hr
      · rw [z] at hr; exact hw.closed.t i r hr
  · show Rep _ (lk (D ++ keepT s ks) i) _
    rcases lk_app (keepT s ks) i D with ⟨v, q1, q2⟩ | q
    · rw [q2]; exact flatA_rep (hD _ q1) (ht _ q1)
    · rw [q]
      rcases lk_keep2 s ks i with z | ⟨z1, z⟩
      · rw [z]; trivial
      · rw [z, hk i z1]; exact hw.frame i
theorem VWp.last {P : Program} {F : Env} {s : St} {Q : Exit → St → Prop} {c : Code} (D : List (Nat × V)) (hD : ∀ p ∈ D, flatA p.2 = true)
    (h : ∀ β a W, Sim F β s a W → c.wp P (fun e a' W' => e = .normal ∧ a'.tmps.size = a.tmps.size ∧ a'.defers = a.defers ∧
      (∃ b, Chg [b] W W' ∧ (b ∈ F.L ∨ F.w0.heap.size ≤ b) ∧ ∃ x e f, W.heap[b]? = some (.cells x e f)) ∧ (∀ x u, W.cell? x = some u → W'.cell? x = some u) ∧ ∀ i, match lkD D i with
      | some v => Rep (S0 (fun _ _ => False) W) v (a'.tmps.getD i undef)
      | none => True) a W)
    (hq : Q .normal (St.of D [])) : VWp P F c Q s := fun β a W hs => by
  refine Go.wp_mono (h β a W hs) ?_
  rintro e a' W' ⟨rfl, hsz, hdf, ⟨b, hc, hb, x, t, f, hx⟩, hcell, ht⟩
  have hlk : ∀ i, (lkD D i).getD .any = lk D i := fun i => by
    clear hD h hq ht
    induction D with
    | nil => rfl
    | cons p D ih =>
      obtain ⟨k, v⟩ := p
      unfold lkD lk
      split
      · rfl
      · exact ih
  have hMut : ∀ b p, Mut F β (lko []) b p → Mut F β s.o b p := less_mut (F := F) (β := β) (fun o => .inl rfl)
  have hC : ∀ b p c, ¬ Mut F β s.o b p → W.cell? ⟨b, p, none⟩ = some c → ¬ Mut F β (lko []) b p ∧ W'.cell? ⟨b, p, none⟩ = some c := fun b p c h1 h2 => ⟨fun g => h1 (hMut b p g), hcell _ _ h2⟩
  refine ⟨_, β, hq, ⟨⟨hs.objs.base.step (hs.objs.chg.toL hc hb) (fun o b q => by cases q) (fun o => .inl rfl) hC, fun o T c q => (by cases q), fun o k E r q => (by cases q), fun o o' b q => (by cases q), fun o es q => (by cases q)⟩, ⟨fun i r hr => ?_, fun o T c q => by cases q⟩, fun i => ?_, by rw [hdf]; exact hs.defers.chg hc (fun b' hb' q hq' => by
    rw [List.mem_singleton] at hb'; subst hb'; rw [hx] at hq'; cases hq'), by rw [hsz]; exact hs.size⟩⟩
  · have hr : r ∈ (lk D i).refs := hr
    rw [← hlk] at hr
    cases hk : lkD D i with
    | none => rw [hk] at hr; cases hr
    | some v => rw [hk, Option.getD_some, flatA_refs (hD _ (lkD_mem hk))] at hr; cases hr
  · show Rep _ (lk D i) _
    rw [← hlk]
    have hti := ht i
    cases hk : lkD D i with
    | none => trivial
    | some v => rw [hk] at hti; simp only at hti; rw [Option.getD_some]; exact flatA_rep (hD _ (lkD_mem hk)) hti
end Go.Proofs.YtedbbinlcdgkoaaGreatDoor
