import Derived.Test.YtjedikaidbobdaaGreatDoorVN
/- The value machine: functions that give new slices, whose elements the caller may write. No program in sight. -/
namespace Go.Proofs.YtjedikaidbobdaaGreatDoor
open Go.RowKit
set_option linter.unusedVariables false
set_option linter.unusedSimpArgs false
/-- what may not be read as lying still: what others may write, and the new boxes -/
def MB (M : Nat → Nat → Prop) (pb : Nat → Nat) (os : List (Nat × Ob)) (b p : Nat) : Prop := M b p ∨ ∃ o T c, lko os o = some (.box T c) ∧ pb o = b
theorem specB_new {P : Program} {f : FuncId} {args : List V} {r : V} {os' : List (Nat × Ob)} (hent : ∃ fn, P.funcs[f]? = some fn ∧ fn.body.isSome = true ∧ (fn.name == "runtime.NumGoroutine") = false) (ha : V.refsL args = [])
    (hclo : ∀ q ∈ r.refs, RefOk (lko os') q) (hnoown : ∀ o n, (o, some n) ∈ r.refs → ∀ k E, lko os' o ≠ some (.arr k E [])) (hbox : ∀ o x, lko os' o = some x → (∃ T c, x = .box T c ∧ V.refsL c = []) ∨ ∃ k E, x = .arr k E [])
    (h : ∀ M w vs, (∀ b p, M b p → b < w.heap.size) → RepL (S0 M w) args vs → Calls P f vs.toArray w fun e w' => ∃ v, e = .returned v ∧ Chg [] w w' ∧ ∃ pb : Nat → Nat,
      (∀ o T c, lko os' o = some (.box T c) → w.heap.size ≤ pb o ∧ ∃ cs rest : List Value, w'.heap[pb o]? = some (.cells (cs ++ rest).toArray T (0, 0)) ∧ (∀ c ∈ cs, c.oneCell' = true) ∧ ∀ S, RepL S c cs) ∧
      (∀ o o' T c T' c', lko os' o = some (.box T c) → lko os' o' = some (.box T' c') → pb o = pb o' → o = o') ∧ Rep ⟨MB M pb os', w', pb, fun _ _ => none⟩ r v) : SpecB P f args [] r os' := by
  refine ⟨hent, ⟨hclo, fun o T c ho q hq => by rcases hbox o _ ho with ⟨T', c', e, h0⟩ | ⟨k, E, e⟩ <;> cases e; rw [h0] at hq; cases hq⟩, fun o h => absurd rfl h, fun M L Z β w vs hO hvs => ?_⟩
  refine Calls.mono (h M w vs hO.base.m0 (RepL.mono (S := sit ⟨w, L, M, 0, lko [], β, Z⟩ β (lko []) w) (S' := S0 M w) (fun b p c g1 g2 => ⟨fun q => g1 (Or.inl q), g2⟩) args vs (by rw [ha]; simp) hvs)) ?_
  rintro e w' ⟨v, he, hc, pb, hb, hi, hr⟩
  have noarr : ∀ {o k E rows}, lko os' o = some (.arr k E rows) → rows = [] := fun {o k E rows} q => by rcases hbox o _ q with ⟨T', c', e, _⟩ | ⟨k', E', e⟩ <;> cases e; rfl
  have mut' : ∀ b p, Mut ⟨w, L, M, 0, lko [], β, Z⟩ ⟨pb, fun _ => .slice none 0 0⟩ (lko os') b p → MB M pb os' b p := by
    rintro b p (q | ⟨o, T, c, q1, q2⟩ | ⟨o, k, E, rows, q1, q2, _⟩)
    · exact .inl q
    · exact .inr ⟨o, T, c, q1, q2⟩
    · cases q2
  have mut2 : ∀ b p, MB M pb os' b p → M b p ∨ w.heap.size ≤ b := by
    rintro b p (q | ⟨o, T, c, q1, q2⟩)
    · exact .inl q
    · exact .inr (by rw [← q2]; exact (hb o T c q1).1)
  have hblk : ∀ {o b}, blk ⟨pb, fun _ => .slice none 0 0⟩ (lko os') o = some b → ∃ T c, lko os' o = some (.box T c) ∧ pb o = b := fun {o b} q => by
    unfold blk at q
    split at q
    · rename_i T c ho; injection q with q; exact ⟨T, c, ho, q⟩
    · cases q
    · cases q
  refine ⟨v, ⟨pb, fun _ => .slice none 0 0⟩, he, ⟨⟨hc.weaken (by simp), hO.base.m0, fun o b p q m => ?_, fun o q => absurd rfl q, Nat.zero_le _, fun o => ?_, fun b p c hz hcell => ?_, hO.base.gc, (fun o q => by
    obtain ⟨T, c, h1, h2⟩ := hblk q
    have h3 := (hb o T c h1).1
    have h4 := gc_lt hO.base.gc.2
    have h5 : w.heap.size = (Env.mk w L M 0 (lko []) β Z).w0.heap.size := rfl
    omega), hO.base.tab.2⟩, fun o T c ho => ?_, fun o k E rows ho => ?_, fun o o' b q1 q2 => ?_⟩, ?_⟩
  · obtain ⟨T, c, h1, h2⟩ := hblk q
    have := (hb o T c h1).1
    have := hO.base.m0 b p m
    have h3 : b < w.heap.size := this
    omega
  · show Kin _ _ _ none _
    unfold Kin; trivial
  · obtain ⟨k1, k2⟩ := hO.base.frz b p c hz hcell
    have hlt := World.block_lt_of_cell? w _ hcell
    simp only at hlt
    refine ⟨fun q => ?_, hc.cell hcell (by simp)⟩
    rcases mut2 b p (mut' b p q) with q | q
    · exact k1 (.inl q)
    · omega
  · obtain ⟨h1, cs, rest, h2, h3, h4⟩ := hb o T c ho
    exact ⟨.inr h1, cs, rest, h2, h3, h4 _⟩
  · cases noarr ho
    exact ⟨(fun r hr => by cases hr), (fun r hr => by cases hr), (fun b hb => by cases hb), [], World.ownsRow_nil _ _ _ _, (fun c hc => by cases hc), rfl⟩
  · obtain ⟨T, c, h1, h2⟩ := hblk q1
    obtain ⟨T', c', h3, h4⟩ := hblk q2
    exact hi o o' T c T' c' h1 h3 (h2.trans h4.symm)
  · refine Rep.mono (S := ⟨MB M pb os', w', pb, fun _ _ => none⟩) (S' := sit ⟨w, L, M, 0, lko [], β, Z⟩ ⟨pb, fun _ => .slice none 0 0⟩ (lko os') w') (fun b p c g1 g2 => ⟨fun q => g1 (mut' b p q), g2⟩) r v (fun q hq => ?_) hr
    have hqr := hq
    obtain ⟨o, _ | n⟩ := q
    · rfl
    · intro u hu
      have hu : svOf _ (lko os') o n = some u := hu
      have hq := hclo _ hq
      obtain ⟨k, E, rows, ho, hle⟩ := hq
      cases noarr ho
      exact absurd ho (hnoown o n hqr k E)
/-- a slice whose elements may be written, what they are not told; an empty one may have no block -/
def hsV (o k n : Nat) : V := if n = 0 then .sl k [] else .hs o n
def hsOb (k E n : Nat) : Ob := if n = 0 then .arr k E [] else .box E (List.replicate (n * k) .any)
theorem hsV_zero (o k : Nat) : hsV o k 0 = .sl k [] := rfl
theorem hsV_pos {n : Nat} (h : n ≠ 0) (o k : Nat) : hsV o k n = .hs o n := if_neg h
theorem hsOb_pos {n : Nat} (h : n ≠ 0) (k E : Nat) : hsOb k E n = .box E (List.replicate (n * k) .any) := if_neg h
theorem hs_refs (o k n : Nat) : (hsV o k n).refs = if n = 0 then [] else [(o, none)] := by unfold hsV; split <;> rfl
theorem refs_any (n : Nat) : V.refsL (List.replicate n .any) = [] := by
  induction n with
  | zero => rfl
  | succ n ih => rw [List.replicate_succ, V.refsL, ih]; rfl
theorem rep_any (S : Sit) : ∀ (xs : List Value), RepL S (List.replicate xs.length .any) xs
  | [] => rfl
  | x :: xs => ⟨x, xs, rfl, trivial, rep_any S xs⟩
/-- what the machine's run asks of such values and objects -/
theorem okR_app {os : Nat → Option Ob} : ∀ (l m : List (Nat × Option Nat)), okR os (l ++ m) = (okR os l ∧ okR os m)
  | [], m => by simp [okR]
  | q :: l, m => by
    obtain ⟨o, _ | n⟩ := q
    · rw [List.cons_append]; simp only [okR, okR_app l m]
      cases os o with
      | none => simp
      | some x => cases x <;> simp
    · rw [List.cons_append]; simp only [okR, okR_app l m]
      cases os o with
      | none => simp
      | some x => cases x <;> simp [and_assoc]
theorem okR_hs {os : Nat → Option Ob} {o k E n : Nat} (h : os o = some (hsOb k E n)) : okR os (hsV o k n).refs = True := by
  rw [hs_refs]
  split
  · simp [okR]
  · rename_i hn
    rw [hsOb_pos hn] at h
    simp [okR, h]
theorem okO_hs {os : Nat → Option Ob} {o k E n : Nat} {r : List (Nat × Ob)} : okO os ((o, hsOb k E n) :: r) = okO os r := by
  unfold hsOb
  split
  · rfl
  · have h : okO os ((o, .box E (List.replicate (n * k) .any)) :: r) = (okR os (V.refsL (List.replicate (n * k) .any)) ∧ okO os r) := rfl
    rw [h, refs_any]; simp [okR]
theorem cvtL_any {os : Nat → Option Ob} {f : Nat → Option Nat} (n : Nat) : cvtL os f (List.replicate n .any) = some (List.replicate n .any) := by
  induction n with
  | zero => rfl
  | succ n ih => rw [List.replicate_succ, cvtL, ih]; rfl
theorem cvtO_hs {os : Nat → Option Ob} {f : Nat → Option Nat} {k E n : Nat} : cvtO os f (hsOb k E n) = some (hsOb k E n) := by
  unfold hsOb
  split
  · rfl
  · show (cvtL os f _).map _ = _; rw [cvtL_any]; rfl
theorem cvt_hs {os : Nat → Option Ob} {f : Nat → Option Nat} {o o' k n : Nat} (h : f o = some o') : cvt os f (hsV o k n) = some (hsV o' k n) := by
  unfold hsV
  split
  · rfl
  · show (match f o with | some o' => some (V.hs o' n) | none => none) = _; rw [h]
theorem cells_hs {o k n : Nat} : (hsV o k n).cells? = some [hsV o k n] := by unfold hsV; split <;> rfl
theorem lenV_hs {τ : TT} {T E : TypeId} {ti : TI} {o k n : Nat} (h : τ T = some ti) (hk : ti.k = .slc E) : lenV τ T (hsV o k n) = ok (.int .i64 (n : Int)) := by
  by_cases hn : n = 0
  · subst hn; rw [hsV_zero]; unfold lenV; rw [h]; simp only [hk]; rfl
  · rw [hsV_pos hn]; unfold lenV; rw [h]; simp only [hk]
theorem hs_one {w : World} {B E k n : Nat} {v : Value} {xs : List Value} (h : w.ownsRow B E k v n xs) :
    ∃ g, (n ≠ 0 → B ≤ g ∧ ∃ rest, w.heap[g]? = some (.cells (xs ++ rest).toArray E (0, 0)) ∧ xs.length = n * k) ∧ ∀ (S : Sit) (o : Nat), S.pb o = g → Rep S (hsV o k n) v := by
  by_cases hn : n = 0
  · subst hn
    refine ⟨0, fun h => absurd rfl h, fun S o _ => ?_⟩
    rw [hsV_zero]
    rcases h.2 with ⟨hv, _⟩ | ⟨g, cap, cur, hv, _, _, h1, h2, _⟩
    · exact ⟨none, 0, hv, Nat.le_refl _, by simp [maxLen], (fun _ => rfl), (fun r hr => by cases hr), (fun r hr => by cases hr), (fun x hx => by cases hx)⟩
    · exact ⟨_, cap, hv, Nat.zero_le _, h2, (fun _ => rfl), (fun r hr => by cases hr), (fun r hr => by cases hr), (fun x hx => by injection hx with hx; subst hx; exact ⟨fun _ => rfl, trivial⟩)⟩
  · obtain ⟨g, cap, rest, h1, h2, h3, h4, h5, h6⟩ := own_hs h hn
    refine ⟨g, fun _ => ⟨h4, rest, h5, h6⟩, fun S o ho => ?_⟩
    rw [hsV_pos hn]
    exact ⟨cap, by rw [ho]; exact h1, h2, h3⟩
end Go.Proofs.YtjedikaidbobdaaGreatDoor
