import Derived.Test.YtedbbinlcdgkoaaGreatDoorVL
/- The value machine: a drawn region is walked in the text's order. No program in sight. -/
namespace Go.Proofs.YtedbbinlcdgkoaaGreatDoor
open Go.RowKit
set_option linter.unusedVariables false
set_option linter.unusedSimpArgs false

section
variable {P : Program} {τ : TT} {cb : Cb} {κ : Fx} {F : Env}

structure Nigh (s t : St) (d : Option Nat) : Prop where
  tm : ∀ i, (∀ j, d = some j → i ≠ j) → t.t i = s.t i
  ob : ∀ i, s.o i ≠ none → t.o i = s.o i
theorem Nigh.eval {s t : St} {d : Option Nat} (h : Nigh s t d) {x : Operand} (hx : ∀ i, d = some i → x ≠ .tmp i) : evalV t x = evalV s x := by
  cases x with
  | tmp i => exact h.tm i (fun j hj e => hx j hj (by rw [e]))
  | _ => rfl
theorem refOk_ne {os : Nat → Option Ob} {r : Nat × Option Nat} (h : RefOk os r) : os r.1 ≠ none := by
  obtain ⟨o, _ | n⟩ := r
  · obtain ⟨y, h, _⟩ := h; simp only; rw [h]; simp
  · obtain ⟨k, E, rows, h, _⟩ := h; simp only; rw [h]; simp
theorem evalV_refs {s : St} (h : Closed s) (x : Operand) : ∀ r ∈ (evalV s x).refs, RefOk s.o r := by
  cases x with
  | tmp t => exact h.t t
  | const v => rw [show evalV s (.const v) = ofVal v from rfl, ofVal_refs]; simp
  | global g => simp [evalV, V.refs]
  | func f => simp [evalV, V.refs, V.refsL]

theorem looks_spec {ops : Array Oper} {x o : Oper} (h : x.apart ops o = true) :
    (∀ d, x.dst = some d → (∀ y ∈ o.op.operands, y ≠ .tmp d) ∧ (∀ g want e, o.guard = some (g, want) → (ops[g]?).bind (·.dst) = some e → e ≠ d)) ∧ (∀ d, x.dst = some d → o.dst ≠ some d) := by
  obtain ⟨h1, h2, _⟩ := Oper.apart_spec h
  refine ⟨fun d hd => ⟨fun y hy e => h1 d hd ?_, fun g want e hg he q => h1 d hd ?_⟩, h2⟩
  · subst e
    exact List.mem_append_left _ (List.mem_filterMap.2 ⟨.tmp d, by simpa using hy, rfl⟩)
  · subst q
    refine List.mem_append_right _ ?_
    rw [hg]; simp [he]
theorem looks_spec' {ops : Array Oper} {x o : Oper} (h : x.apart ops o = true) : ∀ d, o.dst = some d → (∀ y ∈ x.op.operands, y ≠ .tmp d) ∧ (∀ g want e, x.guard = some (g, want) → (ops[g]?).bind (·.dst) = some e → e ≠ d) := by
  obtain ⟨_, _, h3⟩ := Oper.apart_spec h
  refine fun d hd => ⟨fun y hy e => h3 d hd ?_, fun g want e hg he q => h3 d hd ?_⟩
  · subst e
    exact List.mem_append_left _ (List.mem_filterMap.2 ⟨.tmp d, by simpa using hy, rfl⟩)
  · subst q
    refine List.mem_append_right _ ?_
    rw [hg]; simp [he]

inductive How (P : Program) (τ : TT) (cb : Cb) (κ : Fx) (ops : Array Oper) (o : Oper) (s : St) (v : V) (u : Upd) : Prop where
  | psd {j d : Nat} {want : Bool} : o.guard = some (j, want) → (ops[j]?).bind (·.dst) = some d → (isUndef (s.t d) = true ∨ s.t d = .bool (!want)) → v = .raw undef → u = .none → How P τ cb κ ops o s v u
  | exd {r : Res} : (o.guard = none ∨ ∃ j want d, o.guard = some (j, want) ∧ (ops[j]?).bind (·.dst) = some d ∧ s.t d = .bool want) → calleeOf o.op = none →
      exec τ (hotF κ o.dst) (evalV s) (obV s.o) (view s.o) o.dst o.op = some r → r.pre → freshV s o.dst r.upd → v = r.val → u = r.upd → How P τ cb κ ops o s v u
  | cld {x : Operand} {l : List Operand} {f : FuncId} {caps args : List V} : (o.guard = none ∨ ∃ j want d, o.guard = some (j, want) ∧ (ops[j]?).bind (·.dst) = some d ∧ s.t d = .bool want) → calleeOf o.op = some (x, l) →
      evalV s x = .fn (.func f) caps → viewL s.o (l.map (evalV s) ++ caps) = some args → Spec P f args v → fixV κ o.dst v [] → u = .none → How P τ cb κ ops o s v u
  | bcl {x : Operand} {l : List Operand} {f : FuncId} {caps : List V} {os1 : List (Nat × Ob)} : (o.guard = none ∨ ∃ j want d, o.guard = some (j, want) ∧ (ops[j]?).bind (·.dst) = some d ∧ s.t d = .bool want) → calleeOf o.op = some (x, l) →
      evalV s x = .fn (.func f) caps → bAt cb o.dst = true → BXD P f (l.map (evalV s) ++ caps) s.o v os1 → fixV κ o.dst v os1 → u = .put os1 → How P τ cb κ ops o s v u

theorem stepR_how {ops : Array Oper} {o : Oper} {s s' : St} : StepR P τ cb κ ops o s s' ↔ ∃ v u, How P τ cb κ ops o s v u ∧ s' = s.app o.dst ⟨True, v, u⟩ := by
  constructor
  · intro h
    cases h with
    | pass hg hj hu => exact ⟨_, _, .psd hg hj hu rfl rfl, rfl⟩
    | run hg hv =>
      unfold vstep at hv
      split at hv
      · rename_i x l hc
        split at hv <;> try (exact hv.elim)
        rename_i f caps hx
        rcases hv with hv | ⟨hcb, r1, os1, hB, hfx, e⟩
        · split at hv <;> try (exact hv.elim)
          rename_i args ha
          obtain ⟨r, hs, hfx, e⟩ := hv
          exact ⟨r, .none, .cld hg hc hx ha hs hfx rfl, e.symm⟩
        · exact ⟨r1, .put os1, .bcl hg hc hx hcb hB hfx rfl, e.symm⟩
      · rename_i hc
        split at hv <;> try (exact hv.elim)
        rename_i r hr
        obtain ⟨h1, h2, e⟩ := hv
        exact ⟨r.val, r.upd, .exd hg hc hr h1 h2 rfl rfl, e.symm⟩
  · rintro ⟨v, u, h, rfl⟩
    cases h with
    | psd hg hj hu e1 e2 => subst e1; subst e2; exact .pass hg hj hu
    | exd hg hc hr h1 h2 e1 e2 =>
      subst e1; subst e2
      refine .run hg ?_
      unfold vstep
      simp only [hc, hr]
      exact ⟨h1, h2, rfl⟩
    | cld hg hc hx ha hs hfx e2 =>
      subst e2
      refine .run hg ?_
      unfold vstep
      simp only [hc, hx, ha]
      exact .inl ⟨_, hs, hfx, rfl⟩
    | bcl hg hc hx hcb hB hfx e2 =>
      subst e2
      refine .run hg ?_
      unfold vstep
      simp only [hc, hx]
      exact .inr ⟨hcb, _, _, hB, hfx, rfl⟩

theorem How.nigh {ops : Array Oper} {o : Oper} {s t : St} {d : Option Nat} {v : V} {u : Upd} (hn : Nigh s t d) (hcl : Closed s) (hops : ∀ i, d = some i → (∀ y ∈ o.op.operands, y ≠ .tmp i) ∧ (∀ g want e, o.guard = some (g, want) → (ops[g]?).bind (·.dst) = some e → e ≠ i))
    (hfr : ∀ i, o.dst = some i → (t.o i = none ↔ s.o i = none)) (hso : bAt cb o.dst = false ∨ calleeOf o.op = none ∨ t.o = s.o) : How P τ cb κ ops o s v u ↔ How P τ cb κ ops o t v u := by
  have hev : ∀ y ∈ o.op.operands, evalV t y = evalV s y := fun y hy => hn.eval (fun i hi => (hops i hi).1 y hy)
  have href : ∀ y, ∀ r ∈ (evalV s y).refs, s.o r.1 = t.o r.1 := fun y r hr => (hn.ob r.1 (refOk_ne (evalV_refs hcl y r hr))).symm
  have hguard : (o.guard = none ∨ ∃ j want d, o.guard = some (j, want) ∧ (ops[j]?).bind (·.dst) = some d ∧ s.t d = .bool want) ↔ (o.guard = none ∨ ∃ j want d, o.guard = some (j, want) ∧ (ops[j]?).bind (·.dst) = some d ∧ t.t d = .bool want) := by
    constructor
    · rintro (h | ⟨j, want, e, h1, h2, h3⟩)
      · exact .inl h
      · exact .inr ⟨j, want, e, h1, h2, by rw [hn.tm e (fun i hi => (hops i hi).2 j want e h1 h2)]; exact h3⟩
    · rintro (h | ⟨j, want, e, h1, h2, h3⟩)
      · exact .inl h
      · exact .inr ⟨j, want, e, h1, h2, by rw [← hn.tm e (fun i hi => (hops i hi).2 j want e h1 h2)]; exact h3⟩
  have hexec : exec τ (hotF κ o.dst) (evalV s) (obV s.o) (view s.o) o.dst o.op = exec τ (hotF κ o.dst) (evalV t) (obV t.o) (view t.o) o.dst o.op :=
    exec_congr (fun y hy => (hev y hy).symm) (.inr ⟨fun y hy => obV_congr _ (href y), fun y hy => view_congr _ (href y)⟩)
  have hcall : ∀ {x : Operand} {l : List Operand}, calleeOf o.op = some (x, l) → (evalV t x = evalV s x) ∧ (l.map (evalV t) = l.map (evalV s)) := fun {x l} hc => by
    obtain ⟨c, hop, hcal, hl⟩ := calleeOf_some hc
    refine ⟨hev x (by rw [hop]; simp [Op.operands, Call.operands, hcal]), List.map_congr_left fun y hy => hev y (by rw [hop]; simp only [Op.operands, Call.operands, hcal]; simp; exact .inr (by rw [← hl] at hy; simpa using hy))⟩
  have hview : ∀ {x : Operand} {l : List Operand} {f : Fn} {caps : List V}, evalV s x = .fn f caps → viewL s.o (l.map (evalV s) ++ caps) = viewL t.o (l.map (evalV s) ++ caps) := fun {x l f caps} hx => viewL_congr _ (fun r hr => by
    rw [refsL_append] at hr
    rcases List.mem_append.1 hr with hr | hr
    · have : ∀ l : List Operand, r ∈ V.refsL (l.map (evalV s)) → s.o r.1 = t.o r.1 := by
        intro l
        induction l with
        | nil => intro q; cases q
        | cons y ys ih => intro q; rcases List.mem_append.1 q with q | q; exact href y r q; exact ih q
      exact this l hr
    · exact href x r (by rw [hx]; exact hr))
  have hfresh : ∀ {X : Upd}, freshV s o.dst X ↔ freshV t o.dst X := fun {X} => by
    unfold freshV
    cases X with
    | new Y =>
      simp only
      cases hd : o.dst with
      | none => exact Iff.rfl
      | some i => exact (hfr i hd).symm
    | _ => exact Iff.rfl
  constructor
  · intro h
    cases h with
    | psd hg hj hu e1 e2 => exact .psd hg hj (by rw [hn.tm _ (fun i hi => (hops i hi).2 _ _ _ hg hj)]; exact hu) e1 e2
    | exd hg hc hr h1 h2 e1 e2 => exact .exd (hguard.1 hg) hc (hexec ▸ hr) h1 (hfresh.1 h2) e1 e2
    | cld hg hc hx ha hs hfx e2 =>
      obtain ⟨k1, k2⟩ := hcall hc
      exact .cld (hguard.1 hg) hc (k1.trans hx) (by rw [k2, ← hview hx]; exact ha) hs hfx e2
    | bcl hg hc hx hcb hB hfx e2 =>
      obtain ⟨k1, k2⟩ := hcall hc
      have e3 : t.o = s.o := by
        rcases hso with q | q | q
        · rw [hcb] at q; cases q
        · rw [hc] at q; cases q
        · exact q
      exact .bcl (hguard.1 hg) hc (k1.trans hx) hcb (by rw [k2, e3]; exact hB) hfx e2
  · intro h
    cases h with
    | psd hg hj hu e1 e2 => exact .psd hg hj (by rw [← hn.tm _ (fun i hi => (hops i hi).2 _ _ _ hg hj)]; exact hu) e1 e2
    | exd hg hc hr h1 h2 e1 e2 => exact .exd (hguard.2 hg) hc (hexec.trans hr) h1 (hfresh.2 h2) e1 e2
    | cld hg hc hx ha hs hfx e2 =>
      obtain ⟨k1, k2⟩ := hcall hc
      have hx' := k1.symm.trans hx
      exact .cld (hguard.2 hg) hc hx' (by rw [hview hx', ← k2]; exact ha) hs hfx e2
    | bcl hg hc hx hcb hB hfx e2 =>
      obtain ⟨k1, k2⟩ := hcall hc
      have e3 : t.o = s.o := by
        rcases hso with q | q | q
        · rw [hcb] at q; cases q
        · rw [hc] at q; cases q
        · exact q
      exact .bcl (hguard.2 hg) hc (k1.symm.trans hx) hcb (by rw [← k2, ← e3]; exact hB) hfx e2

theorem How.pure {ops : Array Oper} {o : Oper} {s t : St} {d : Option Nat} {v : V} {u : Upd} (hp : pureB o.op = true) (hn : ∀ i, (∀ j, d = some j → i ≠ j) → t.t i = s.t i) (hops : ∀ i, d = some i → (∀ y ∈ o.op.operands, y ≠ .tmp i) ∧ (∀ g want e, o.guard = some (g, want) → (ops[g]?).bind (·.dst) = some e → e ≠ i)) :
    How P τ cb κ ops o s v u → How P τ cb κ ops o t v u ∧ u = .none := by
  have hev : ∀ y ∈ o.op.operands, evalV t y = evalV s y := fun y hy => by
    cases y with
    | tmp i => exact hn i (fun j hj e => (hops j hj).1 _ hy (by rw [e]))
    | _ => rfl
  have hexec : exec τ (hotF κ o.dst) (evalV s) (obV s.o) (view s.o) o.dst o.op = exec τ (hotF κ o.dst) (evalV t) (obV t.o) (view t.o) o.dst o.op := exec_congr (fun y hy => (hev y hy).symm) (.inl hp)
  intro h
  cases h with
  | psd hg hj hu e1 e2 => exact ⟨.psd hg hj (by rw [hn _ (fun i hi => (hops i hi).2 _ _ _ hg hj)]; exact hu) e1 e2, e2⟩
  | exd hg hc hr h1 h2 e1 e2 =>
    have hu := (exec_upd hr).2 hp
    refine ⟨.exd ?_ hc (hexec ▸ hr) h1 (by rw [hu]; trivial) e1 e2, by rw [e2]; exact hu⟩
    rcases hg with h | ⟨j, want, e, h1, h2, h3⟩
    · exact .inl h
    · exact .inr ⟨j, want, e, h1, h2, by rw [hn e (fun i hi => (hops i hi).2 j want e h1 h2)]; exact h3⟩
  | cld hg hc hx ha hs hfx e2 =>
    obtain ⟨c, hop, hcal, _⟩ := calleeOf_some hc
    rw [hop] at hp; simp [pureB, hcal] at hp
  | bcl hg hc hx hcb hB hfx e2 =>
    obtain ⟨c, hop, hcal, _⟩ := calleeOf_some hc
    rw [hop] at hp; simp [pureB, hcal] at hp

theorem How.upd {ops : Array Oper} {o : Oper} {s : St} {v : V} {u : Upd} (h : How P τ cb κ ops o s v u) (hm : mutB o.op = false) : ∀ i X, u ≠ .set i X := by
  cases h with
  | psd _ _ _ _ e => intro i X q; rw [e] at q; cases q
  | exd _ _ hr _ _ _ e => intro i X q; exact (exec_upd hr).1 hm i X (e ▸ q)
  | cld _ _ _ _ _ _ e => intro i X q; rw [e] at q; cases q
  | bcl _ _ _ _ _ _ e => intro i X q; rw [e] at q; cases q
theorem How.put {ops : Array Oper} {o : Oper} {s : St} {v : V} {u : Upd} (h : How P τ cb κ ops o s v u) (hc : bAt cb o.dst = false ∨ calleeOf o.op = none) : ∀ l, u ≠ .put l := by
  cases h with
  | psd _ _ _ _ e => intro l q; rw [e] at q; cases q
  | exd _ _ hr _ hf _ e => intro l q; rw [← e, q] at hf; exact hf
  | cld _ _ _ _ _ _ e => intro l q; rw [e] at q; cases q
  | bcl _ hc' _ hcb _ _ e =>
    rcases hc with hc | hc
    · rw [hcb] at hc; cases hc
    · rw [hc'] at hc; cases hc
theorem How.new {ops : Array Oper} {o : Oper} {s : St} {v : V} {X : Ob} (h : How P τ cb κ ops o s v (.new X)) : ∃ i, o.dst = some i ∧ s.o i = none := by
  cases h with
  | psd _ _ _ _ e => cases e
  | exd _ _ hr _ hf _ e =>
    rw [← e] at hf
    unfold freshV at hf
    simp only at hf
    split at hf
    · rename_i i hi; exact ⟨i, hi, hf⟩
    · exact hf.elim
  | cld _ _ _ _ _ _ e => cases e
  | bcl _ _ _ _ _ _ e => cases e

def appO (os : Nat → Option Ob) (d : Option Nat) : Upd → Nat → Option Ob
  | .none => os
  | .new x => match d with | some d => up os d (some x) | none => os
  | .set o x => up os o (some x)
  | .put l => upL os l
theorem app_eq (s : St) (d : Option Nat) (v : V) (u : Upd) (h : ∀ X, u = .new X → d ≠ none) : s.app d ⟨True, v, u⟩ = ⟨(s.put d v).t, appO s.o d u⟩ := by
  cases u with
  | none => cases d <;> rfl
  | new X =>
    cases d with
    | none => exact absurd rfl (h X rfl)
    | some i => rfl
  | set o X => cases d <;> rfl
  | put l => cases d <;> rfl
theorem put_t_comm (s : St) (os os' : Nat → Option Ob) {d e : Option Nat} (v w : V) (h : ∀ i, d = some i → e ≠ some i) : ((⟨(s.put d v).t, os⟩ : St).put e w).t = ((⟨(s.put e w).t, os'⟩ : St).put d v).t := by
  cases d with
  | none => cases e <;> rfl
  | some i =>
    cases e with
    | none => rfl
    | some j => exact up_comm _ _ _ (fun q => h i rfl (by rw [q]))
theorem swap {ops : Array Oper} {x o : Oper} {s t t1 : St} (hf : freeB cb ops x o = true) (hcl : Closed s) (h1 : StepR P τ cb κ ops x s t) (h2 : StepR P τ cb κ ops o t t1) : ∃ s1, StepR P τ cb κ ops o s s1 ∧ StepR P τ cb κ ops x s1 t1 := by
  unfold freeB at hf
  rw [Bool.and_eq_true] at hf
  obtain ⟨hap, hk⟩ := hf
  obtain ⟨lo1, lo2⟩ := looks_spec hap
  have lo3 := looks_spec' hap
  obtain ⟨v, u, hx, rfl⟩ := stepR_how.1 h1
  obtain ⟨w, u', ho, rfl⟩ := stepR_how.1 h2
  have dn : ∀ {o : Oper} {s : St} {v : V} {u : Upd}, How P τ cb κ ops o s v u → ∀ X, u = .new X → o.dst ≠ none := fun h X e q => by
    subst e; obtain ⟨i, hi, _⟩ := h.new; rw [q] at hi; cases hi
  have hne : ∀ i, x.dst = some i → o.dst ≠ some i := lo2
  have hne' : ∀ i, o.dst = some i → x.dst ≠ some i := fun i hi q => lo2 i q hi
  rw [Bool.or_eq_true, Bool.or_eq_true, Bool.and_eq_true, Bool.and_eq_true, Bool.not_eq_true', Bool.not_eq_true', Bool.and_eq_true, Bool.or_eq_true, Bool.or_eq_true, Bool.not_eq_true', Bool.not_eq_true'] at hk
  rcases hk with (⟨⟨m1, m2⟩, mc⟩ | hp) | hp
  · -- neither writes what is there
    have mx : bAt cb x.dst = false ∨ calleeOf x.op = none := mc.1.elim .inl (fun q => .inr (by simpa using q))
    have mo : bAt cb o.dst = false ∨ calleeOf o.op = none := mc.2.elim .inl (fun q => .inr (by simpa using q))
    have mx3 : ∀ {t s : St}, bAt cb x.dst = false ∨ calleeOf x.op = none ∨ t.o = s.o := mx.elim .inl (fun q => .inr (.inl q))
    have mo3 : ∀ {t s : St}, bAt cb o.dst = false ∨ calleeOf o.op = none ∨ t.o = s.o := mo.elim .inl (fun q => .inr (.inl q))
    have n1 : ∀ {o : Oper} {s : St} {v : V} {u : Upd}, (bAt cb o.dst = false ∨ calleeOf o.op = none) → How P τ cb κ ops o s v u → mutB o.op = false → Nigh s (s.app o.dst ⟨True, v, u⟩) o.dst := fun {o s v u} hcc h hm => by
      refine ⟨fun i hi => ?_, fun i hi => ?_⟩
      · rw [app_eq _ _ _ _ (dn h)]
        show (s.put o.dst v).t i = s.t i
        cases hd : o.dst with
        | none => rfl
        | some j => exact up_other _ _ (hi j hd)
      · rw [app_eq _ _ _ _ (dn h)]
        show appO s.o o.dst u i = s.o i
        cases u with
        | none => rfl
        | new X =>
          obtain ⟨j, hj, hn⟩ := h.new
          rw [hj]
          exact up_other _ _ (fun e => hi (by rw [e]; exact hn))
        | set j X => exact absurd rfl (h.upd hm j X)
        | put l => exact absurd rfl (h.put hcc l)
    have nx := n1 mx hx m1
    have own : ∀ {o : Oper} {s : St} {v : V} {u : Upd}, (bAt cb o.dst = false ∨ calleeOf o.op = none) → How P τ cb κ ops o s v u → mutB o.op = false → ∀ i, o.dst ≠ some i → (s.app o.dst ⟨True, v, u⟩).o i = s.o i := fun {o s v u} hcc h hm i hi => by
      rw [app_eq _ _ _ _ (dn h)]
      show appO s.o o.dst u i = s.o i
      cases u with
      | none => rfl
      | new X =>
        obtain ⟨j, hj, hn⟩ := h.new
        rw [hj]
        exact up_other _ _ (fun e => hi (by rw [hj, e]))
      | set j X => exact absurd rfl (h.upd hm j X)
      | put l => exact absurd rfl (h.put hcc l)
    have ho' : How P τ cb κ ops o s w u' := (How.nigh nx hcl (fun i hi => lo1 i hi) (fun i hi => by rw [own mx hx m1 i (hne' i hi)]) mo3).2 ho
    have hx' : How P τ cb κ ops x (s.app o.dst ⟨True, w, u'⟩) v u := (How.nigh (n1 mo ho' m2) hcl (fun i hi => lo3 i hi) (fun i hi => by rw [own mo ho' m2 i (hne i hi)]) mx3).1 hx
    refine ⟨_, stepR_how.2 ⟨w, u', ho', rfl⟩, stepR_how.2 ⟨v, u, hx', ?_⟩⟩
    rw [app_eq _ _ _ _ (dn ho), app_eq _ _ _ _ (dn hx), app_eq _ _ _ _ (dn hx'), app_eq _ _ _ _ (dn ho')]
    have e1 := put_t_comm s (appO s.o x.dst u) (appO s.o o.dst u') v w hne
    have e2 : appO (appO s.o x.dst u) o.dst u' = appO (appO s.o o.dst u') x.dst u := by
      cases u with
      | none => rfl
      | set j X => exact absurd rfl (hx.upd m1 j X)
      | put l => exact absurd rfl (hx.put mx l)
      | new X =>
        obtain ⟨i, hi, _⟩ := hx.new
        cases u' with
        | none => rfl
        | set j Y => exact absurd rfl (ho.upd m2 j Y)
        | put l => exact absurd rfl (ho.put mo l)
        | new Y =>
          obtain ⟨j, hj, _⟩ := ho.new
          simp only [appO, hi, hj]
          exact up_comm _ _ _ (fun q => hne i hi (by rw [hj, q]))
    rw [St.mk.injEq]
    exact ⟨e1, e2⟩
  · -- x looks at no object
    obtain ⟨_, rfl⟩ := How.pure (s := s) (t := s) (d := none) hp (fun i _ => rfl) (by simp) hx
    have ht : (s.app x.dst ⟨True, v, .none⟩) = s.put x.dst v := rfl
    rw [ht] at ho ⊢
    have nx : Nigh s (s.put x.dst v) x.dst := ⟨fun i hi => by
      cases hd : x.dst with
      | none => rfl
      | some j => exact up_other _ _ (hi j hd), fun i _ => by cases (x : Oper).dst <;> rfl⟩
    have ho' : How P τ cb κ ops o s w u' := (How.nigh nx hcl (fun i hi => lo1 i hi) (fun i hi => by cases x.dst <;> rfl) (.inr (.inr (by cases x.dst <;> rfl)))).2 ho
    have hx' : How P τ cb κ ops x (s.app o.dst ⟨True, w, u'⟩) v .none := (How.pure (d := o.dst) hp (fun i hi => by
      rw [app_eq _ _ _ _ (dn ho')]
      show (s.put o.dst w).t i = s.t i
      cases hd : o.dst with
      | none => rfl
      | some j => exact up_other _ _ (hi j hd)) (fun i hi => lo3 i hi) hx).1
    refine ⟨_, stepR_how.2 ⟨w, u', ho', rfl⟩, stepR_how.2 ⟨v, .none, hx', ?_⟩⟩
    rw [app_eq _ _ _ _ (dn ho), app_eq _ _ _ _ (dn hx'), app_eq _ _ _ _ (dn ho')]
    have e1 := put_t_comm s s.o (appO s.o o.dst u') v w hne
    have e0 : s.put x.dst v = ⟨(s.put x.dst v).t, s.o⟩ := by cases x.dst <;> rfl
    rw [St.mk.injEq]
    refine ⟨by rw [e0]; exact e1, ?_⟩
    have : (s.put x.dst v).o = s.o := by cases x.dst <;> rfl
    rw [this]; rfl
  · -- o looks at no object
    have hn : ∀ i, (∀ j, x.dst = some j → i ≠ j) → s.t i = (s.app x.dst ⟨True, v, u⟩).t i := fun i hi => by
      rw [app_eq _ _ _ _ (dn hx)]
      show s.t i = (s.put x.dst v).t i
      cases hd : x.dst with
      | none => rfl
      | some j => exact (up_other _ _ (hi j hd)).symm
    obtain ⟨ho', rfl⟩ := How.pure (t := s) (d := x.dst) hp hn (fun i hi => lo1 i hi) ho
    have nx : Nigh s (s.put o.dst w) o.dst := ⟨fun i hi => by
      cases hd : o.dst with
      | none => rfl
      | some j => exact up_other _ _ (hi j hd), fun i _ => by cases o.dst <;> rfl⟩
    have hx' : How P τ cb κ ops x (s.put o.dst w) v u := (How.nigh nx hcl (fun i hi => lo3 i hi) (fun i hi => by cases o.dst <;> rfl) (.inr (.inr (by cases o.dst <;> rfl)))).1 hx
    refine ⟨_, stepR_how.2 ⟨w, .none, ho', rfl⟩, stepR_how.2 ⟨v, u, hx', ?_⟩⟩
    show (s.app x.dst ⟨True, v, u⟩).put o.dst w = (s.put o.dst w).app x.dst ⟨True, v, u⟩
    rw [app_eq _ _ _ _ (dn hx), app_eq _ _ _ _ (dn hx')]
    have e1 := put_t_comm s (appO s.o x.dst u) s.o v w hne
    have e0 : s.put o.dst w = ⟨(s.put o.dst w).t, s.o⟩ := by cases o.dst <;> rfl
    have e2 : (s.put o.dst w).o = s.o := by cases o.dst <;> rfl
    have e3 : ((⟨(s.put x.dst v).t, appO s.o x.dst u⟩ : St).put o.dst w) = ⟨((⟨(s.put x.dst v).t, appO s.o x.dst u⟩ : St).put o.dst w).t, appO s.o x.dst u⟩ := by cases o.dst <;> rfl
    rw [e3, St.mk.injEq]
    refine ⟨by rw [e0]; exact e1, by rw [e2]⟩

theorem bubble {ops : Array Oper} (hτ : TTOk P τ) (hd : ∀ (i : Nat) (o : Oper) (d : Nat), ops[i]? = some o → o.dst = some d → d < F.n) {i : Nat} {o : Oper} (ho : ops[i]? = some o) : ∀ (xs ys : List Nat) {β : Bet} {s s' : St} {a : Act} {W : World},
    (∀ x ∈ xs, ∀ p : Oper, ops[x]? = some p → freeB cb ops p o = true) → Sim F β s a W → RunI P τ cb κ ops (xs ++ i :: ys) s s' → ∃ s1, StepR P τ cb κ ops o s s1 ∧ RunI P τ cb κ ops (xs ++ ys) s1 s'
  | [], ys, β, s, s', a, W, _, _, h => by
    obtain ⟨o', s1, h1, h2, h3⟩ := h
    rw [ho] at h1; injection h1 with h1; subst h1
    exact ⟨s1, h2, h3⟩
  | x :: xs, ys, β, s, s', a, W, hf, hs, h => by
    obtain ⟨p, t, h1, h2, h3⟩ := h
    obtain ⟨β2, a2, W2, hs2⟩ := step_sim hτ hs (fun d hdd => hd x p d h1 hdd) h2
    obtain ⟨t1, k1, k2⟩ := bubble hτ hd ho xs ys (fun y hy => hf y (List.mem_cons_of_mem _ hy)) hs2 h3
    obtain ⟨s1, k3, k4⟩ := swap (hf x List.mem_cons_self p h1) hs.closed h2 k1
    exact ⟨s1, k3, p, t1, h1, k4, k2⟩

theorem ordB_listed {ops : Array Oper} {listed : Array Bool} (hdn : ∀ (j : Nat) (oj : Oper), ops[j]? = some oj → listed.getD j false = true → ∀ e ∈ oj.after, Region.binds .any e = true → listed.getD e.on false = true) :
    ∀ (n j x : Nat), ordB ops n j x = true → (∀ oj : Oper, ops[j]? = some oj → ∀ e ∈ oj.after, Region.binds .any e = true → listed.getD e.on false = true) → listed.getD x false = true
  | 0, j, x, h, _ => by cases h
  | n + 1, j, x, h, hj => by
    unfold ordB at h
    split at h
    · rename_i o ho
      obtain ⟨e, he, hb⟩ := Array.any_eq_true'.1 h
      rw [Bool.and_eq_true, Bool.or_eq_true] at hb
      obtain ⟨hb, hx⟩ := hb
      have hl := hj o ho e he hb
      rcases hx with hx | hx
      · have : e.on = x := by simpa using hx
        rw [← this]; exact hl
      · exact ordB_listed hdn n e.on x hx (fun oj hoj => hdn e.on oj hoj hl)
    · cases h

theorem drawn_any {ops : Array Oper} (hτ : TTOk P τ) (hok : drawOk cb ops = true) (hd : ∀ (i : Nat) (o : Oper) (d : Nat), ops[i]? = some o → o.dst = some d → d < F.n) {Q : Exit → Act → World → Prop} {send : St} (hQ : ∀ β a W, Sim F β send a W → Q .normal a W) :
    ∀ (fuel : Nat) (listed : Array Bool) (l : List Nat) (β : Bet) (s : St) (a : Act) (W : World), l.length ≤ fuel → (∀ i, i ∈ l ↔ i < ops.size ∧ listed.getD i true = false) → l.Pairwise (· < ·) →
      (∀ (j : Nat) (oj : Oper), ops[j]? = some oj → listed.getD j false = true → ∀ e ∈ oj.after, Region.binds .any e = true → listed.getD e.on false = true) → listed.size = ops.size →
      Sim F β s a W → RunI P τ cb κ ops l s send → (∀ (i : Nat) (o : Oper), ops[i]? = some o → ∀ e ∈ o.after, Region.binds .any e = true → e.on < i) → wpAny P .any ops Q fuel listed a W := by
  intro fuel
  have base : ∀ (listed : Array Bool) (l : List Nat) (β : Bet) (s : St) (a : Act) (W : World), l = [] → (∀ i, i ∈ l ↔ i < ops.size ∧ listed.getD i true = false) → Sim F β s a W → RunI P τ cb κ ops l s send → Region.ready .any ops listed = [] ∧ Q .normal a W := by
    intro listed l β s a W hl hm hs hr
    subst hl
    have e : send = s := hr
    subst e
    refine ⟨?_, hQ β a W hs⟩
    cases hrd : Region.ready .any ops listed with
    | nil => rfl
    | cons i is =>
      have hi : i ∈ Region.ready .any ops listed := by rw [hrd]; simp
      obtain ⟨h1, o, h2, _⟩ := mem_ready.1 hi
      have := (hm i).2 ⟨(Array.getElem?_eq_some_iff.1 h2).1, h1⟩
      cases this
  induction fuel with
  | zero =>
    intro listed l β s a W hl hm hp hdn hsz hs hr hlt
    exact base listed l β s a W (List.eq_nil_of_length_eq_zero (by omega)) hm hs hr
  | succ fuel ih =>
    intro listed l β s a W hl hm hp hdn hsz hs hr hlt
    refine ⟨fun hrd => ?_, fun i hi => ?_⟩
    · cases l with
      | nil => exact (base listed [] β s a W rfl hm hs hr).2
      | cons i is =>
        exfalso
        have hi := (hm i).1 List.mem_cons_self
        have hrdy : i ∈ Region.ready .any ops listed := by
          rw [mem_ready]
          obtain ⟨o, ho⟩ : ∃ o, ops[i]? = some o := ⟨ops[i]'hi.1, Array.getElem?_eq_getElem hi.1⟩
          refine ⟨hi.2, o, ho, fun e he hb => ?_⟩
          have hlte := hlt i o ho e he hb
          cases hq : listed.getD e.on false with
          | true => rfl
          | false =>
            exfalso
            have : e.on ∈ i :: is := (hm e.on).2 ⟨by omega, by
              have hle : e.on < listed.size := by omega
              simp only [Array.getD_eq_getD_getElem?, Array.getElem?_eq_getElem hle, Option.getD_some] at hq ⊢; exact hq⟩
            rcases List.mem_cons.1 this with q | q
            · omega
            · have := List.rel_of_pairwise_cons hp q; omega
        rw [hrd] at hrdy; cases hrdy
    · obtain ⟨h1, o, ho, hall⟩ := mem_ready.1 hi
      have hil : i ∈ l := (hm i).2 ⟨(Array.getElem?_eq_some_iff.1 ho).1, h1⟩
      obtain ⟨xs, ys, rfl⟩ := List.append_of_mem hil
      have hxs : ∀ x ∈ xs, x < i := fun x hx => by
        have := List.pairwise_append.1 hp
        exact this.2.2 x hx i List.mem_cons_self
      have hfree : ∀ x ∈ xs, ∀ p : Oper, ops[x]? = some p → freeB cb ops p o = true := fun x hx p hpx => by
        have hxi := hxs x hx
        have hio := (Array.getElem?_eq_some_iff.1 ho).1
        have hok := hok
        unfold drawOk at hok
        rw [masksK_eq] at hok
        have h3 := List.all_eq_true.1 (List.all_eq_true.1 hok i (List.mem_range.2 hio)) x (List.mem_range.2 hxi)
        simp only [hpx, ho, Bool.or_eq_true] at h3
        rcases h3 with h3 | h3
        · exact h3
        · exfalso
          have hlx := ordM_listed hdn h3 (fun oj hoj e he hb => by rw [ho] at hoj; injection hoj with hoj; subst hoj; exact hall e he hb)
          have hxl := (hm x).1 (List.mem_append_left _ hx)
          have hle : x < listed.size := by omega
          have h4 := hxl.2
          simp only [Array.getD_eq_getD_getElem?, Array.getElem?_eq_getElem hle, Option.getD_some] at hlx h4
          rw [hlx] at h4; cases h4
      obtain ⟨s1, k1, k2⟩ := bubble hτ hd ho xs ys hfree hs hr
      unfold wpOp
      simp only [ho]
      have hstep := step_ok hτ hs (fun d hdd => hd i o d ho hdd) k1 (K := wpAny P .any ops Q fuel (listed.setIfInBounds i true)) (Q := Q) (fun β' a' W' hs' => ?_)
      · split
        · rename_i hw; rw [if_pos hw] at hstep; exact .inl hstep
        · rename_i hw; rw [if_neg hw] at hstep; exact hstep
      · have hisz : i < listed.size := by have := (Array.getElem?_eq_some_iff.1 ho).1; omega
        have hnd : i ∉ xs ++ ys := fun q => by
          have hp' := List.pairwise_append.1 hp
          rcases List.mem_append.1 q with q | q
          · have := hxs i q; omega
          · have := List.rel_of_pairwise_cons hp'.2.1 q; omega
        refine ih (listed.setIfInBounds i true) (xs ++ ys) β' s1 a' W' (by simp at hl ⊢; omega) (fun j => ?_) ?_ (fun j oj hoj hlj e he hb => ?_) (by simpa using hsz) hs' k2 hlt
        · have hj := hm j
          by_cases e : j = i
          · subst e
            constructor
            · intro q; exact absurd q hnd
            · rintro ⟨_, q⟩; simp [hisz] at q
          · have e2 : (listed.setIfInBounds i true).getD j true = listed.getD j true := getD_set_ne true (Ne.symm e)
            rw [e2, ← hj]
            simp only [List.mem_append, List.mem_cons]
            constructor
            · rintro (q | q)
              · exact .inl q
              · exact .inr (.inr q)
            · rintro (q | q | q)
              · exact .inl q
              · exact absurd q e
              · exact .inr q
        · have hp' := List.pairwise_append.1 hp
          exact List.pairwise_append.2 ⟨hp'.1, (List.pairwise_cons.1 hp'.2.1).2, fun x hx y hy => hp'.2.2 x hx y (List.mem_cons_of_mem _ hy)⟩
        · by_cases q : j = i
          · subst q
            rw [ho] at hoj; injection hoj with hoj; subst hoj
            exact getD_set_true (hall e he hb)
          · rw [getD_set_ne false (Ne.symm q)] at hlj
            exact getD_set_true (hdn j oj hoj hlj e he hb)

def backB (ops : Array Oper) : Bool := (List.range ops.size).all fun i => match ops[i]? with
  | some o => o.after.all fun e => !Region.binds .any e || decide (e.on < i)
  | none => true

theorem vwp_region_draw (hτ : TTOk P τ) (hm : P.follows .mixedOrders = true) {id : Nat} {ops : Array Oper} {Q : Exit → St → Prop} {s : St} (hd : ops.toList.all (fun o => match o.dst with | some i => decide (i < F.n) | none => true) = true) (hok : drawOk cb ops = true) (hb : backB ops = true)
    (h : vops P τ cb κ ops ops.toList s (fun s' => Q .normal s')) : VWp P F (.region id ops true) Q s := fun β a W hs => by
  obtain ⟨send, hr, hq⟩ := vops_run ops.toList 0 s (fun j => by simp) h
  rw [Array.length_toList, ← List.range_eq_range'] at hr
  refine wp_region_any hm ?_
  have hs' : Sim F β s a { W with drawn := W.drawn + 1 } := hs.world (Chg.drew [] W)
  refine drawn_any hτ hok (fun i o d ho hdd => ?_) (fun β' a' W' h' => ⟨send, β', hq, h'⟩) ops.size (Array.replicate ops.size false) (List.range ops.size) β s a _ (by simp) (fun i => ?_) List.pairwise_lt_range (fun j oj hj hl => ?_) (by simp) hs' hr (fun i o ho e he hbn => ?_)
  · have := List.all_eq_true.1 hd o (by simpa using Array.mem_of_getElem? ho)
    rw [hdd] at this; simpa using this
  · rw [List.mem_range]
    constructor
    · intro q; exact ⟨q, by simp [q]⟩
    · exact fun q => q.1
  · exfalso
    have hlt := (Array.getElem?_eq_some_iff.1 hj).1
    simp [hlt] at hl
  · have := List.all_eq_true.1 hb i (List.mem_range.2 (Array.getElem?_eq_some_iff.1 ho).1)
    simp only [ho] at this
    have h2 := Array.all_eq_true_iff_forall_mem.1 this e he
    rw [hbn] at h2; simpa using h2

end
end Go.Proofs.YtedbbinlcdgkoaaGreatDoor
