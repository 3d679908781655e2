import Derived.Orders
import Derived.Test.YtedbbinlcdgkoaaGreatDoorVK
/- The value machine: a region that draws its order does what it does in the text's order, if what may stand in either order does not touch. No program in sight. -/
namespace Go.Proofs.YtedbbinlcdgkoaaGreatDoor
open Go.RowKit
set_option linter.unusedVariables false
set_option linter.unusedSimpArgs false

def mutB : Op → Bool
  | .store .. | .mapUpdate .. | .insert .. => true
  | .call c => match c.callee with | .builtin .append | .builtin .copy => true | _ => false
  | _ => false
def pureB : Op → Bool
  | .move _ | .assign _ | .build .. | .pick .. | .binOp .. | .unOp .. | .extract .. | .field .. | .fieldAddr .. | .nilCheck _ | .index .. => true
  | .call c => match c.callee with | .builtin .len | .builtin .min | .builtin .max => true | _ => false
  | _ => false
def freeB (cb : Cb) (ops : Array Oper) (x o : Oper) : Bool :=
  x.apart ops o && ((!mutB x.op && !mutB o.op && ((!bAt cb x.dst || (calleeOf x.op).isNone) && (!bAt cb o.dst || (calleeOf o.op).isNone))) || pureB x.op || pureB o.op)
def ordB (ops : Array Oper) : Nat → Nat → Nat → Bool
  | 0, _, _ => false
  | n + 1, j, x => match ops[j]? with
    | some o => o.after.any fun e => Region.binds .any e && (e.on == x || ordB ops n e.on x)
    | none => false
def frc {α : Type} (n : Nat) (f : Nat → α) : α := match n with
  | 0 => f 0
  | k + 1 => f (k + 1)
def stepM (n : Nat) (acc : List Nat) (o : Oper) : Nat := o.after.toList.foldl (fun s e => if Region.binds .any e then s ||| 2 ^ e.on ||| (if e.on < n then acc.getD (n - 1 - e.on) 0 else 0) else s) 0
def masksK {α : Type} : List Oper → Nat → List Nat → (List Nat → α) → α
  | [], _, acc, k => k acc
  | o :: os, n, acc, k => frc (stepM n acc o) fun m => frc (n + 1) fun n => masksK os n (m :: acc) k
def masksL : List Oper → Nat → List Nat → List Nat
  | [], _, acc => acc
  | o :: os, n, acc => masksL os (n + 1) (stepM n acc o :: acc)
theorem frc_eq {α : Type} (n : Nat) (f : Nat → α) : frc n f = f n := by cases n <;> rfl
theorem masksK_eq {α : Type} : ∀ (l : List Oper) (n : Nat) (acc : List Nat) (k : List Nat → α), masksK l n acc k = k (masksL l n acc)
  | [], _, _, _ => rfl
  | o :: os, n, acc, k => by unfold masksK masksL; rw [frc_eq, frc_eq, masksK_eq]
def ordM (ms : List Nat) (n j x : Nat) : Bool := decide (j < n) && (ms.getD (n - 1 - j) 0).testBit x
def drawOk (cb : Cb) (ops : Array Oper) : Bool :=
  masksK ops.toList 0 [] fun ms => (List.range ops.size).all fun j => (List.range j).all fun x => match ops[x]?, ops[j]? with
    | some p, some o => freeB cb ops p o || ordM ms ops.size j x
    | _, _ => true
theorem or_bits (n : Nat) (acc : List Nat) (x : Nat) : ∀ (l : List Edge) (s : Nat), (l.foldl (fun s e => if Region.binds .any e then s ||| 2 ^ e.on ||| (if e.on < n then acc.getD (n - 1 - e.on) 0 else 0) else s) s).testBit x = true →
    s.testBit x = true ∨ ∃ e ∈ l, Region.binds .any e = true ∧ (e.on = x ∨ (e.on < n ∧ (acc.getD (n - 1 - e.on) 0).testBit x = true))
  | [], s, h => .inl h
  | e :: l, s, h => by
    rw [List.foldl_cons] at h
    rcases or_bits n acc x l _ h with h | ⟨e', he', h⟩
    · by_cases hb : Region.binds .any e = true
      · rw [if_pos hb, Nat.testBit_or, Nat.testBit_or, Bool.or_eq_true, Bool.or_eq_true] at h
        rcases h with (h | h) | h
        · exact .inl h
        · rw [Nat.testBit_two_pow] at h
          exact .inr ⟨e, List.mem_cons_self, hb, .inl (of_decide_eq_true h)⟩
        · by_cases hn : e.on < n
          · rw [if_pos hn] at h; exact .inr ⟨e, List.mem_cons_self, hb, .inr ⟨hn, h⟩⟩
          · rw [if_neg hn, Nat.zero_testBit] at h; cases h
      · rw [if_neg hb] at h; exact .inl h
    · exact .inr ⟨e', List.mem_cons_of_mem _ he', h⟩
theorem masks_listed {ops : Array Oper} {listed : Array Bool} (hdn : ∀ (j : Nat) (oj : Oper), ops[j]? = some oj → listed.getD j false = true → ∀ e ∈ oj.after, Region.binds .any e = true → listed.getD e.on false = true) :
    ∀ (l : List Oper) (n : Nat) (acc : List Nat), (∀ j, l[j]? = ops[n + j]?) → n + l.length = ops.size →
      (∀ j, j < n → ∀ x, (acc.getD (n - 1 - j) 0).testBit x = true → (∀ oj : Oper, ops[j]? = some oj → ∀ e ∈ oj.after, Region.binds .any e = true → listed.getD e.on false = true) → listed.getD x false = true) →
      ∀ j, j < ops.size → ∀ x, ((masksL l n acc).getD (ops.size - 1 - j) 0).testBit x = true → (∀ oj : Oper, ops[j]? = some oj → ∀ e ∈ oj.after, Region.binds .any e = true → listed.getD e.on false = true) → listed.getD x false = true
  | [], n, acc, hl, hn, h, j, hj, x, hx, ho => h j (by simp at hn; omega) x (by rw [show n = ops.size by simpa using hn]; exact hx) ho
  | o :: os, n, acc, hl, hn, h, j, hj, x, hx, ho => by
    refine masks_listed hdn os (n + 1) (stepM n acc o :: acc) (fun j => by have := hl (j + 1); rw [List.getElem?_cons_succ] at this; rw [this]; congr 1; omega) (by rw [List.length_cons] at hn; omega) (fun j' hj' x hx ho' => ?_) j hj x hx ho
    rcases Nat.lt_or_ge j' n with hlt | hge
    · rw [show n + 1 - 1 - j' = (n - 1 - j') + 1 by omega, List.getD_cons_succ] at hx
      exact h j' hlt x hx ho'
    · obtain rfl : j' = n := by omega
      rw [show j' + 1 - 1 - j' = 0 by omega, List.getD_cons_zero] at hx
      have hoo : ops[j']? = some o := by have := hl 0; simpa using this.symm
      rcases or_bits j' acc x _ _ hx with h0 | ⟨e, he, hb, h1⟩
      · rw [Nat.zero_testBit] at h0; cases h0
      · have he : e ∈ o.after := by simpa using he
        have hle := ho' o hoo e he hb
        rcases h1 with rfl | ⟨hen, h1⟩
        · exact hle
        · exact h e.on hen x h1 (fun oj hoj => hdn e.on oj hoj hle)
theorem ordM_listed {ops : Array Oper} {listed : Array Bool} (hdn : ∀ (j : Nat) (oj : Oper), ops[j]? = some oj → listed.getD j false = true → ∀ e ∈ oj.after, Region.binds .any e = true → listed.getD e.on false = true) {j x : Nat}
    (h : ordM (masksL ops.toList 0 []) ops.size j x = true) (hj : ∀ oj : Oper, ops[j]? = some oj → ∀ e ∈ oj.after, Region.binds .any e = true → listed.getD e.on false = true) : listed.getD x false = true := by
  unfold ordM at h
  rw [Bool.and_eq_true] at h
  exact masks_listed hdn ops.toList 0 [] (fun j => by simp) (by simp) (fun j hj => by omega) j (of_decide_eq_true h.1) x h.2 hj

section
variable {P : Program} {τ : TT} {cb : Cb} {κ : Fx} {F : Env}

inductive StepR (P : Program) (τ : TT) (cb : Cb) (κ : Fx) (ops : Array Oper) (o : Oper) (s : St) : St → Prop where
  | run {s' : St} : (o.guard = none ∨ ∃ j want d, o.guard = some (j, want) ∧ (ops[j]?).bind (·.dst) = some d ∧ s.t d = .bool want) → vstep P τ cb κ o s (· = s') → StepR P τ cb κ ops o s s'
  | pass {j d : Nat} {want : Bool} : o.guard = some (j, want) → (ops[j]?).bind (·.dst) = some d → (isUndef (s.t d) = true ∨ s.t d = .bool (!want)) → StepR P τ cb κ ops o s (s.put o.dst (.raw undef))

theorem vstep_ex {o : Oper} {s : St} {K : St → Prop} (h : vstep P τ cb κ o s K) : ∃ s', vstep P τ cb κ o s (· = s') ∧ K s' := by
  unfold vstep at h ⊢
  split at h
  · split at h <;> try (exact h.elim)
    rcases h with h | ⟨hc, r1, os1, h1, h0, h2⟩
    · split at h <;> try (exact h.elim)
      obtain ⟨r, h1, h0, h2⟩ := h
      exact ⟨_, .inl ⟨r, h1, h0, rfl⟩, h2⟩
    · exact ⟨_, .inr ⟨hc, r1, os1, h1, h0, rfl⟩, h2⟩
  · split at h <;> try (exact h.elim)
    obtain ⟨h1, h2, h3⟩ := h
    exact ⟨_, ⟨h1, h2, rfl⟩, h3⟩

def RunI (P : Program) (τ : TT) (cb : Cb) (κ : Fx) (ops : Array Oper) : List Nat → St → St → Prop
  | [], s, s' => s' = s
  | i :: is, s, s' => ∃ o s1, ops[i]? = some o ∧ StepR P τ cb κ ops o s s1 ∧ RunI P τ cb κ ops is s1 s'

theorem vops_run {ops : Array Oper} {K : St → Prop} : ∀ (l : List Oper) (k : Nat) (s : St), (∀ j, l[j]? = ops[k + j]?) → vops P τ cb κ ops l s K → ∃ s', RunI P τ cb κ ops (List.range' k l.length) s s' ∧ K s'
  | [], k, s, _, h => ⟨s, rfl, h⟩
  | o :: os, k, s, hl, h => by
    have h0 : ops[k]? = some o := by have := hl 0; simpa using this.symm
    have hl' : ∀ j, os[j]? = ops[k + 1 + j]? := fun j => by have := hl (j + 1); rw [show k + 1 + j = k + (j + 1) from by omega]; simpa using this
    have fin : ∀ s1, StepR P τ cb κ ops o s s1 → vops P τ cb κ ops os s1 K → ∃ s', RunI P τ cb κ ops (List.range' k (o :: os).length) s s' ∧ K s' := fun s1 h1 h2 => by
      obtain ⟨s', h3, h4⟩ := vops_run os (k + 1) s1 hl' h2
      exact ⟨s', by rw [List.length_cons, List.range'_succ]; exact ⟨o, s1, h0, h1, h3⟩, h4⟩
    unfold vops at h
    split at h
    · rename_i hg
      obtain ⟨s1, h1, h2⟩ := vstep_ex h
      exact fin s1 (.run (.inl hg) h1) h2
    · rename_i j want hg
      split at h <;> try (exact h.elim)
      rename_i d hj
      split at h
      · rename_i b hb
        split at h
        · rename_i e; subst e
          obtain ⟨s1, h1, h2⟩ := vstep_ex h
          exact fin s1 (.run (.inr ⟨j, _, d, hg, hj, hb⟩) h1) h2
        · rename_i e
          exact fin _ (.pass hg hj (.inr (by rw [hb]; cases b <;> cases want <;> simp_all))) h
      · split at h
        · rename_i hu
          exact fin _ (.pass hg hj (.inl hu)) h
        · exact h.elim

theorem step_ok (hτ : TTOk P τ) {ops : Array Oper} {o : Oper} {β : Bet} {s s1 : St} {a : Act} {W : World} (h : Sim F β s a W) (hd : ∀ i, o.dst = some i → i < F.n) (hs : StepR P τ cb κ ops o s s1) {K : Act → World → Prop} {Q : Exit → Act → World → Prop}
    (hK : ∀ β' a' W', Sim F β' s1 a' W' → K a' W') : if Region.wanted o (yielded ops a.tmps) = true then o.wp P a W K Q else K (a.put o.dst undef) W := by
  cases hs with
  | run hg hv =>
    have hw : Region.wanted o (yielded ops a.tmps) = true := by
      rcases hg with hg | ⟨j, want, d, hg, hj, hb⟩
      · unfold Region.wanted; rw [hg]
      · rw [(wanted_ok h hg hj).1 _ hb]; simp
    rw [if_pos hw]
    exact vstep_ok hτ h hd hv (fun s' β' a' W' e hs' => by subst e; exact hK β' a' W' hs')
  | pass hg hj hu =>
    have hw : Region.wanted o (yielded ops a.tmps) = false := by
      rcases hu with hu | hu
      · exact (wanted_ok h hg hj).2 hu
      · rw [(wanted_ok h hg hj).1 _ hu]; rename_i want; cases want <;> rfl
    rw [if_neg (by rw [hw]; simp)]
    exact hK β _ W (h.put o.dst hd (x := .raw undef) (by simp [V.refs]) rfl)

theorem wp_exists {o : Oper} {a : Act} {W : World} {K : Act → World → Prop} (h : o.wp P a W K (fun _ _ _ => False)) : ∃ a' W', K a' W' := by
  unfold Oper.wp at h
  generalize (execOp a.eval o).run P W = r at h
  cases r with
  | ok n w =>
    cases n <;> simp only [Oper.upon] at h <;> try (exact h.elim)
    case enter f args =>
      obtain ⟨e, w', fr, hR, _⟩ := h []
      cases e with
      | returned v => exact ⟨_, _, hR⟩
      | panicked c => exact hR.elim
      | outgrown => obtain ⟨_, _, q⟩ := hR; exact q.elim
    case row r args =>
      obtain ⟨v, w', hR, _⟩ := h default []
      exact ⟨_, _, hR⟩
    all_goals exact ⟨_, _, h⟩
  | halt x w => cases x <;> simp only [Oper.upon] at h
theorem step_sim (hτ : TTOk P τ) {ops : Array Oper} {o : Oper} {β : Bet} {s s1 : St} {a : Act} {W : World} (h : Sim F β s a W) (hd : ∀ i, o.dst = some i → i < F.n) (hs : StepR P τ cb κ ops o s s1) : ∃ β' a' W', Sim F β' s1 a' W' := by
  have := step_ok hτ h hd hs (K := fun a' W' => ∃ β', Sim F β' s1 a' W') (Q := fun _ _ _ => False) (fun β' a' W' h' => ⟨β', h'⟩)
  split at this
  · obtain ⟨a', W', β', h'⟩ := wp_exists this; exact ⟨β', a', W', h'⟩
  · obtain ⟨β', h'⟩ := this; exact ⟨β', _, _, h'⟩

mutual
theorem view_congr {os os' : Nat → Option Ob} : ∀ (x : V), (∀ r ∈ x.refs, os r.1 = os' r.1) → view os x = view os' x
  | .agg l, h => by rw [view, view, viewL_congr l h]
  | .tup l, h => by rw [view, view, viewL_congr l h]
  | .fn f l, h => by rw [view, view, viewL_congr l h]
  | .own o n, h => by have := h (o, some n) (by simp [V.refs]); simp only at this; rw [view, view, this]
  | .ptr _ _, _ => by rw [view, view]
  | .mp _, _ => by rw [view, view]
  | .hs _ _, _ => by rw [view, view]
  | .int _ _, _ => by rw [view, view]
  | .bool _, _ => by rw [view, view]
  | .str _, _ => by rw [view, view]
  | .sl _ _, _ => by rw [view, view]
  | .nil, _ => by rw [view, view]
  | .rp _ _, _ => by rw [view, view]
  | .raw _, _ => by rw [view, view]
  | .any, _ => by rw [view, view]
theorem viewL_congr {os os' : Nat → Option Ob} : ∀ (l : List V), (∀ r ∈ V.refsL l, os r.1 = os' r.1) → viewL os l = viewL os' l
  | [], _ => rfl
  | x :: xs, h => by
    rw [viewL, viewL, view_congr x (fun r hr => h r (List.mem_append_left _ hr)), viewL_congr xs (fun r hr => h r (List.mem_append_right _ hr))]
end
theorem obV_congr {os os' : Nat → Option Ob} : ∀ (x : V), (∀ r ∈ x.refs, os r.1 = os' r.1) → obV os x = obV os' x
  | .ptr o p, h => h (o, none) (by simp [V.refs])
  | .mp o, h => h (o, none) (by simp [V.refs])
  | .own o n, h => h (o, some n) (by simp [V.refs])
  | .agg _, _ | .tup _, _ | .fn _ _, _ | .hs _ _, _ | .int _ _, _ | .bool _, _ | .str _, _ | .sl _ _, _ | .nil, _ | .rp _ _, _ | .raw _, _ | .any, _ => rfl

theorem bnd_congr {ρ ρ' : Operand → V} {x : Option Operand} {d : Int} (h : ∀ y, x = some y → ρ y = ρ' y) : bnd ρ x d = bnd ρ' x d := by
  cases x with
  | none => rfl
  | some y => simp only [bnd, h y rfl]
theorem sliceV_congr {τ : TT} {T : TypeId} {x : V} {lo hi mx : Option Operand} {ρ ρ' : Operand → V} {vw : Option V} (h1 : ∀ y, lo = some y → ρ y = ρ' y) (h2 : ∀ y, hi = some y → ρ y = ρ' y) : sliceV τ T x lo hi mx ρ vw = sliceV τ T x lo hi mx ρ' vw := by
  unfold sliceV
  simp only [bnd_congr h1, bnd_congr h2]
theorem viewParts_congr {vw vw' : V → Option V} : ∀ {l : List (Nat × V)}, (∀ p ∈ l, vw p.2 = vw' p.2) → viewParts vw l = viewParts vw' l
  | [], _ => rfl
  | (i, x) :: l, h => by
    have h1 := h (i, x) List.mem_cons_self
    simp only at h1
    simp only [viewParts, h1, viewParts_congr (fun p hp => h p (List.mem_cons_of_mem _ hp))]
theorem builtV_congr {τ : TT} {b : Builtin} {tys : List TypeId} {args : List V} {ob ob' : V → Option Ob} {vw vw' : V → Option V} {d : Option Nat} {hot : Bool} (h1 : ∀ x ∈ args, ob x = ob' x) (h2 : ∀ x ∈ args, vw x = vw' x) :
    builtV τ b tys args ob vw d hot = builtV τ b tys args ob' vw' d hot := by
  unfold builtV
  split <;> try rfl
  all_goals
    rename_i t tx x y
    rw [h1 x (by simp), h2 y (by simp)]

theorem exec_congr {τ : TT} {hot : Bool} {ρ ρ' : Operand → V} {ob ob' : V → Option Ob} {vw vw' : V → Option V} {d : Option Nat} {op : Op} (hρ : ∀ x ∈ op.operands, ρ x = ρ' x)
    (ho : pureB op = true ∨ ((∀ x ∈ op.operands, ob (ρ x) = ob' (ρ x)) ∧ ∀ x ∈ op.operands, vw (ρ x) = vw' (ρ x))) : exec τ hot ρ ob vw d op = exec τ hot ρ' ob' vw' d op := by
  have pairs : ∀ ps : Array (Nat × Operand), (∀ x ∈ (ps.toList.map (·.2)).toArray, ρ x = ρ' x) → (ps.toList.map fun p => (p.1, ρ p.2)) = ps.toList.map fun p => (p.1, ρ' p.2) := fun ps hp =>
    List.map_congr_left fun p hm => by rw [hp p.2 (by simpa using ⟨p.1, by simpa using hm⟩)]
  cases op <;> simp only [Op.operands] at hρ ho <;> simp only [exec]
  case move x => rw [hρ x (by simp)]
  case assign x => rw [hρ x (by simp)]
  case pick c x y => rw [hρ c (by simp), hρ x (by simp), hρ y (by simp)]
  case box T x => rw [hρ x (by simp)]
  case build T ps => rw [pairs ps hρ]
  case buildSlice T n ps =>
    rcases ho with ho | ⟨_, ho⟩
    · cases ho
    · have e : viewParts vw (ps.toList.map fun p => (p.1, ρ p.2)) = viewParts vw' (ps.toList.map fun p => (p.1, ρ p.2)) := viewParts_congr (fun p hp => by
        obtain ⟨q, hq, rfl⟩ := List.mem_map.1 hp
        exact ho q.2 (by simpa using ⟨q.1, by simpa using hq⟩))
      rw [e, pairs ps hρ]
  case load T x =>
    rcases ho with ho | ⟨ho, _⟩
    · cases ho
    · have e := ho x (by simp)
      have e2 := hρ x (by simp)
      rw [e, e2]
  case store T x y =>
    rcases ho with ho | ⟨ho, _⟩
    · cases ho
    · have e := ho x (by simp)
      have e2 := hρ x (by simp)
      have e3 := hρ y (by simp)
      rw [e, e2, e3]
  case binOp op t x y ty => rw [hρ x (by simp), hρ y (by simp)]
  case unOp op t x => rw [hρ x (by simp)]
  case convert src dst x =>
    rcases ho with ho | ⟨_, ho⟩
    · cases ho
    · have e := ho x (by simp)
      have e2 := hρ x (by simp)
      rw [e, e2]
  case makeFunc f first caps =>
    have e : caps.toList.map ρ = caps.toList.map ρ' := List.map_congr_left fun x hx => hρ x (by simp; exact .inr (by simpa using hx))
    rw [e]
  case mapUpdate T m k x =>
    rcases ho with ho | ⟨ho, ho2⟩
    · cases ho
    · have e := ho m (by simp)
      have e1 := ho2 x (by simp)
      have e2 := hρ m (by simp)
      have e3 := hρ k (by simp)
      have e4 := hρ x (by simp)
      rw [e, e1, e2, e3, e4]
  case insert T m k x =>
    rcases ho with ho | ⟨ho, ho2⟩
    · cases ho
    · have e := ho m (by simp)
      have e1 := ho2 x (by simp)
      have e2 := hρ m (by simp)
      have e3 := hρ k (by simp)
      have e4 := hρ x (by simp)
      rw [e, e1, e2, e3, e4]
  case lookup T m k okc =>
    rcases ho with ho | ⟨ho, _⟩
    · cases ho
    · have e := ho m (by simp)
      have e2 := hρ m (by simp)
      have e3 := hρ k (by simp)
      rw [e, e2, e3]
  case makeSlice T l c => rw [hρ l (by simp), hρ c (by simp)]
  case slice T x lo hi mx =>
    rcases ho with ho | ⟨_, ho⟩
    · cases ho
    · have e := ho x (by simp)
      have e2 := hρ x (by simp)
      rw [e, e2]
      exact sliceV_congr (fun y hy => hρ y (by simp [hy])) (fun y hy => hρ y (by simp [hy]))
  case fieldAddr S x f => rw [hρ x (by simp)]
  case field T x f => rw [hρ x (by simp)]
  case indexAddr T x i =>
    rcases ho with ho | ⟨ho, _⟩
    · cases ho
    · have e := ho x (by simp)
      have e2 := hρ x (by simp)
      have e3 := hρ i (by simp)
      rw [e, e2, e3]
  case index T x i => rw [hρ x (by simp), hρ i (by simp)]
  case extract x i => rw [hρ x (by simp)]
  case nilCheck x => rw [hρ x (by simp)]
  case call c =>
    split
    · rename_i b hb
      have e : c.args.toList.map ρ = c.args.toList.map ρ' := List.map_congr_left fun x hx => hρ x (by simp only [Call.operands]; simp; exact .inr (by simpa using hx))
      rcases ho with ho | ⟨ho1, ho2⟩
      · rw [← e]
        simp only [pureB, hb] at ho
        unfold builtV
        split <;> first | rfl | (cases ho)
      · rw [← e]
        refine builtV_congr (fun y hy => ?_) (fun y hy => ?_)
        · obtain ⟨x, hx, rfl⟩ := List.mem_map.1 hy
          exact ho1 x (by simp only [Call.operands]; simp; exact .inr (by simpa using hx))
        · obtain ⟨x, hx, rfl⟩ := List.mem_map.1 hy
          exact ho2 x (by simp only [Call.operands]; simp; exact .inr (by simpa using hx))
    · rfl

theorem exec_upd {τ : TT} {hot : Bool} {ρ : Operand → V} {ob : V → Option Ob} {vw : V → Option V} {d : Option Nat} {op : Op} {r : Res} (h : exec τ hot ρ ob vw d op = some r) : (mutB op = false → ∀ o X, r.upd ≠ .set o X) ∧ (pureB op = true → r.upd = .none) := by
  have hload : ∀ {ti c p r}, loadC ti c p = some r → r.upd = .none := fun {ti c p r} h => by
    unfold loadC at h; split at h <;> (injection h with h; subst h; rfl)
  have hpart : ∀ {ti c p r}, partV ti c p = some r → r.upd = .none := fun {ti c p r} h => by
    unfold partV at h; split at h <;> (injection h with h; subst h; rfl)
  have none_ok : r.upd = .none → (mutB op = false → ∀ o X, r.upd ≠ .set o X) ∧ (pureB op = true → r.upd = .none) := fun e => ⟨(fun _ o X q => by rw [e] at q; cases q), fun _ => e⟩
  have new_ok : (∃ X, r.upd = .new X) → pureB op = false → (mutB op = false → ∀ o X, r.upd ≠ .set o X) ∧ (pureB op = true → r.upd = .none) := fun ⟨Y, e⟩ hp => ⟨(fun _ o X q => by rw [e] at q; cases q), (fun q => by rw [hp] at q; cases q)⟩
  cases op <;> simp only [exec] at h <;> try (cases h; done)
  case move x => injection h with h; subst h; exact none_ok rfl
  case assign x => injection h with h; subst h; exact none_ok rfl
  case pick c x y => unfold pickV at h; split at h <;> try (cases h; done)
                     all_goals (injection h with h; subst h; exact none_ok rfl)
  case alloc T => exact new_ok (alloc_new h) rfl
  case box T x => exact new_ok (box_new h) rfl
  case build T ps =>
    unfold buildV at h
    split at h <;> try (cases h; done)
    split at h <;> try (cases h; done)
    · split at h <;> try (cases h; done)
      split at h <;> try (cases h; done)
      injection h with h; subst h; exact none_ok rfl
    · split at h <;> try (cases h; done)
      split at h <;> try (cases h; done)
      injection h with h; subst h; exact none_ok rfl
  case buildSlice T n ps =>
    obtain ⟨r0, h0, rfl⟩ := Option.map_eq_some_iff.1 h
    exact new_ok (heat_new (lit_new h0)) rfl
  case load T x =>
    unfold loadV at h
    split at h <;> try (cases h; done)
    · exact none_ok (hload h)
    · exact none_ok (hload h)
  case store T x y => exact ⟨(fun q => by cases q), (fun q => by cases q)⟩
  case makeMap T r0 =>
    cases r0 with
    | some _ => cases h
    | none => exact new_ok (map_new h) rfl
  case mapUpdate T m k x => exact ⟨(fun q => by cases q), (fun q => by cases q)⟩
  case insert T m k x => exact ⟨(fun q => by cases q), (fun q => by cases q)⟩
  case lookup T m k okc =>
    refine none_ok ?_
    unfold lookupV at h
    repeat' (split at h)
    all_goals first | (cases h; done) | (injection h with h; subst h; rfl)
  case binOp op t x y ty =>
    refine none_ok ?_
    unfold binX at h
    split at h
    · rename_i hn
      injection h with h; subst h
      unfold nilV at hn
      repeat' (split at hn)
      all_goals first | (cases hn; done) | (injection hn with hn; subst hn; rfl)
    unfold binV at h
    repeat' (split at h)
    all_goals first | (cases h; done) | (injection h with h; subst h; rfl)
  case unOp op t x => unfold unV at h; split at h <;> first | (cases h; done) | (injection h with h; subst h; exact none_ok rfl)
  case convert src dst x =>
    refine none_ok ?_
    split at h
    · rename_i r' _ hc
      injection h with h; subst h
      unfold convV at hc
      split at hc <;> try (cases hc; done)
      · split at hc <;> try (cases hc; done)
        injection hc with hc; subst hc; rfl
      · split at hc <;> try (cases hc; done)
        injection hc with hc; subst hc; rfl
    · split at h
      · rename_i r' hc
        injection h with h; subst h
        unfold strBytesV at hc
        split at hc <;> try (cases hc; done)
        split at hc <;> try (cases hc; done)
        split at hc <;> try (cases hc; done)
        split at hc <;> try (cases hc; done)
        injection hc with hc; subst hc; rfl
      · unfold bytesStrV at h
        split at h <;> try (cases h; done)
        split at h <;> try (cases h; done)
        split at h <;> try (cases h; done)
        split at h <;> try (cases h; done)
        · split at h <;> try (cases h; done)
          injection h with h; subst h; rfl
        · injection h with h; subst h; rfl
  case makeFunc f first caps => split at h <;> try (cases h; done)
                                injection h with h; subst h; exact none_ok rfl
  case makeSlice T l c =>
    obtain ⟨r0, h0, rfl⟩ := Option.map_eq_some_iff.1 h
    exact new_ok (heat_new (make_new h0)) rfl
  case slice T x lo hi mx =>
    refine none_ok ?_
    unfold sliceV at h
    repeat' (split at h)
    all_goals first | (cases h; done) | (injection h with h; subst h; rfl)
  case fieldAddr S x f =>
    refine none_ok ?_
    unfold fieldAddrV at h
    repeat' (split at h)
    all_goals first | (cases h; done) | (injection h with h; subst h; rfl)
  case field T x f =>
    refine none_ok ?_
    unfold fieldV at h
    repeat' (split at h)
    all_goals first | (cases h; done) | exact hpart h
  case indexAddr T x i =>
    refine none_ok ?_
    unfold indexAddrV at h
    repeat' (split at h)
    all_goals first | (cases h; done) | (injection h with h; subst h; rfl)
  case index T x i =>
    refine none_ok ?_
    unfold indexV at h
    split at h <;> try (cases h; done)
    · split at h <;> try (cases h; done)
      injection h with h; subst h; rfl
    · split at h <;> try (cases h; done)
      split at h <;> try (cases h; done)
      split at h <;> try (cases h; done)
      rename_i r0 hr0
      injection h with h; subst h
      have := hpart hr0
      exact this
  case extract x i => unfold extractV at h; split at h <;> try (cases h; done)
                      split at h <;> try (cases h; done)
                      injection h with h; subst h; exact none_ok rfl
  case nilCheck x => split at h <;> first | (cases h; done) | (injection h with h; subst h; exact none_ok rfl)
  case call c =>
    split at h <;> try (cases h; done)
    rename_i b hb
    unfold builtV at h
    split at h <;> try (cases h; done)
    · refine none_ok ?_
      unfold lenV at h
      split at h <;> try (cases h; done)
      split at h <;> first | (cases h; done) | (injection h with h; subst h; rfl)
    · exact ⟨(fun q => by simp [mutB, hb] at q), (fun q => by simp [pureB, hb] at q)⟩
    · exact ⟨(fun q => by simp [mutB, hb] at q), (fun q => by simp [pureB, hb] at q)⟩
    · refine none_ok ?_
      unfold minV at h
      split at h <;> try (cases h; done)
      split at h <;> try (cases h; done)
      injection h with h; subst h; rfl
    · refine none_ok ?_
      unfold minV at h
      split at h <;> try (cases h; done)
      split at h <;> try (cases h; done)
      injection h with h; subst h; rfl
end
end Go.Proofs.YtedbbinlcdgkoaaGreatDoor
