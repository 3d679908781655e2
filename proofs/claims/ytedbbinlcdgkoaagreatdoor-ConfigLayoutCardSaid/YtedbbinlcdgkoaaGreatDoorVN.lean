import Derived.Test.YtedbbinlcdgkoaaGreatDoorVM

/- The value machine in use: states told as lists, rules with what follows behind a letter. No program in sight. -/
namespace Go.Proofs.YtedbbinlcdgkoaaGreatDoor
open Go.RowKit
set_option linter.unusedVariables false
set_option linter.unusedSimpArgs false

def lk (ts : List (Nat × V)) (i : Nat) : V := match ts with
  | [] => .any
  | (j, x) :: r => if i = j then x else lk r i
def St.of (ts : List (Nat × V)) (os : List (Nat × Ob)) : St := ⟨lk ts, lko os⟩
def keepT (s : St) : List Nat → List (Nat × V)
  | [] => []
  | k :: ks => (k, s.t k) :: keepT s ks
def keepO (s : St) : List Nat → List (Nat × Ob)
  | [] => []
  | k :: ks => match s.o k with
    | some x => (k, x) :: keepO s ks
    | none => keepO s ks
def okT (os : Nat → Option Ob) : List (Nat × V) → Prop
  | [] => True
  | (_, x) :: r => okR os x.refs ∧ okT os r
theorem lk_mem {ts : List (Nat × V)} {i : Nat} : lk ts i = .any ∨ ∃ x, (i, x) ∈ ts ∧ lk ts i = x := by
  induction ts with
  | nil => exact .inl rfl
  | cons p r ih =>
    obtain ⟨j, x⟩ := p
    unfold lk
    by_cases e : i = j
    · subst e; rw [if_pos rfl]; exact .inr ⟨x, List.mem_cons_self, rfl⟩
    · rw [if_neg e]
      rcases ih with ih | ⟨y, h1, h2⟩
      · exact .inl ih
      · exact .inr ⟨y, List.mem_cons_of_mem _ h1, h2⟩
theorem okT_mem {os : Nat → Option Ob} {i : Nat} {x : V} : ∀ {ts : List (Nat × V)}, okT os ts → (i, x) ∈ ts → okR os x.refs
  | (j, y) :: r, h, hm => by
    rcases List.mem_cons.1 hm with e | hm
    · injection e with _ e; subst e; exact h.1
    · exact okT_mem h.2 hm
theorem closed_of {ts : List (Nat × V)} {os : List (Nat × Ob)} (h1 : okT (lko os) ts) (h2 : okO (lko os) os) : Closed (St.of ts os) := by
  refine ⟨fun i r hr => ?_, fun o T c ho r hr => okR_ok (okO_mem h2 (lko_mem ho)) r hr⟩
  have hr : r ∈ (lk ts i).refs := hr
  rcases lk_mem (ts := ts) (i := i) with e | ⟨x, hx, e⟩
  · rw [e] at hr; simp [V.refs] at hr
  · rw [e] at hr; exact okR_ok (okT_mem h1 hx) r hr
theorem lk_keep {s : St} {ks : List Nat} {i : Nat} : lk (keepT s ks) i = .any ∨ lk (keepT s ks) i = s.t i := by
  induction ks with
  | nil => exact .inl rfl
  | cons k ks ih =>
    unfold keepT lk
    by_cases e : i = k
    · subst e; rw [if_pos rfl]; exact .inr rfl
    · rw [if_neg e]; exact ih
theorem lko_keep {s : St} {ks : List Nat} {i : Nat} : lko (keepO s ks) i = none ∨ lko (keepO s ks) i = s.o i := by
  induction ks with
  | nil => exact .inl rfl
  | cons k ks ih =>
    unfold keepO
    cases hk : s.o k with
    | none => exact ih
    | some x =>
      simp only
      unfold lko
      by_cases e : i = k
      · subst e; rw [if_pos rfl]; exact .inr hk.symm
      · rw [if_neg e]; exact ih
theorem less_keep (s : St) (ks os : List Nat) : Less s (St.of (keepT s ks) (keepO s os)) := ⟨fun i => lk_keep, fun i => lko_keep⟩

section
variable {P : Program} {τ : TT} {cb : Cb} {κ : Fx} {F : Env} {s : St} {Q : Exit → St → Prop}

theorem VWp.keep {c : Code} (ks os : List Nat) (h : okT (lko (keepO s os)) (keepT s ks) ∧ okO (lko (keepO s os)) (keepO s os) ∧ VWp P F c Q (St.of (keepT s ks) (keepO s os))) : VWp P F c Q s :=
  VWp.less h.2.2 (less_keep s ks os) (closed_of h.1 h.2.1)
theorem vwp_seq_k {x y : Code} (h : ∀ N : St → Prop, (∀ s, VWp P F y Q s → N s) → VWp P F x (thenV N Q) s) : VWp P F (.seq x y) Q s := vwp_seq (h _ fun _ h => h)
def dstB (n : Nat) : List Oper → Bool
  | [] => true
  | o :: os => (match o.dst with | some i => decide (i < n) | none => true) && dstB n os
theorem dstB_all {n : Nat} : ∀ {l : List Oper}, dstB n l = true → l.all (fun o => match o.dst with | some i => decide (i < n) | none => true) = true
  | [], _ => rfl
  | o :: os, h => by
    unfold dstB at h
    rw [Bool.and_eq_true] at h
    rw [List.all_cons, Bool.and_eq_true]
    exact ⟨h.1, dstB_all h.2⟩
theorem vreg (hτ : TTOk P τ) {n : Nat} (hn : F.n = n) {id : Nat} {l : List Oper} (hd : dstB n l = true) (h : vops P τ .all .none l.toArray l s (fun s' => Q .normal s')) : VWp P F (.region id l.toArray false) Q s :=
  vwp_region hτ (by subst hn; exact dstB_all hd) h
theorem VWp.keepR (ks os : List Nat) {y : Code} (hτ : TTOk P τ) {n : Nat} (hn : F.n = n) {id : Nat} {l : List Oper} (hd : dstB n l = true)
    (h : ∀ N : St → Prop, (∀ s, VWp P F y Q s → N s) → okT (lko (keepO s os)) (keepT s ks) ∧ okO (lko (keepO s os)) (keepO s os) ∧ vops P τ .all .none l.toArray l (St.of (keepT s ks) (keepO s os)) (fun s' => N s')) :
    VWp P F (.seq (.region id l.toArray false) y) Q s := by
  obtain ⟨h1, h2, h3⟩ := h _ fun _ h => h
  exact VWp.keep ks os ⟨h1, h2, vwp_seq (vreg hτ hn hd h3)⟩
theorem vregd (hτ : TTOk P τ) (hm : P.follows .mixedOrders = true) {n : Nat} (hn : F.n = n) {id : Nat} {l : List Oper} (hd : dstB n l = true) (hok : drawOk .no l.toArray = true) (hb : backB l.toArray = true) (h : vops P τ .no .none l.toArray l s (fun s' => Q .normal s')) :
    VWp P F (.region id l.toArray true) Q s := vwp_region_draw hτ hm (by subst hn; exact dstB_all hd) hok hb h

theorem vregdC (cb : Cb) (hτ : TTOk P τ) (hm : P.follows .mixedOrders = true) {n : Nat} (hn : F.n = n) {id : Nat} {l : List Oper} (hd : dstB n l = true) (hok : drawOk cb l.toArray = true) (hb : backB l.toArray = true) (h : vops P τ cb .none l.toArray l s (fun s' => Q .normal s')) :
    VWp P F (.region id l.toArray true) Q s := vwp_region_draw hτ hm (by subst hn; exact dstB_all hd) hok hb h

theorem vif {c : Operand} {x y : Code} {t : Bool} (hc : evalV s c = .bool t) (h : (t = true → VWp P F x Q s) ∧ (t = false → VWp P F y Q s)) : VWp P F (.cond c x y) Q s := vwp_cond hc h.1 h.2
theorem vwp_cut {x y : Code} (R : St → Prop) (h1 : VWp P F x (thenV R Q) s) (h2 : ∀ s, R s → VWp P F y Q s) : VWp P F (.seq x y) Q s := vwp_seq (VWp.mono h1 (fun e s h => by cases e <;> first | exact h2 s h | exact h))

def stepX (P : Program) (τ : TT) (cb : Cb) (κ : Fx) (ops : Array Oper) (r : Option Res) (d : Option Nat) (os : List Oper) (s : St) (K : St → Prop) : Prop := match r with
  | some r => r.pre ∧ freshV s d r.upd ∧ vops P τ cb κ ops os (s.app d r) K
  | none => False
def BXO (P : Program) (τ : TT) (cb : Cb) (κ : Fx) (ops : Array Oper) (f : FuncId) (l : List V) (d : Option Nat) (os : List Oper) (s : St) (K : St → Prop) : Prop := BX P κ f l s d (fun s => vops P τ cb κ ops os s K)
def bxR (P : Program) (τ : TT) (cb : Cb) (κ : Fx) (ops : Array Oper) (r : Option V) (l : Option (List (Nat × Ob))) (d : Option Nat) (os : List Oper) (s : St) (K : St → Prop) : Prop := match r, l with
  | some r1, some os1 => fixV κ d r1 os1 ∧ vops P τ cb κ ops os ⟨(s.put d r1).t, upL s.o os1⟩ K
  | _, _ => False
def bxA (P : Program) (τ : TT) (cb : Cb) (κ : Fx) (ops : Array Oper) (f : FuncId) (a : Option (List V)) (o : Option (List (Nat × Ob))) (ρ : List (Nat × Nat)) (d : Option Nat) (os : List Oper) (s : St) (K : St → Prop) : Prop := match a, o with
  | some args, some o0 => ∃ r os', SpecB P f args o0 r os' ∧ bxR P τ cb κ ops (cvt (fun _ => none) (fw ρ) r) (giveO (fw ρ) os') d os s K
  | _, _ => False
def bxV (P : Program) (τ : TT) (cb : Cb) (κ : Fx) (ops : Array Oper) (f : FuncId) (l : List V) (d : Option Nat) (os : List Oper) (s : St) (K : St → Prop) (ρ : List (Nat × Nat)) : Prop :=
  newOk s.o ρ ∧ bxA P τ cb κ ops f (cvtL s.o (bk ρ) l) (takeO s.o (bk ρ) ρ) ρ d os s K
theorem bxo {P : Program} {τ : TT} {cb : Cb} {κ : Fx} {ops : Array Oper} {f : FuncId} {l : List V} {d : Option Nat} {os : List Oper} {s : St} {K : St → Prop} (ρ : List (Nat × Nat)) (h0 : okρ ρ = true) (h : bxV P τ cb κ ops f l d os s K ρ) : BXO P τ cb κ ops f l d os s K := by
  obtain ⟨h1, h⟩ := h
  unfold bxA at h
  split at h <;> try (exact h.elim)
  rename_i args o0 ha ht
  obtain ⟨r, os', hs, h⟩ := h
  unfold bxR at h
  split at h <;> try (exact h.elim)
  rename_i r1 os1 hr ho
  exact ⟨r1, os1, .inr ⟨ρ, args, o0, r, os', h0, h1, ha, ht, hs, hr, ho⟩, h⟩
def lookX (P : Program) (τ : TT) (cb : Cb) (κ : Fx) (ops : Array Oper) (f : FuncId) (a : List V) (d : Option Nat) (os : List Oper) (s : St) (K : St → Prop) : Prop :=
  ∃ r, Spec P f a r ∧ flatW r = true ∧ fixV κ d r [] ∧ vops P τ cb κ ops os (s.put d r) K
theorem look {P : Program} {τ : TT} {cb : Cb} {κ : Fx} {ops : Array Oper} {f : FuncId} {a : List V} {d : Option Nat} {os : List Oper} {s : St} {K : St → Prop} {r : V} (h1 : Spec P f a r) (h2 : flatW r = true) (h3 : fixV κ d r [] ∧ vops P τ cb κ ops os (s.put d r) K) : lookX P τ cb κ ops f a d os s K := ⟨r, h1, h2, h3⟩
theorem bxl {P : Program} {τ : TT} {cb : Cb} {κ : Fx} {ops : Array Oper} {f : FuncId} {l : List V} {d : Option Nat} {os : List Oper} {s : St} {K : St → Prop} (h : lookX P τ cb κ ops f (seen s.o l) d os s K) : BXO P τ cb κ ops f l d os s K := by
  obtain ⟨r, h1, h2, h3, h4⟩ := h
  refine ⟨r, [], .inl ⟨rfl, _, rfl, h1, h2⟩, h3, ?_⟩
  have e1 : (⟨(s.put d r).t, upL s.o []⟩ : St) = s.put d r := by cases d <;> rfl
  show vops P τ cb κ ops os _ K
  rw [e1]; exact h4
def argX (P : Program) (τ : TT) (cb : Cb) (κ : Fx) (ops : Array Oper) (f : FuncId) (a : Option (List V)) (l : List V) (d : Option Nat) (os : List Oper) (s : St) (K : St → Prop) : Prop := (match a with
  | some a => ∃ r, Spec P f a r ∧ fixV κ d r [] ∧ vops P τ cb κ ops os (s.put d r) K
  | none => False) ∨ (bAt cb d = true ∧ BXO P τ cb κ ops f l d os s K)
def callX (P : Program) (τ : TT) (cb : Cb) (κ : Fx) (ops : Array Oper) (x : V) (l : List V) (d : Option Nat) (os : List Oper) (s : St) (K : St → Prop) : Prop := match x with
  | .fn (.func f) caps => argX P τ cb κ ops f (viewL s.o (l ++ caps)) (l ++ caps) d os s K
  | _ => False
def guardX (P : Program) (τ : TT) (cb : Cb) (κ : Fx) (ops : Array Oper) (x : V) (want : Bool) (o : Oper) (os : List Oper) (s : St) (K : St → Prop) : Prop := match x with
  | .bool b => if b = want then vops P τ cb κ ops (o :: os) s K else vops P τ cb κ ops os (s.put o.dst (.raw undef)) K
  | x => if isUndef x then vops P τ cb κ ops os (s.put o.dst (.raw undef)) K else False
def guardY (P : Program) (τ : TT) (cb : Cb) (κ : Fx) (ops : Array Oper) (e : Option Nat) (want : Bool) (o : Oper) (os : List Oper) (s : St) (K : St → Prop) : Prop := match e with
  | some e => guardX P τ cb κ ops (s.t e) want o os s K
  | none => False
def convX (t : Option TI) (a b c : Option Res) : Option Res :=
  match t, a with
  | some _, some r => some r
  | _, _ => match b with
    | some r => some r
    | none => c
section
variable (P : Program) (τ : TT) (ops : Array Oper) (d : Option Nat) (ty : TypeId) (pos : String) (after : Array Edge) (os : List Oper) (s : St) (K : St → Prop)
theorem stepX_some (p : Prop) (v : V) (u : Upd) : stepX P τ cb κ ops (some ⟨p, v, u⟩) d os s K = (p ∧ freshV s d u ∧ vops P τ cb κ ops os (s.app d ⟨p, v, u⟩) K) := rfl
theorem argX_some (f : FuncId) (a l : List V) : argX P τ cb κ ops f (some a) l d os s K = ((∃ r, Spec P f a r ∧ fixV κ d r [] ∧ vops P τ cb κ ops os (s.put d r) K) ∨ (bAt cb d = true ∧ BXO P τ cb κ ops f l d os s K)) := rfl
theorem bxA_some (f : FuncId) (a : List V) (o : List (Nat × Ob)) (ρ : List (Nat × Nat)) : bxA P τ cb κ ops f (some a) (some o) ρ d os s K = ∃ r os', SpecB P f a o r os' ∧ bxR P τ cb κ ops (cvt (fun _ => none) (fw ρ) r) (giveO (fw ρ) os') d os s K := rfl
theorem bxR_some (r1 : V) (os1 : List (Nat × Ob)) : bxR P τ cb κ ops (some r1) (some os1) d os s K = (fixV κ d r1 os1 ∧ vops P τ cb κ ops os ⟨(s.put d r1).t, upL s.o os1⟩ K) := rfl
theorem bAt_no (d : Option Nat) : bAt .no d = false := rfl
theorem bAt_all (d : Option Nat) : bAt .all d = true := rfl
theorem bAt_at (l : List Nat) (d : Nat) : bAt (.at l) (some d) = memN l d := rfl
theorem argX_none (f : FuncId) (l : List V) : argX P τ cb κ ops f none l d os s K = (False ∨ (bAt cb d = true ∧ BXO P τ cb κ ops f l d os s K)) := rfl
theorem callX_fn (f : FuncId) (caps l : List V) : callX P τ cb κ ops (.fn (.func f) caps) l d os s K = argX P τ cb κ ops f (viewL s.o (l ++ caps)) (l ++ caps) d os s K := rfl
theorem guardY_some (e : Nat) (want : Bool) (o : Oper) : guardY P τ cb κ ops (some e) want o os s K = guardX P τ cb κ ops (s.t e) want o os s K := rfl
theorem guardX_tt (o : Oper) : guardX P τ cb κ ops (.bool true) true o os s K = vops P τ cb κ ops (o :: os) s K := rfl
theorem guardX_ff (o : Oper) : guardX P τ cb κ ops (.bool false) false o os s K = vops P τ cb κ ops (o :: os) s K := rfl
theorem guardX_tf (o : Oper) : guardX P τ cb κ ops (.bool true) false o os s K = vops P τ cb κ ops os (s.put o.dst (.raw undef)) K := rfl
theorem guardX_ft (o : Oper) : guardX P τ cb κ ops (.bool false) true o os s K = vops P τ cb κ ops os (s.put o.dst (.raw undef)) K := rfl
theorem guardX_un (want : Bool) (o : Oper) : guardX P τ cb κ ops (.raw (.tuple #[])) want o os s K = vops P τ cb κ ops os (s.put o.dst (.raw undef)) K := rfl
theorem vops_nil : vops P τ cb κ ops [] s K = K s := rfl
theorem vops_guard (op : Op) (j : Nat) (want : Bool) : vops P τ cb κ ops (⟨d, op, ty, pos, after, some (j, want)⟩ :: os) s K = guardY P τ cb κ ops ((ops[j]?).bind (·.dst)) want ⟨d, op, ty, pos, after, none⟩ os s K := by
  rw [vops]
  simp only
  unfold guardY
  cases (ops[j]?).bind (·.dst) with
  | none => rfl
  | some e =>
    simp only
    unfold guardX
    cases s.t e <;> first | rfl | (simp only [isUndef]; rfl) | (simp only [isUndef])
theorem vops_move (x : Operand) : vops P τ cb κ ops (⟨d, .move x, ty, pos, after, none⟩ :: os) s K = vops P τ cb κ ops os (s.put d (evalV s x)) K := by
  show (True ∧ True ∧ vops P τ cb κ ops os (s.put d (evalV s x)) K) = _
  simp
theorem vops_assign (x : Operand) : vops P τ cb κ ops (⟨d, .assign x, ty, pos, after, none⟩ :: os) s K = vops P τ cb κ ops os (s.put d (evalV s x)) K := by
  show (True ∧ True ∧ vops P τ cb κ ops os (s.put d (evalV s x)) K) = _
  simp
theorem vops_nilCheck (x : Operand) : vops P τ cb κ ops (⟨d, .nilCheck x, ty, pos, after, none⟩ :: os) s K = stepX P τ cb κ ops (match evalV s x with | .ptr o p => ok (.ptr o p) | .rp r p => ok (.rp r p) | _ => none) d os s K := rfl
theorem vops_makeFunc (f : Fn) (caps : Array Operand) : vops P τ cb κ ops (⟨d, .makeFunc f #[] caps, ty, pos, after, none⟩ :: os) s K = vops P τ cb κ ops os (s.put d (.fn f (caps.toList.map (evalV s)))) K := by
  show (True ∧ True ∧ vops P τ cb κ ops os (s.put d (.fn f (caps.toList.map (evalV s)))) K) = _
  simp
theorem vops_call (x : Operand) (args : Array Operand) (tys : Array TypeId) : vops P τ cb κ ops (⟨d, .call ⟨.value x, args, tys⟩, ty, pos, after, none⟩ :: os) s K = callX P τ cb κ ops (evalV s x) (args.toList.map (evalV s)) d os s K := rfl
theorem vops_alloc (T : TypeId) : vops P τ cb κ ops (⟨d, (.alloc T), ty, pos, after, none⟩ :: os) s K = stepX P τ cb κ ops (allocV τ T d) d os s K := rfl
theorem vops_box (T : TypeId) (x : Operand) : vops P τ cb κ ops (⟨d, (.box T x), ty, pos, after, none⟩ :: os) s K = stepX P τ cb κ ops (boxV T (evalV s x) d) d os s K := rfl
theorem vops_build (T : TypeId) (ps : Array (Nat × Operand)) : vops P τ cb κ ops (⟨d, (.build T ps), ty, pos, after, none⟩ :: os) s K = stepX P τ cb κ ops (buildV τ T (ps.toList.map fun p => (p.1, evalV s p.2))) d os s K := rfl
theorem vops_buildSlice (T : TypeId) (n : Nat) (ps : Array (Nat × Operand)) : vops P τ cb κ ops (⟨d, (.buildSlice T n ps), ty, pos, after, none⟩ :: os) s K = stepX P τ cb κ ops ((buildSliceV τ T n (viewParts (view s.o) (ps.toList.map fun p => (p.1, evalV s p.2))) d).map (heatB (hotF κ d))) d os s K := rfl
theorem vops_load (T : TypeId) (x : Operand) : vops P τ cb κ ops (⟨d, (.load T x), ty, pos, after, none⟩ :: os) s K = stepX P τ cb κ ops (loadV τ T (evalV s x) (obV s.o (evalV s x))) d os s K := rfl
theorem vops_store (T : TypeId) (x y : Operand) : vops P τ cb κ ops (⟨d, (.store T x y), ty, pos, after, none⟩ :: os) s K = stepX P τ cb κ ops (storeV τ T (evalV s x) (evalV s y) (obV s.o (evalV s x))) d os s K := rfl
theorem vops_binOp (op : BinOp) (T U : TypeId) (x y : Operand) : vops P τ cb κ ops (⟨d, (.binOp op T x y U), ty, pos, after, none⟩ :: os) s K = stepX P τ cb κ ops (binX τ op T (evalV s x) y (evalV s y)) d os s K := rfl
theorem vops_unOp (op : UnOp) (T : TypeId) (x : Operand) : vops P τ cb κ ops (⟨d, (.unOp op T x), ty, pos, after, none⟩ :: os) s K = stepX P τ cb κ ops (unV op (evalV s x)) d os s K := rfl
theorem vops_pick (c x y : Operand) : vops P τ cb κ ops (⟨d, (.pick c x y), ty, pos, after, none⟩ :: os) s K = stepX P τ cb κ ops (pickV (evalV s c) (evalV s x) (evalV s y)) d os s K := rfl
theorem vops_convert (T U : TypeId) (x : Operand) : vops P τ cb κ ops (⟨d, (.convert T U x), ty, pos, after, none⟩ :: os) s K = stepX P τ cb κ ops (convX (τ T) (convV τ U (evalV s x)) (strBytesV τ T U (evalV s x)) (bytesStrV τ T U (view s.o (evalV s x)))) d os s K := rfl
theorem vops_makeSlice (T : TypeId) (l c : Operand) : vops P τ cb κ ops (⟨d, (.makeSlice T l c), ty, pos, after, none⟩ :: os) s K = stepX P τ cb κ ops ((makeSliceV τ T (evalV s l) (evalV s c) d).map (heatB (hotF κ d))) d os s K := rfl
theorem vops_slice (T : TypeId) (x : Operand) (lo hi mx : Option Operand) : vops P τ cb κ ops (⟨d, (.slice T x lo hi mx), ty, pos, after, none⟩ :: os) s K = stepX P τ cb κ ops (sliceV τ T (evalV s x) lo hi mx (evalV s) (view s.o (evalV s x))) d os s K := rfl
theorem vops_fieldAddr (T : TypeId) (x : Operand) (f : Nat) : vops P τ cb κ ops (⟨d, (.fieldAddr T x f), ty, pos, after, none⟩ :: os) s K = stepX P τ cb κ ops (fieldAddrV τ T (evalV s x) f) d os s K := rfl
theorem vops_field (T : TypeId) (x : Operand) (f : Nat) : vops P τ cb κ ops (⟨d, (.field T x f), ty, pos, after, none⟩ :: os) s K = stepX P τ cb κ ops (fieldV τ T (evalV s x) f) d os s K := rfl
theorem vops_indexAddr (T : TypeId) (x i : Operand) : vops P τ cb κ ops (⟨d, (.indexAddr T x i), ty, pos, after, none⟩ :: os) s K = stepX P τ cb κ ops (indexAddrV τ T (evalV s x) (evalV s i) (obV s.o (evalV s x))) d os s K := rfl
theorem vops_index (T : TypeId) (x i : Operand) : vops P τ cb κ ops (⟨d, (.index T x i), ty, pos, after, none⟩ :: os) s K = stepX P τ cb κ ops (indexV τ T (evalV s x) (evalV s i)) d os s K := rfl
theorem vops_extract (x : Operand) (i : Nat) : vops P τ cb κ ops (⟨d, (.extract x i), ty, pos, after, none⟩ :: os) s K = stepX P τ cb κ ops (extractV (evalV s x) i) d os s K := rfl
theorem vops_makeMap (T : TypeId) : vops P τ cb κ ops (⟨d, (.makeMap T none), ty, pos, after, none⟩ :: os) s K = stepX P τ cb κ ops (mapNewV d) d os s K := rfl
theorem vops_mapUpdate (T : TypeId) (m k x : Operand) : vops P τ cb κ ops (⟨d, (.mapUpdate T m k x), ty, pos, after, none⟩ :: os) s K = stepX P τ cb κ ops (mapSetV τ T (evalV s m) (evalV s k) (view s.o (evalV s x)) (obV s.o (evalV s m))) d os s K := rfl
theorem vops_insert (T : TypeId) (m k x : Operand) : vops P τ cb κ ops (⟨d, (.insert T m k x), ty, pos, after, none⟩ :: os) s K = stepX P τ cb κ ops (mapSetV τ T (evalV s m) (evalV s k) (view s.o (evalV s x)) (obV s.o (evalV s m))) d os s K := rfl
theorem vops_lookup (T : TypeId) (m k : Operand) (okc : Bool) : vops P τ cb κ ops (⟨d, (.lookup T m k okc), ty, pos, after, none⟩ :: os) s K = stepX P τ cb κ ops (lookupV τ T (evalV s m) (evalV s k) okc (obV s.o (evalV s m))) d os s K := rfl
theorem vops_builtin (b : Builtin) (args : Array Operand) (tys : Array TypeId) : vops P τ cb κ ops (⟨d, (.call ⟨.builtin b, args, tys⟩), ty, pos, after, none⟩ :: os) s K = stepX P τ cb κ ops (builtV τ b tys.toList (args.toList.map (evalV s)) (obV s.o) (view s.o) d (hotF κ d)) d os s K := rfl
end
theorem up_app {α : Type} (f : Nat → α) (i : Nat) (x : α) (j : Nat) : up f i x j = if j = i then x else f j := rfl
theorem start_t (args : List V) (i : Nat) : (start args).t i = args.getD i .any := rfl
theorem start_o (args : List V) (i : Nat) : (start args).o i = none := rfl
theorem of_t (ts : List (Nat × V)) (os : List (Nat × Ob)) (i : Nat) : (St.of ts os).t i = lk ts i := rfl
theorem of_o (ts : List (Nat × V)) (os : List (Nat × Ob)) (i : Nat) : (St.of ts os).o i = lko os i := rfl
theorem wrap_i64 {n : Int} (h1 : -9223372036854775808 ≤ n) (h2 : n ≤ 9223372036854775807) : IntKind.i64.wrap n = n := by rw [IntKind.wrap_i64]; omega
theorem wrap_u8 (n : Int) : IntKind.u8.wrap n = n % 256 := by first | rfl | (simp [IntKind.wrap, IntKind.bits, IntKind.signed]; done) | (unfold IntKind.wrap; simp [IntKind.signed, IntKind.bits])
theorem wrap_u64 (n : Int) : IntKind.u64.wrap n = n % 18446744073709551616 := by first | rfl | (simp [IntKind.wrap, IntKind.bits, IntKind.signed]; done) | (unfold IntKind.wrap; simp [IntKind.signed, IntKind.bits])
theorem tdiv_pos {a b : Int} (h : 0 ≤ a) : a.tdiv b = a / b := Int.tdiv_eq_ediv_of_nonneg h
theorem tmod_pos {a b : Int} (h : 0 ≤ a) : a.tmod b = a % b := Int.tmod_eq_emod_of_nonneg h
theorem spec_of {P : Program} {τ : TT} (hτ : TTOk P τ) {f : FuncId} {fn : Func} {c : Code} {args : List V} {r : V} {n : Nat} {rs : List ResultVar} (hf : P.funcs[f]? = some fn) (hb : fn.body = some c) (hname : (fn.name == "runtime.NumGoroutine") = false) (hnn : fn.ntmps = n)
    (hrs : fn.results.toList = rs) (hn : args.length ≤ n) (hn2 : n ≤ 1000000) (hr : r.refs = []) (ha : V.refsL args = []) (h : ∀ F : Env, F.n = n → VWp P F c (retQ τ rs r) (start args)) : Spec P f args r := by
  subst hnn; subst hrs
  exact spec_intro hτ hf hb hname hn hn2 hr ha h
theorem specB_of {P : Program} {τ : TT} (hτ : TTOk P τ) {f : FuncId} {fn : Func} {c : Code} {args : List V} {os os' : List (Nat × Ob)} {r : V} {n : Nat} {rs : List ResultVar} (hf : P.funcs[f]? = some fn) (hb : fn.body = some c) (hname : (fn.name == "runtime.NumGoroutine") = false) (hnn : fn.ntmps = n)
    (hrs : fn.results.toList = rs) (hn : args.length ≤ n) (hn2 : n ≤ 1000000) (hnm : namB os = true) (hc : okR (lko os) (V.refsL args) ∧ okO (lko os) os ∧ okR (lko os') r.refs ∧ okO (lko os') os' ∧ domO os' os)
    (h : ∀ F : Env, F.n = n → VWp P F c (retB τ rs r os') (startB args os)) : SpecB P f args os r os' := by
  subst hnn; subst hrs
  exact specB_intro hτ hf hb hname hn hn2 hnm hc.1 hc.2.1 hc.2.2.1 hc.2.2.2.1 hc.2.2.2.2 h
theorem startB_t (args : List V) (os : List (Nat × Ob)) (i : Nat) : (startB args os).t i = args.getD i .any := rfl
theorem startB_o (args : List V) (os : List (Nat × Ob)) (i : Nat) : (startB args os).o i = lko os i := rfl
theorem ofVal_int (k : IntKind) (n : Int) : ofVal (.int k n) = .int k n := rfl
theorem ofVal_bool (b : Bool) : ofVal (.bool b) = .bool b := rfl
theorem ofVal_str (l : List UInt8) : ofVal (.string ⟨l.toArray⟩) = .str l := rfl
theorem ofVal_nil : ofVal (.slice none 0 0) = .nil := rfl
theorem ofVal_func (f : Fn) : ofVal (.func f #[] #[]) = .fn f [] := rfl

theorem VWp.adopt {c : Code} (d : Nat) (k : Nat) (E : TypeId) {x : Nat} (hx : s.t x = .nil) (hd : s.o d = none) (hdn : d < 1000000) (h : VWp P F c Q ⟨up s.t x (.own d 0), up s.o d (some (.arr k E []))⟩) (hc : Closed s) : VWp P F c Q s := fun β a W hs => by
  have h2 := hs.newArr hd hdn k E (rows := []) (xs := []) (v := .slice none 0 0) (W' := W) (by simp) (fun r hr => by cases hr) (by simp) rfl (Chg.refl _ _) (World.ownsRow_nil _ _ _ _) (by intro b hb; cases hb)
  refine h ⟨up β.pb d 0, up β.sv d (.slice none 0 0)⟩ a W ⟨h2.objs, ⟨fun i r hr => ?_, h2.closed.o⟩, fun i => ?_, h2.defers, h2.size⟩
  · by_cases e : i = x
    · subst e
      simp only [up_same, V.refs, List.mem_singleton] at hr; subst hr
      exact ⟨k, E, [], up_same _ _ _, Nat.le_refl _⟩
    · simp only [up_other _ _ e] at hr
      exact h2.closed.t i r hr
  · by_cases e : i = x
    · subst e
      simp only [up_same]
      have := hs.frame i
      rw [hx] at this
      have this : a.tmps.getD i undef = .slice none 0 0 := this
      refine ⟨⟨none, 0, this⟩, fun u hu => ?_⟩
      have hu : svOf _ _ d 0 = some u := hu
      unfold svOf at hu
      simp only [up_same, List.length_nil, if_true, Option.some.injEq] at hu
      rw [this]; exact hu
    · simp only [up_other _ _ e]
      exact h2.frame i
theorem VWp.adoptB {c : Code} (d : Nat) (k : Nat) (E : TypeId) {o i : Nat} {T : TypeId} {cs : List V} (ho : s.o o = some (.box T cs)) (hx : cs[i]? = some .nil) (hd : s.o d = none) (hdn : d < 1000000) (h : VWp P F c Q ⟨s.t, up (up s.o d (some (.arr k E []))) o (some (.box T (cs.set i (.own d 0))))⟩) : VWp P F c Q s := fun β a W hs => by
  have hne : o ≠ d := fun e => by rw [e, hd] at ho; cases ho
  have h2 := hs.newArr hd hdn k E (rows := []) (xs := []) (v := .slice none 0 0) (W' := W) (by simp) (fun r hr => by cases hr) (by simp) rfl (Chg.refl _ _) (World.ownsRow_nil _ _ _ _) (by intro b hb; cases hb)
  have ho2 : (up s.o d (some (.arr k E []))) o = some (.box T cs) := by rw [up_other _ _ hne]; exact ho
  obtain ⟨hb, us, rs, g1, g2, g3⟩ := h2.objs.box o T cs ho2
  have hi : i < cs.length := (List.getElem?_eq_some_iff.1 hx).1
  obtain ⟨u, hu, hru⟩ := RepL.get g3 i hi
  have hxe : cs[i] = .nil := (List.getElem?_eq_some_iff.1 hx).2
  rw [hxe] at hru
  have hru : u = .slice none 0 0 := hru
  have hrep : RepL (sit F ⟨up β.pb d 0, up β.sv d (.slice none 0 0)⟩ (up s.o d (some (.arr k E []))) W) (cs.set i (.own d 0)) us := by
    have := g3.set i (x := .own d 0) (u := u) ⟨⟨none, 0, hru⟩, fun w hw => by
      have hw : svOf _ _ d 0 = some w := hw
      unfold svOf at hw
      simp only [up_same, List.length_nil, if_true, Option.some.injEq] at hw
      rw [hru]; exact hw⟩
    have hlt : i < us.length := (List.getElem?_eq_some_iff.1 hu).1
    have hge : us[i] = u := (List.getElem?_eq_some_iff.1 hu).2
    rw [← hge, List.set_getElem_self] at this
    exact this
  refine h _ a W (h2.setBox (W' := W) ho2 (Chg.refl _ _) g1 g2 hrep (fun r hr => ?_))
  have : ∀ r ∈ V.refsL (cs.set i (.own d 0)), r ∈ V.refsL cs ∨ r = (d, some 0) := by
    clear hr hrep g3 hu hru hxe hx ho ho2 g1 hi h2 h
    induction cs generalizing i with
    | nil => intro r hr; cases hr
    | cons y ys ih =>
      intro r hr
      cases i with
      | zero =>
        rcases List.mem_append.1 hr with q | q
        · simp only [V.refs, List.mem_singleton] at q; exact .inr q
        · exact .inl (List.mem_append_right _ q)
      | succ i =>
        rcases List.mem_append.1 hr with q | q
        · exact .inl (List.mem_append_left _ q)
        · rcases ih r q with q | q
          · exact .inl (List.mem_append_right _ q)
          · exact .inr q
  rcases this r hr with q | q
  · exact h2.closed.o o T cs ho2 r q
  · subst q; exact ⟨k, E, [], up_same _ _ _, Nat.le_refl _⟩

def subT (s : St) : List (Nat × V) → Prop
  | [] => True
  | (i, v) :: r => s.t i = v ∧ subT s r
def Fits (s : St) (ts : List (Nat × V)) (os : List (Nat × Ob)) : Prop := subT s ts ∧ subO s os ∧ okT (lko os) ts ∧ okO (lko os) os
theorem subT_lk {s : St} {i : Nat} : ∀ {ts : List (Nat × V)}, subT s ts → lk ts i = .any ∨ lk ts i = s.t i
  | [], _ => .inl rfl
  | (j, v) :: r, h => by
    unfold lk
    by_cases e : i = j
    · subst e; rw [if_pos rfl]; exact .inr h.1.symm
    · rw [if_neg e]; exact subT_lk h.2
theorem VWp.fits {c : Code} {ts : List (Nat × V)} {os : List (Nat × Ob)} (hf : Fits s ts os) (h : VWp P F c Q (St.of ts os)) : VWp P F c Q s :=
  VWp.less h ⟨fun i => subT_lk hf.1, fun i => subO_lko hf.2.1⟩ (closed_of hf.2.2.1 hf.2.2.2)
theorem vloop {c : Code} {α : Type} (T : α → List (Nat × V)) (O : α → List (Nat × Ob)) (I : α → Prop) (m : α → Nat) (x0 : α) (h0 : I x0) (hs : Fits s (T x0) (O x0))
    (round : ∀ x, I x → VWp P F c (thenV (fun s' => ∃ y, I y ∧ m y < m x ∧ Fits s' (T y) (O y)) Q) (St.of (T x) (O x))) : VWp P F (.loop c) Q s := by
  refine VWp.fits hs (?_ : VWp P F (.loop c) Q (St.of (T x0) (O x0)))
  intro β a W hsim b k cs
  have key : ∀ n x β a w, m x = n → I x → Sim F β (St.of (T x) (O x)) a w →
      ∃ e a' w', (∃ s' β', Q e s' ∧ Sim F β' s' a' w') ∧ Arrives P (lone (b.at a (.code c :: .inLoop c :: k)) cs w) b k cs e a' w' := by
    intro n
    induction n using Nat.strongRecOn with
    | _ n ih =>
      intro x β a w hn hI hs
      obtain ⟨e, a₁, w₁, ⟨s1, β1, hq, hs1⟩, harr⟩ := round x hI β a w hs b (.inLoop c :: k) cs
      cases e with
      | normal =>
        obtain ⟨y, hI₁, hlt, hf⟩ := hq
        have hs2 := hs1.less ⟨fun i => subT_lk hf.1, fun i => subO_lko hf.2.1⟩ (closed_of hf.2.2.1 hf.2.2.2)
        obtain ⟨e₂, a₂, w₂, hq₂, harr₂⟩ := ih (m y) (hn ▸ hlt) y β1 a₁ w₁ rfl hI₁ hs2
        exact ⟨e₂, a₂, w₂, hq₂, .of_steps (Steps.trans harr (.one step_inLoop)) harr₂⟩
      | exit id => exact ⟨_, a₁, w₁, ⟨s1, β1, hq, hs1⟩, .pass (x := .inLoop c) rfl (fun _ _ => .inl (by simp)) harr⟩
      | goto l => exact ⟨_, a₁, w₁, ⟨s1, β1, hq, hs1⟩, .pass (x := .inLoop c) rfl (fun _ _ => .inl (by simp)) harr⟩
      | ret => exact ⟨_, a₁, w₁, ⟨s1, β1, hq, hs1⟩, .pass (x := .inLoop c) rfl (fun _ _ => .inl (by simp)) harr⟩
      | panic ch => exact ⟨_, a₁, w₁, ⟨s1, β1, hq, hs1⟩, .pass (x := .inLoop c) rfl (fun _ _ => .inl (by simp)) harr⟩
      | outgrown => exact ⟨_, a₁, w₁, ⟨s1, β1, hq, hs1⟩, .pass (x := .inLoop c) rfl (fun _ _ => .inl (by simp)) harr⟩
  obtain ⟨e, a', w', hq, harr⟩ := key _ x0 β a W rfl h0 hsim
  exact ⟨e, a', w', hq, .of_steps (.one step_loop) harr⟩
theorem vmeet {x y : Code} {α : Type} (T : α → List (Nat × V)) (O : α → List (Nat × Ob)) (I : α → Prop) (h1 : VWp P F x (thenV (fun s' => ∃ z, I z ∧ Fits s' (T z) (O z)) Q) s) (h2 : ∀ z, I z → VWp P F y Q (St.of (T z) (O z))) : VWp P F (.seq x y) Q s :=
  vwp_cut (fun s' => ∃ z, I z ∧ Fits s' (T z) (O z)) h1 (fun s' ⟨z, hz, hf⟩ => VWp.fits hf (h2 z hz))
end
end Go.Proofs.YtedbbinlcdgkoaaGreatDoor

/- The value machine: what is known may be told more loosely. No program in sight. -/
namespace Go.Proofs.YtedbbinlcdgkoaaGreatDoor
open Go.RowKit
set_option linter.unusedVariables false
section
variable {P : Program} {τ : TT} {F : Env} {s : St} {Q : Exit → St → Prop}
end
theorem LeL.refl : ∀ l : List V, LeL l l
  | [] => trivial
  | x :: l => ⟨LeV.refl x, LeL.refl l⟩
theorem toBytes_nil : toBytes? [] = some [] := rfl
theorem toBytes_cons (n : Int) (rs : List (List V)) : toBytes? ([.int .u8 n] :: rs) = (match toBytes? rs with | some l => some (UInt8.ofNat n.toNat :: l) | none => none) := rfl
end Go.Proofs.YtedbbinlcdgkoaaGreatDoor

/- The value machine: a region that draws its order, told in a few orders to one of which every other leads by swaps. No program in sight. -/
namespace Go.Proofs.YtedbbinlcdgkoaaGreatDoor
open Go.RowKit
set_option linter.unusedVariables false
set_option linter.unusedSimpArgs false
section
variable {P : Program} {τ : TT} {F : Env}
variable {cb : Cb} {ρ : Nat → V × List (Nat × Ob)}
def pull (cb : Cb) (ops : Array Oper) (o : Oper) (i : Nat) : List Nat → Option (List Nat)
  | [] => none
  | x :: l => if x = i then some l else match ops[x]? with
    | some p => if freeB cb ops p o then (match pull cb ops o i l with | some l' => some (x :: l') | none => none) else none
    | none => none
theorem pull_some {ops : Array Oper} {o : Oper} {i : Nat} : ∀ {l l' : List Nat}, pull cb ops o i l = some l' → ∃ xs ys, l = xs ++ i :: ys ∧ l' = xs ++ ys ∧ ∀ x ∈ xs, ∀ p : Oper, ops[x]? = some p → freeB cb ops p o = true
  | [], l', h => by cases h
  | x :: l, l', h => by
    unfold pull at h
    split at h
    · rename_i e; injection h with h; subst e; subst h; exact ⟨[], l, rfl, rfl, fun x hx => by cases hx⟩
    · split at h
      · rename_i p hp
        split at h
        · rename_i hf
          split at h
          · rename_i l2 hl2
            injection h with h; subst h
            obtain ⟨xs, ys, h1, h2, h3⟩ := pull_some hl2
            refine ⟨x :: xs, ys, by rw [h1]; rfl, by rw [h2]; rfl, fun z hz q hq => ?_⟩
            rcases List.mem_cons.1 hz with rfl | hz
            · rw [hp] at hq; injection hq with hq; subst hq; exact hf
            · exact h3 z hz q hq
          · cases h
        · cases h
      · cases h
theorem step_det {ops : Array Oper} {o : Oper} {s s1 s2 : St} (h1 : StepR P τ cb (.some ρ) ops o s s1) (h2 : StepR P τ cb (.some ρ) ops o s s2) : s1 = s2 := by
  have putE : ∀ (r : V), (⟨(s.put o.dst r).t, upL s.o []⟩ : St) = s.put o.dst r := fun r => by cases o.dst <;> rfl
  have det : ∀ {a b : St}, vstep P τ cb (.some ρ) o s (· = a) → vstep P τ cb (.some ρ) o s (· = b) → a = b := by
    intro a b ha hb
    unfold vstep at ha hb
    split at ha
    · rename_i x l hc
      rw [hc] at hb
      simp only at hb
      split at ha <;> try (exact ha.elim)
      rename_i f caps hx
      rw [hx] at hb
      simp only at hb
      have one : ∀ {c : St}, ((match viewL s.o (l.map (evalV s) ++ caps) with
          | some args => ∃ r, Spec P f args r ∧ fixV (.some ρ) o.dst r [] ∧ s.put o.dst r = c
          | none => False) ∨ (bAt cb o.dst = true ∧ BX P (.some ρ) f (l.map (evalV s) ++ caps) s o.dst (· = c))) → c = ⟨(s.put o.dst (ρ (o.dst.getD 999999)).1).t, upL s.o (ρ (o.dst.getD 999999)).2⟩ := fun {c} h => by
        rcases h with h | ⟨_, r1, os1, _, h0, h⟩
        · split at h <;> try (exact h.elim)
          obtain ⟨r, _, h0, h⟩ := h
          have h0 : ρ (o.dst.getD 999999) = (r, []) := h0
          rw [h0, putE]; exact h.symm
        · have h0 : ρ (o.dst.getD 999999) = (r1, os1) := h0
          rw [h0]; exact h.symm
      rw [one ha, one hb]
    · rename_i hc
      rw [hc] at hb
      simp only at hb
      split at ha
      · rename_i r hr
        rw [hr] at hb
        exact ha.2.2.symm.trans hb.2.2
      · exact ha.elim
  have key : ∀ {j d : Nat} {want : Bool}, o.guard = some (j, want) → (ops[j]?).bind (·.dst) = some d → (isUndef (s.t d) = true ∨ s.t d = .bool (!want)) → ¬ (o.guard = none ∨ ∃ j want d, o.guard = some (j, want) ∧ (ops[j]?).bind (·.dst) = some d ∧ s.t d = .bool want) := by
    intro j d want hg hj hu hr
    rcases hr with hr | ⟨j', want', d', hg', hj', hb⟩
    · rw [hg] at hr; cases hr
    · rw [hg] at hg'; injection hg' with hg'; injection hg' with e1 e2; subst e1; subst e2
      rw [hj] at hj'; injection hj' with e3; subst e3
      rw [hb] at hu
      rcases hu with hu | hu
      · cases hu
      · injection hu with hu; cases want <;> cases hu
  cases h1 with
  | run g1 v1 =>
    cases h2 with
    | run g2 v2 => exact det v1 v2
    | pass g2 j2 u2 => exact absurd g1 (key g2 j2 u2)
  | pass g1 j1 u1 =>
    cases h2 with
    | run g2 v2 => exact absurd g2 (key g1 j1 u1)
    | pass g2 j2 u2 => rfl

def edgeB (ops : Array Oper) (j x : Nat) : Bool := match ops[j]? with
  | some o => o.after.any fun e => Region.binds .any e && (e.on == x)
  | none => false
def pairB (cb : Cb) (ops : Array Oper) (K : List Nat) (x y : Nat) : Bool := !edgeB ops x y && (match ops[x]?, ops[y]? with
  | some p, some o => freeB cb ops p o || ordB ops 12 y x || (K.contains x && K.contains y)
  | _, _ => false)
def pairsB (cb : Cb) (ops : Array Oper) (K : List Nat) : List Nat → Bool
  | [] => true
  | x :: l => l.all (pairB cb ops K x) && pairsB cb ops K l
theorem pairsB_ok {ops : Array Oper} {K : List Nat} : ∀ {l : List Nat}, pairsB cb ops K l = true → l.Pairwise (fun x y => pairB cb ops K x y = true)
  | [], _ => List.Pairwise.nil
  | x :: l, h => by
    unfold pairsB at h
    rw [Bool.and_eq_true] at h
    exact List.Pairwise.cons (fun y hy => List.all_eq_true.1 h.1 y hy) (pairsB_ok h.2)
def chkK (cb : Cb) (ops : Array Oper) : Nat → List (List Nat) → Bool
  | 0, runs => !runs.isEmpty && runs.all (·.isEmpty)
  | n + 1, runs => !runs.isEmpty && (runs.headD []).all fun i => match ops[i]? with
    | some o => (runs.headD []).any (fun x => ordB ops 12 i x) || (!(runs.filterMap (pull cb ops o i)).isEmpty && chkK cb ops n (runs.filterMap (pull cb ops o i)))
    | none => false
def nodupB : List Nat → Bool
  | [] => true
  | x :: l => !l.contains x && nodupB l
theorem nodupB_ok : ∀ {l : List Nat}, nodupB l = true → l.Nodup
  | [], _ => List.nodup_nil
  | x :: l, h => by
    unfold nodupB at h
    rw [Bool.and_eq_true] at h
    exact List.nodup_cons.2 ⟨by simpa using h.1, nodupB_ok h.2⟩
def fewK (cb : Cb) (ops : Array Oper) : List Nat := (List.range ops.size).filter fun i => (List.range ops.size).any fun j => match ops[i]?, ops[j]? with
  | some p, some o => i != j && !(freeB cb ops p o) && !(freeB cb ops o p) && !(ordB ops 12 i j) && !(ordB ops 12 j i)
  | _, _ => false
def chkR (cb : Cb) (ops : Array Oper) (runs : List (List Nat)) : Bool := backB ops && !runs.isEmpty &&
  runs.all (fun l => (List.range ops.size).all (l.contains ·) && l.all (fun i => decide (i < ops.size)) && nodupB l && pairsB cb ops (fewK cb ops) l) && chkK cb ops ops.size (runs.map fun l => l.filter (fewK cb ops).contains)

section
variable {ops : Array Oper} {o : Oper} {i : Nat} {K : List Nat}
theorem pull_free (ho : ops[i]? = some o) : ∀ {l : List Nat}, i ∈ l → (∀ x ∈ l, ops[x]? ≠ none) → (∀ xs ys, l = xs ++ i :: ys → ∀ x ∈ xs, ∀ p : Oper, ops[x]? = some p → freeB cb ops p o = true) → ∃ l', pull cb ops o i l = some l'
  | [], h, _, _ => by cases h
  | x :: l, h, hn, hf => by
    unfold pull
    by_cases e : x = i
    · exact ⟨l, by rw [if_pos e]⟩
    · rw [if_neg e]
      have hl : i ∈ l := by rcases List.mem_cons.1 h with q | q; exact absurd q.symm e; exact q
      obtain ⟨xs, ys, hxy⟩ := List.append_of_mem hl
      cases hp : ops[x]? with
      | none => exact absurd hp (hn x List.mem_cons_self)
      | some p =>
        have := hf (x :: xs) ys (by rw [hxy]; rfl) x List.mem_cons_self p hp
        simp only [this, if_true]
        obtain ⟨l', hl'⟩ := pull_free ho hl (fun y hy => hn y (List.mem_cons_of_mem _ hy)) (fun xs ys hq y hy p hp => hf (x :: xs) ys (by rw [hq]; rfl) y (List.mem_cons_of_mem _ hy) p hp)
        exact ⟨x :: l', by rw [hl']⟩
theorem pull_filter (hi : K.contains i = true) : ∀ {l : List Nat}, (∀ x ∈ l, ops[x]? ≠ none) → (∀ xs ys, l = xs ++ i :: ys → ∀ x ∈ xs, K.contains x = false → ∀ p : Oper, ops[x]? = some p → freeB cb ops p o = true) → i ∈ l →
    (pull cb ops o i l).map (fun l => l.filter K.contains) = pull cb ops o i (l.filter K.contains)
  | [], _, _, h => by cases h
  | x :: l, hn, hf, h => by
    by_cases e : x = i
    · subst e
      unfold pull
      rw [List.filter_cons_of_pos hi]
      simp only [if_true, Option.map_some]
    · have hl : i ∈ l := by rcases List.mem_cons.1 h with q | q; exact absurd q.symm e; exact q
      obtain ⟨xs, ys, hxy⟩ := List.append_of_mem hl
      have ih := pull_filter hi (l := l) (fun y hy => hn y (List.mem_cons_of_mem _ hy)) (fun xs ys hq y hy hk p hp => hf (x :: xs) ys (by rw [hq]; rfl) y (List.mem_cons_of_mem _ hy) hk p hp) hl
      cases hp : ops[x]? with
      | none => exact absurd hp (hn x List.mem_cons_self)
      | some p =>
        cases hk : K.contains x with
        | false =>
          have hfr := hf (x :: xs) ys (by rw [hxy]; rfl) x List.mem_cons_self hk p hp
          rw [List.filter_cons_of_neg (by rw [hk]; simp), ← ih]
          conv => lhs; unfold pull
          rw [if_neg e]
          simp only [hp, hfr, if_true]
          cases pull cb ops o i l with
          | none => rfl
          | some l' => simp only [Option.map_some, Option.some.injEq]; rw [List.filter_cons_of_neg (by rw [hk]; simp)]
        | true =>
          rw [List.filter_cons_of_pos hk]
          unfold pull
          rw [if_neg e, if_neg e]
          simp only [hp]
          cases hfr : freeB cb ops p o with
          | false => simp
          | true =>
            simp only [if_true]
            rw [← ih]
            cases pull cb ops o i l with
            | none => rfl
            | some l' => simp only [Option.map_some, Option.some.injEq]; rw [List.filter_cons_of_pos hk]
end

theorem filterMap_map_comm {α β : Type} (f : α → Option α) (g : β → Option β) (h : α → β) : ∀ (l : List α), (∀ x ∈ l, (f x).map h = g (h x)) → (l.filterMap f).map h = (l.map h).filterMap g
  | [], _ => rfl
  | x :: l, hc => by
    have ih := filterMap_map_comm f g h l (fun y hy => hc y (List.mem_cons_of_mem _ hy))
    have hx := hc x List.mem_cons_self
    rw [List.map_cons, List.filterMap_cons, List.filterMap_cons, ← hx]
    cases f x with
    | none => simpa using ih
    | some y => simp [ih]

theorem orders_ok (hτ : TTOk P τ) {ops : Array Oper} (hd : ∀ (i : Nat) (o : Oper) (d : Nat), ops[i]? = some o → o.dst = some d → d < F.n) {Q : Exit → Act → World → Prop} {R : St → Prop} (hQ : ∀ s β a W, R s → Sim F β s a W → Q .normal a W) (K : List Nat)
    (hback : ∀ (i : Nat) (o : Oper), ops[i]? = some o → ∀ e ∈ o.after, Region.binds .any e = true → e.on < i) :
    ∀ (fuel m : Nat) (listed : Array Bool) (runs : List (List Nat)) (s : St) (β : Bet) (a : Act) (W : World), (∀ l ∈ runs, l.length ≤ fuel ∧ (∀ i, i ∈ l ↔ i < ops.size ∧ listed.getD i true = false) ∧ l.Nodup ∧ l.Pairwise (fun x y => pairB cb ops K x y = true) ∧ ∃ send, RunI P τ cb (.some ρ) ops l s send ∧ R send) →
      runs ≠ [] → chkK cb ops m (runs.map fun l => l.filter K.contains) = true → (∀ (j : Nat) (oj : Oper), ops[j]? = some oj → listed.getD j false = true → ∀ e ∈ oj.after, Region.binds .any e = true → listed.getD e.on false = true) → listed.size = ops.size →
      Sim F β s a W → wpAny P .any ops Q fuel listed a W := by
  have base : ∀ (listed : Array Bool) (runs : List (List Nat)) (s : St) (β : Bet) (a : Act) (W : World), (∀ l ∈ runs, (∀ i, i ∈ l ↔ i < ops.size ∧ listed.getD i true = false) ∧ l.Pairwise (fun x y => pairB cb ops K x y = true) ∧ ∃ send, RunI P τ cb (.some ρ) ops l s send ∧ R send) → runs ≠ [] → listed.size = ops.size →
      Sim F β s a W → Region.ready .any ops listed = [] → Q .normal a W := by
    intro listed runs s β a W hr hne hsz hs hrd
    cases runs with
    | nil => exact absurd rfl hne
    | cons l rs =>
      obtain ⟨hm, hp, send, hrun, hR⟩ := hr l List.mem_cons_self
      cases l with
      | nil =>
        have e : send = s := hrun
        subst e
        exact hQ _ β a W hR hs
      | cons i is =>
        exfalso
        have hi := (hm i).1 List.mem_cons_self
        have hrdy : i ∈ Region.ready .any ops listed := by
          rw [mem_ready]
          obtain ⟨o, ho⟩ : ∃ o, ops[i]? = some o := ⟨ops[i]'hi.1, Array.getElem?_eq_getElem hi.1⟩
          refine ⟨hi.2, o, ho, fun e he hb => ?_⟩
          have hlt := hback i o ho e he hb
          cases hq : listed.getD e.on false with
          | true => rfl
          | false =>
            exfalso
            have hmem : e.on ∈ i :: is := (hm e.on).2 ⟨by omega, by
              have hle : e.on < listed.size := by omega
              simp only [Array.getD_eq_getD_getElem?, Array.getElem?_eq_getElem hle, Option.getD_some] at hq ⊢; exact hq⟩
            rcases List.mem_cons.1 hmem with q | q
            · omega
            · have hx := List.rel_of_pairwise_cons hp q
              unfold pairB at hx
              rw [Bool.and_eq_true, Bool.not_eq_true'] at hx
              have : edgeB ops i e.on = true := by
                unfold edgeB; rw [ho]
                exact Array.any_eq_true'.2 ⟨e, he, by rw [hb]; simp⟩
              rw [this] at hx; exact absurd hx.1 (by simp)
        rw [hrd] at hrdy; cases hrdy
  intro fuel
  induction fuel with
  | zero =>
    intro m listed runs s β a W hr hne hk hdn hsz hs
    have hrd : Region.ready .any ops listed = [] := by
      cases runs with
      | nil => exact absurd rfl hne
      | cons l rs =>
        obtain ⟨hl, hm, _⟩ := hr l List.mem_cons_self
        have : l = [] := List.eq_nil_of_length_eq_zero (by omega)
        subst this
        cases hrd : Region.ready .any ops listed with
        | nil => rfl
        | cons i is =>
          have hi : i ∈ Region.ready .any ops listed := by rw [hrd]; simp
          obtain ⟨h1, o, h2, _⟩ := mem_ready.1 hi
          have := (hm i).2 ⟨(Array.getElem?_eq_some_iff.1 h2).1, h1⟩
          cases this
    exact ⟨hrd, base listed runs s β a W (fun l hl => ⟨(hr l hl).2.1, (hr l hl).2.2.2.1, (hr l hl).2.2.2.2⟩) hne hsz hs hrd⟩
  | succ fuel ih =>
    intro m listed runs s β a W hr hne hk hdn hsz hs
    refine ⟨fun hrd => base listed runs s β a W (fun l hl => ⟨(hr l hl).2.1, (hr l hl).2.2.2.1, (hr l hl).2.2.2.2⟩) hne hsz hs hrd, fun i hi => ?_⟩
    obtain ⟨h1, o, ho, hall⟩ := mem_ready.1 hi
    have hisz := (Array.getElem?_eq_some_iff.1 ho).1
    have unl : ∀ x, x < ops.size → listed.getD x true = false → listed.getD x false = false := fun x hx hq => by
      have hle : x < listed.size := by omega
      simp only [Array.getD_eq_getD_getElem?, Array.getElem?_eq_getElem hle, Option.getD_some] at hq ⊢; exact hq
    have nord : ∀ x, x < ops.size → listed.getD x true = false → ordB ops 12 i x = false := fun x hx hq => by
      cases hz : ordB ops 12 i x with
      | false => rfl
      | true =>
        have := ordB_listed hdn 12 i x hz (fun oj hoj e he hb => by rw [ho] at hoj; injection hoj with hoj; subst hoj; exact hall e he hb)
        rw [unl x hx hq] at this; cases this
    -- what stands ahead of i in a run may be swapped with it, or both are of the few
    have ahead : ∀ l ∈ runs, ∀ xs ys, l = xs ++ i :: ys → ∀ x ∈ xs, ∀ p : Oper, ops[x]? = some p → freeB cb ops p o = true ∨ (K.contains x = true ∧ K.contains i = true) := fun l hl xs ys hq x hx p hp => by
      obtain ⟨_, hm, _, hpw, _⟩ := hr l hl
      subst hq
      have hpair := (List.pairwise_append.1 hpw).2.2 x hx i List.mem_cons_self
      unfold pairB at hpair
      rw [Bool.and_eq_true, hp, ho] at hpair
      simp only [Bool.or_eq_true, Bool.and_eq_true] at hpair
      have hxm := (hm x).1 (List.mem_append_left _ hx)
      rcases hpair.2 with (q | q) | q
      · exact .inl q
      · rw [nord x hxm.1 hxm.2] at q; cases q
      · exact .inr q
    have mem : ∀ l ∈ runs, i ∈ l := fun l hl => ((hr l hl).2.1 i).2 ⟨hisz, h1⟩
    have nn : ∀ l ∈ runs, ∀ x ∈ l, ops[x]? ≠ none := fun l hl x hx => by
      rw [Array.getElem?_eq_getElem (((hr l hl).2.1 x).1 hx).1]; simp
    -- the pulled runs
    have pulled : ∀ l' ∈ runs.filterMap (pull cb ops o i), l'.length ≤ fuel ∧ (∀ j, j ∈ l' ↔ j < ops.size ∧ (listed.setIfInBounds i true).getD j true = false) ∧ l'.Nodup ∧ l'.Pairwise (fun x y => pairB cb ops K x y = true) ∧ ∃ s1, StepR P τ cb (.some ρ) ops o s s1 ∧ ∃ send, RunI P τ cb (.some ρ) ops l' s1 send ∧ R send := by
      intro l' hl'
      obtain ⟨l, hl, hp⟩ := List.mem_filterMap.1 hl'
      obtain ⟨xs, ys, hxy, rfl, hf⟩ := pull_some hp
      obtain ⟨g1, g2, g3, g4, send, hrun, hR⟩ := hr l hl
      subst hxy
      obtain ⟨s1, q1, q2⟩ := bubble hτ hd ho xs ys hf hs hrun
      have hnd : i ∉ xs ++ ys := fun q => by
        rw [List.nodup_append] at g3
        obtain ⟨n1, n2, n3⟩ := g3
        rcases List.mem_append.1 q with q | q
        · exact n3 i q i List.mem_cons_self rfl
        · exact (List.nodup_cons.1 n2).1 q
      have hsub : (xs ++ ys).Sublist (xs ++ i :: ys) := List.Sublist.append (List.Sublist.refl _) (List.sublist_cons_self _ _)
      refine ⟨by simp at g1 ⊢; omega, fun j => ?_, g3.sublist hsub, g4.sublist hsub, s1, q1, send, q2, hR⟩
      have hj := g2 j
      by_cases e : j = i
      · subst e
        constructor
        · intro q; exact absurd q hnd
        · rintro ⟨_, q⟩; simp [hsz, hisz] at q
      · have e2 : (listed.setIfInBounds i true).getD j true = listed.getD j true := getD_set_ne true (Ne.symm e)
        rw [e2, ← hj]
        simp only [List.mem_append, List.mem_cons]
        constructor
        · rintro (q | q)
          · exact .inl q
          · exact .inr (.inr q)
        · rintro (q | q | q)
          · exact .inl q
          · exact absurd q e
          · exact .inr q
    have hdn2 : ∀ (j : Nat) (oj : Oper), ops[j]? = some oj → (listed.setIfInBounds i true).getD j false = true → ∀ e ∈ oj.after, Region.binds .any e = true → (listed.setIfInBounds i true).getD e.on false = true := fun j oj hoj hlj e he hb => by
      by_cases q : j = i
      · subst q
        rw [ho] at hoj; injection hoj with hoj; subst hoj
        exact getD_set_true (hall e he hb)
      · rw [getD_set_ne false (Ne.symm q)] at hlj
        exact getD_set_true (hdn j oj hoj hlj e he hb)
    -- enough: a list of pulled runs that is not empty and passes the check
    have enough : ∀ (rs : List (List Nat)) (m' : Nat), rs ≠ [] → (∀ l ∈ rs, l ∈ runs.filterMap (pull cb ops o i)) → chkK cb ops m' (rs.map fun l => l.filter K.contains) = true → wpOp P ops Q i (wpAny P .any ops Q fuel (listed.setIfInBounds i true)) a W := by
      intro rs m' hne' hsub hk'
      obtain ⟨l0, hl0⟩ := List.exists_mem_of_ne_nil rs hne'
      obtain ⟨_, _, _, _, s1, q1, q2⟩ := pulled l0 (hsub l0 hl0)
      have hstep := step_ok hτ hs (fun d hdd => hd i o d ho hdd) q1 (K := wpAny P .any ops Q fuel (listed.setIfInBounds i true)) (Q := Q) (fun β' a' W' hs' => ih m' (listed.setIfInBounds i true) rs s1 β' a' W' (fun l hl => by
        obtain ⟨k1, k2, k3, k4, s1', r1, r2⟩ := pulled l (hsub l hl)
        refine ⟨k1, k2, k3, k4, ?_⟩
        rw [step_det q1 r1]; exact r2) hne' hk' hdn2 (by simpa using hsz) hs')
      unfold wpOp
      simp only [ho]
      split
      · rename_i hw; rw [if_pos hw] at hstep; exact .inl hstep
      · rename_i hw; rw [if_neg hw] at hstep; exact hstep
    cases hK : K.contains i with
    | false =>
      have each : ∀ l ∈ runs, ∃ l', pull cb ops o i l = some l' ∧ l'.filter K.contains = l.filter K.contains := fun l hl => by
        obtain ⟨l', hl'⟩ := pull_free ho (mem l hl) (nn l hl) (fun xs ys hq x hx p hp => by
          rcases ahead l hl xs ys hq x hx p hp with q | q
          · exact q
          · rw [hK] at q; cases q.2)
        obtain ⟨xs, ys, hxy, hl2, _⟩ := pull_some hl'
        refine ⟨l', hl', ?_⟩
        rw [hl2, hxy, List.filter_append, List.filter_append, List.filter_cons_of_neg (by rw [hK]; simp)]
      have hmap : (runs.filterMap (pull cb ops o i)).map (fun l => l.filter K.contains) = runs.map fun l => l.filter K.contains := by
        clear hr hne hk ahead mem nn pulled enough base
        induction runs with
        | nil => rfl
        | cons l rs ihr =>
          obtain ⟨l', h1, h2⟩ := each l List.mem_cons_self
          rw [List.filterMap_cons, h1]
          simp only [List.map_cons, h2]
          rw [ihr (fun x hx => each x (List.mem_cons_of_mem _ hx))]
      refine enough _ m (fun q => ?_) (fun l hl => hl) (by rw [hmap]; exact hk)
      rw [q] at hmap
      cases runs with
      | nil => exact hne rfl
      | cons l rs => simp at hmap
    | true =>
      have hmap : (runs.filterMap (pull cb ops o i)).map (fun l => l.filter K.contains) = (runs.map fun l => l.filter K.contains).filterMap (pull cb ops o i) :=
        filterMap_map_comm _ _ _ runs (fun l hl => pull_filter hK (nn l hl) (fun xs ys hq x hx hkx p hp => by
          rcases ahead l hl xs ys hq x hx p hp with q | q
          · exact q
          · rw [hkx] at q; cases q.1) (mem l hl))
      have hhead : i ∈ (runs.map fun l => l.filter K.contains).headD [] := by
        cases runs with
        | nil => exact absurd rfl hne
        | cons l rs => exact List.mem_filter.2 ⟨mem l List.mem_cons_self, hK⟩
      cases m with
      | zero =>
        exfalso
        unfold chkK at hk
        rw [Bool.and_eq_true] at hk
        cases runs with
        | nil => exact hne rfl
        | cons l rs =>
          have := List.all_eq_true.1 hk.2 (l.filter K.contains) (by simp)
          rw [List.isEmpty_iff] at this
          have hh : i ∈ l.filter K.contains := List.mem_filter.2 ⟨mem l List.mem_cons_self, hK⟩
          rw [this] at hh; cases hh
      | succ m =>
        unfold chkK at hk
        rw [Bool.and_eq_true] at hk
        have h2 := List.all_eq_true.1 hk.2 i hhead
        simp only [ho, Bool.or_eq_true, Bool.and_eq_true] at h2
        rcases h2 with h2 | ⟨h2, h3⟩
        · exfalso
          obtain ⟨x, hx, hox⟩ := List.any_eq_true.1 h2
          cases runs with
          | nil => exact hne rfl
          | cons l rs =>
            have hx : x ∈ l.filter K.contains := hx
            have hxl := (List.mem_filter.1 hx).1
            have := ((hr l List.mem_cons_self).2.1 x).1 hxl
            rw [nord x this.1 this.2] at hox; cases hox
        · rw [← hmap] at h2 h3
          have hne2 : runs.filterMap (pull cb ops o i) ≠ [] := fun q => by rw [q] at h2; simp at h2
          exact enough _ m hne2 (fun l hl => hl) h3
def pickL (ops : Array Oper) : List Nat → List Oper
  | [] => []
  | i :: l => match ops[i]? with
    | some o => o :: pickL ops l
    | none => pickL ops l
theorem vops_runL {ops : Array Oper} {K : St → Prop} : ∀ (l : List Nat) (s : St), l.all (fun i => decide (i < ops.size)) = true → vops P τ cb (.some ρ) ops (pickL ops l) s K → ∃ s', RunI P τ cb (.some ρ) ops l s s' ∧ K s'
  | [], s, _, h => ⟨s, rfl, h⟩
  | i :: l, s, hl, h => by
    rw [List.all_cons, Bool.and_eq_true] at hl
    obtain ⟨o, h0⟩ : ∃ o, ops[i]? = some o := ⟨_, Array.getElem?_eq_getElem (of_decide_eq_true hl.1)⟩
    have fin : ∀ s1, StepR P τ cb (.some ρ) ops o s s1 → vops P τ cb (.some ρ) ops (pickL ops l) s1 K → ∃ s', RunI P τ cb (.some ρ) ops (i :: l) s s' ∧ K s' := fun s1 h1 h2 => by
      obtain ⟨s', h3, h4⟩ := vops_runL l s1 hl.2 h2
      exact ⟨s', ⟨o, s1, h0, h1, h3⟩, h4⟩
    unfold pickL at h
    rw [h0] at h
    simp only at h
    unfold vops at h
    split at h
    · rename_i hg
      obtain ⟨s1, h1, h2⟩ := vstep_ex h
      exact fin s1 (.run (.inl hg) h1) h2
    · rename_i j want hg
      split at h <;> try (exact h.elim)
      rename_i d hj
      split at h
      · rename_i b hb
        split at h
        · rename_i e; subst e
          obtain ⟨s1, h1, h2⟩ := vstep_ex h
          exact fin s1 (.run (.inr ⟨j, _, d, hg, hj, hb⟩) h1) h2
        · rename_i e
          exact fin _ (.pass hg hj (.inr (by rw [hb]; cases b <;> cases want <;> simp_all))) h
      · split at h
        · rename_i hu
          exact fin _ (.pass hg hj (.inl hu)) h
        · exact h.elim
def ordsV (P : Program) (τ : TT) (cb : Cb) (ρ : Nat → V × List (Nat × Ob)) (ops : Array Oper) (s : St) (K : St → Prop) : List (List Nat) → Prop
  | [] => True
  | r :: rs => vops P τ cb (.some ρ) ops (pickL ops r) s K ∧ ordsV P τ cb ρ ops s K rs
theorem ordsV_mem {ops : Array Oper} {s : St} {K : St → Prop} : ∀ {rs : List (List Nat)}, ordsV P τ cb ρ ops s K rs → ∀ r ∈ rs, vops P τ cb (.some ρ) ops (pickL ops r) s K
  | [], _, r, hr => by cases hr
  | _ :: rs, h, r, hr => by
    rcases List.mem_cons.1 hr with rfl | hr
    · exact h.1
    · exact ordsV_mem h.2 r hr
def lkF (l : List (Nat × (V × List (Nat × Ob)))) (i : Nat) : V × List (Nat × Ob) := match l with
  | [] => (.any, [])
  | (j, x) :: r => if i = j then x else lkF r i
theorem vregord (hτ : TTOk P τ) (hm : P.follows .mixedOrders = true) {n : Nat} (hn : F.n = n) {id : Nat} {l : List Oper} {Q : Exit → St → Prop} {s : St} (hd : dstB n l = true) (cb : Cb) (rs : List (List Nat)) (fx : List (Nat × (V × List (Nat × Ob))))
    (hc : chkR cb l.toArray rs = true) (h : ordsV P τ cb (lkF fx) l.toArray s (fun s' => Q .normal s') rs) : VWp P F (.region id l.toArray true) Q s := fun β a W hs => by
  refine wp_region_any hm ?_
  have hs' : Sim F β s a { W with drawn := W.drawn + 1 } := hs.world (Chg.drew [] W)
  have hd2 : (l.toArray).toList.all (fun o => match o.dst with | some i => decide (i < F.n) | none => true) = true := by subst hn; exact dstB_all hd
  unfold chkR at hc
  rw [Bool.and_eq_true, Bool.and_eq_true, Bool.and_eq_true] at hc
  obtain ⟨⟨⟨hbk, hne⟩, hall⟩, hk⟩ := hc
  refine orders_ok (ρ := lkF fx) hτ (fun i o d ho hdd => by
    have := List.all_eq_true.1 hd2 o (by simpa using Array.mem_of_getElem? ho)
    rw [hdd] at this; simpa using this) (R := fun s' => Q .normal s') (fun s β a W hk hsim => ⟨s, β, hk, hsim⟩) (fewK cb l.toArray) (fun i o ho e he hbn => ?_) _ _ _ rs s β a _ (fun r hr => ?_) (by intro q; rw [q] at hne; simp at hne) hk (fun j oj hj hl => ?_) (by simp) hs'
  · have := List.all_eq_true.1 hbk i (List.mem_range.2 (Array.getElem?_eq_some_iff.1 ho).1)
    simp only [ho] at this
    have h2 := Array.all_eq_true_iff_forall_mem.1 this e he
    rw [hbn] at h2; simpa using h2
  · have hr1 := List.all_eq_true.1 hall r hr
    rw [Bool.and_eq_true, Bool.and_eq_true, Bool.and_eq_true] at hr1
    obtain ⟨⟨⟨p1, p2⟩, p3⟩, p4⟩ := hr1
    have hnd := nodupB_ok p3
    have hmem : ∀ i, i ∈ r ↔ i < l.toArray.size := fun i => by
      constructor
      · intro q; have := List.all_eq_true.1 p2 i q; simpa using this
      · intro q; have := List.all_eq_true.1 p1 i (List.mem_range.2 q); simpa using this
    have hlen : r.length ≤ l.toArray.size := by
      have := hnd.length_le_of_subset (l₂ := List.range l.toArray.size) (fun i hi => List.mem_range.2 ((hmem i).1 hi))
      simpa using this
    obtain ⟨send, hrun, hR⟩ := vops_runL r s (by rw [List.all_eq_true]; intro i hi; have := List.all_eq_true.1 p2 i hi; exact this) (ordsV_mem h r hr)
    refine ⟨hlen, fun i => ?_, hnd, pairsB_ok p4, send, hrun, hR⟩
    rw [hmem i]
    constructor
    · intro q
      have q2 : i < l.length := by simpa using q
      exact ⟨q, by simp [q2]⟩
    · exact fun q => q.1
  · exfalso
    have hlt := (Array.getElem?_eq_some_iff.1 hj).1
    have hlt : j < l.length := by simpa using hlt
    simp [hlt] at hl
end
end Go.Proofs.YtedbbinlcdgkoaaGreatDoor
