import Derived.RangeFuncRecord
import Derived.RangeFuncLeaves
import Derived.Test.YtedbbinlcdgkoaaGreatDoorVS
/- The value machine: calls, regions in their order, code, functions. No program in sight. -/
namespace Go.Proofs.YtedbbinlcdgkoaaGreatDoor
open Go.RowKit
set_option linter.unusedVariables false
set_option linter.unusedSimpArgs false

theorem run_callFunc_enter {P : Program} {f : FuncId} (h : ∃ fn, P.funcs[f]? = some fn ∧ fn.body.isSome = true ∧ (fn.name == "runtime.NumGoroutine") = false) (args : Array Value) (w : World) : (callFunc f args).run P w = .ok (.enter f args) w := by
  obtain ⟨fn, h1, h2, h3⟩ := h
  have h4 : fn.body.isNone = false := by cases hb : fn.body <;> simp_all
  simp only [callFunc, Sem.run_bind, run_program, Result.andThen_ok, h1, h3, Bool.false_eq_true, if_false, h4, Sem.run_pure]

def calleeOf : Op → Option (Operand × List Operand)
  | .call c => match c.callee with
    | .value x => some (x, c.args.toList)
    | _ => none
  | _ => none
theorem calleeOf_some {op : Op} {x : Operand} {l : List Operand} (h : calleeOf op = some (x, l)) : ∃ c, op = .call c ∧ c.callee = .value x ∧ c.args.toList = l := by
  unfold calleeOf at h
  split at h
  · split at h
    · rename_i hc; injection h with h; injection h with h1 h2; subst h1; exact ⟨_, rfl, hc, h2⟩
    · cases h
  · cases h

def vstep (P : Program) (τ : TT) (cb : Cb) (κ : Fx) (o : Oper) (s : St) (K : St → Prop) : Prop :=
  match calleeOf o.op with
  | some (x, l) => (match evalV s x with
    | .fn (.func f) caps => (match viewL s.o (l.map (evalV s) ++ caps) with
      | some args => ∃ r, Spec P f args r ∧ fixV κ o.dst r [] ∧ K (s.put o.dst r)
      | none => False) ∨ (bAt cb o.dst = true ∧ BX P κ f (l.map (evalV s) ++ caps) s o.dst K)
    | _ => False)
  | none => (match exec τ (hotF κ o.dst) (evalV s) (obV s.o) (view s.o) o.dst o.op with
    | some r => r.pre ∧ freshV s o.dst r.upd ∧ K (s.app o.dst r)
    | none => False)

def isUndef : V → Bool
  | .raw (.tuple _) => true
  | _ => false

def vops (P : Program) (τ : TT) (cb : Cb) (κ : Fx) (ops : Array Oper) : List Oper → St → (St → Prop) → Prop
  | [], s, K => K s
  | o :: os, s, K => match o.guard with
    | none => vstep P τ cb κ o s (fun s' => vops P τ cb κ ops os s' K)
    | some (j, want) => (match (ops[j]?).bind (·.dst) with
      | some d => (match s.t d with
        | .bool b => if b = want then vstep P τ cb κ o s (fun s' => vops P τ cb κ ops os s' K) else vops P τ cb κ ops os (s.put o.dst (.raw undef)) K
        | x => if isUndef x then vops P τ cb κ ops os (s.put o.dst (.raw undef)) K else False)
      | none => False)

section
variable {P : Program} {τ : TT} {cb : Cb} {κ : Fx} {F : Env} {β : Bet} {s : St} {a : Act} {W : World}

theorem vstep_ok (hτ : TTOk P τ) (h : Sim F β s a W) {o : Oper} (hd : ∀ i, o.dst = some i → i < F.n) {K : St → Prop} (hv : vstep P τ cb κ o s K) {K' : Act → World → Prop} {Q : Exit → Act → World → Prop}
    (hK : ∀ s' β' a' W', K s' → Sim F β' s' a' W' → K' a' W') : o.wp P a W K' Q := by
  unfold vstep at hv
  split at hv
  · rename_i x l hc
    split at hv <;> try (exact hv.elim)
    rename_i f caps hx
    obtain ⟨c, hop, hcal, hl⟩ := calleeOf_some hc
    have hxr := (eval_rep h x).1
    rw [hx] at hxr
    obtain ⟨cs, hxe, hcs⟩ := hxr
    have hrep := RepL.append (rep_map h l) hcs
    have hcall : ∃ ent : (∃ fn, P.funcs[f]? = some fn ∧ fn.body.isSome = true ∧ (fn.name == "runtime.NumGoroutine") = false), Calls P f (l.map a.eval ++ cs).toArray W fun e w' => ∃ v, e = .returned v ∧ K' (a.put o.dst v) w' := by
      rcases hv with hv | ⟨_, hB⟩
      · split at hv <;> try (exact hv.elim)
        rename_i args hargs
        obtain ⟨r, hs, _, hv⟩ := hv
        obtain ⟨h1, h2⟩ := viewL_rep h.objs _ _ _ hargs hrep
        have h3 : RepL (S0 (Mut F β s.o) W) args (l.map a.eval ++ cs) := RepL.mono (S := sit F β s.o W) (S' := S0 (Mut F β s.o) W) (fun b p c g1 g2 => ⟨g1, g2⟩) args _ (by rw [h2]; simp) h1
        refine ⟨hs.ent, Calls.mono (hs.run (Mut F β s.o) W _ (fun b p q => h.objs.mut_lt q) h.objs.base.gcNow h3) ?_⟩
        rintro e w' ⟨v, rfl, hc, hr⟩
        refine ⟨v, rfl, ?_⟩
        have h4 := h.world hc
        refine hK _ β _ _ hv (h4.put o.dst hd (by rw [hs.rc]; simp) ?_)
        exact Rep.clean (S := S0 (Mut F β s.o) w') (S' := sit F β s.o w') (fun b p c g1 g2 => ⟨g1, g2⟩) hs.rc hr
      · obtain ⟨r1, os1, ⟨rfl, args, ha, hs, hfl⟩ | ⟨ρ, args, os, r, os', hρ, hnew, ha, ht, hs, hr1, ho1⟩, _, hB⟩ := hB
        · have h3 := seen_rep h.objs _ _ hrep
          rw [ha] at h3
          refine ⟨hs.ent, Calls.mono (hs.run (fun _ _ => False) W _ (fun b p q => q.elim) ⟨fun b p q q2 => q2, h.objs.base.gcNow.2⟩ h3) ?_⟩
          rintro e w' ⟨v, rfl, hc, hr⟩
          refine ⟨v, rfl, ?_⟩
          have h4 := h.world hc
          have e1 : (⟨(s.put o.dst r1).t, upL s.o []⟩ : St) = s.put o.dst r1 := by cases o.dst <;> rfl
          refine hK _ β _ _ hB ?_
          rw [e1]
          exact h4.put o.dst hd (by rw [hs.rc]; simp) (flatW_rep hfl hr)
        refine ⟨hs.ent, Calls.mono (bcall h.objs h.closed.o hρ hnew ha ht hrep hs hr1 ho1) ?_⟩
        rintro e w' ⟨v, β', rfl, hO, hR, move, hq, hcl, hr, hdf, hsz⟩
        refine ⟨v, rfl, ?_⟩
        have base : Sim F β' ⟨s.t, upL s.o os1⟩ a w' := ⟨hO, ⟨fun i q hq' => hq q (h.closed.t i q hq'), hcl⟩, fun i => move _ _ (h.closed.t i) (h.frame i), (by obtain ⟨d0, Ds, d1, d2, d3⟩ := h.defers; exact ⟨Nat.le_trans d0 hsz, Ds, d1, d2, fun D hD => ⟨(d3 D hD).1, hdf D _ (d3 D hD).2⟩⟩), h.size⟩
        have e1 : (⟨(s.put o.dst r1).t, upL s.o os1⟩ : St) = (⟨s.t, upL s.o os1⟩ : St).put o.dst r1 := by cases o.dst <;> rfl
        refine hK _ β' _ _ hB ?_
        rw [e1]
        exact base.put o.dst hd hr hR
    obtain ⟨hent, hcall⟩ := hcall
    unfold Oper.wp execOp
    have hres : (resolve a.eval c o.type).run P W = .ok { target := .fn (.func f) cs.toArray, args := c.args.map a.eval } W := by
      unfold resolve
      simp only [hcal, hxe, Deferred.ofValue, Sem.run_pure]
      congr 2
      simp
    have harr : c.args.map a.eval ++ cs.toArray = (l.map a.eval ++ cs).toArray := by
      apply Array.ext'; simp [← hl]
    simp only [hop, Sem.run_bind, hres, Result.andThen_ok, invoke, run_callFunc_enter hent, Oper.upon]
    rw [harr]
    refine Calls.mono hcall ?_
    rintro e w' ⟨v, rfl, hk⟩
    exact hk
  · split at hv <;> try (exact hv.elim)
    rename_i r hr
    obtain ⟨hp, hf, hv⟩ := hv
    exact exec_ok hτ h hd hr hp hf (fun β' v W' h' => hK _ β' _ _ hv h')

theorem wanted_ok (h : Sim F β s a W) {ops : Array Oper} {o : Oper} {j d : Nat} {want : Bool} (hg : o.guard = some (j, want)) (hj : (ops[j]?).bind (·.dst) = some d) :
    (∀ b, s.t d = .bool b → Region.wanted o (yielded ops a.tmps) = (b == want)) ∧ (isUndef (s.t d) = true → Region.wanted o (yielded ops a.tmps) = false) := by
  have hf := h.frame d
  unfold Region.wanted yielded
  simp only [hg, hj, Option.bind_some]
  constructor
  · intro b hb
    rw [hb] at hf
    have hf : a.tmps.getD d undef = .bool b := hf
    rw [Array.getD_eq_getD_getElem?] at hf
    cases hq : a.tmps[d]? with
    | none => rw [hq] at hf; cases hf
    | some v =>
      rw [hq] at hf
      simp only [Option.getD_some] at hf; subst hf
      cases b <;> cases want <;> rfl
  · intro hu
    cases hx : s.t d with
    | raw u =>
      rw [hx] at hu hf
      have hf : a.tmps.getD d undef = u := hf
      rw [Array.getD_eq_getD_getElem?] at hf
      cases hq : a.tmps[d]? with
      | none => rfl
      | some v =>
        rw [hq] at hf
        simp only [Option.getD_some] at hf; subst hf
        cases v <;> first | rfl | (simp [isUndef] at hu)
    | _ => rw [hx] at hu; simp [isUndef] at hu

theorem vops_ok (hτ : TTOk P τ) {ops : Array Oper} {Q : Exit → Act → World → Prop} {K : St → Prop} (hQ : ∀ s' β' a' W', K s' → Sim F β' s' a' W' → Q .normal a' W') :
    ∀ (l : List Oper) {β : Bet} {s : St} {a : Act} {W : World}, (∀ o ∈ l, ∀ i, o.dst = some i → i < F.n) → Sim F β s a W → vops P τ cb κ ops l s K → wpList P ops Q l a W
  | [], β, s, a, W, _, h, hv => hQ s β a W hv h
  | o :: os, β, s, a, W, hd, h, hv => by
    have hd1 := hd o List.mem_cons_self
    have hd2 : ∀ o' ∈ os, ∀ i, o'.dst = some i → i < F.n := fun o' ho => hd o' (List.mem_cons_of_mem _ ho)
    have go : vstep P τ cb κ o s (fun s' => vops P τ cb κ ops os s' K) → o.wp P a W (wpList P ops Q os) Q := fun hv =>
      vstep_ok hτ h hd1 hv (fun s' β' a' W' hk hs => vops_ok hτ hQ os hd2 hs hk)
    have no : vops P τ cb κ ops os (s.put o.dst (.raw undef)) K → wpList P ops Q os (a.put o.dst undef) W := fun hv =>
      vops_ok hτ hQ os hd2 (h.put o.dst hd1 (x := .raw undef) (by simp [V.refs]) rfl) hv
    unfold vops at hv
    unfold wpList
    split at hv
    · rename_i hg
      have hw : Region.wanted o (yielded ops a.tmps) = true := by unfold Region.wanted; rw [hg]
      rw [if_pos hw]; exact .inl (go hv)
    · rename_i j want hg
      split at hv <;> try (exact hv.elim)
      rename_i d hj
      obtain ⟨w1, w2⟩ := wanted_ok h hg hj
      split at hv
      · rename_i b hb
        have hw := w1 b hb
        split at hv
        · rename_i e; subst e
          rw [if_pos (by rw [hw]; simp)]; exact .inl (go hv)
        · rename_i e
          rw [if_neg (by rw [hw]; simpa using e)]; exact no hv
      · split at hv
        · rename_i hu
          rw [if_neg (by rw [w2 hu]; simp)]; exact no hv
        · exact hv.elim

def VWp (P : Program) (F : Env) (c : Code) (Q : Exit → St → Prop) (s : St) : Prop :=
  ∀ β a W, Sim F β s a W → c.wp P (fun e a' W' => ∃ s' β', Q e s' ∧ Sim F β' s' a' W') a W

def thenV (N : St → Prop) (Q : Exit → St → Prop) : Exit → St → Prop
  | .normal, s => N s
  | e, s => Q e s
def blockV (id : Nat) (Q : Exit → St → Prop) : Exit → St → Prop
  | .exit i, s => if i = id then Q .normal s else Q (.exit i) s
  | e, s => Q e s

variable {Q : Exit → St → Prop}
theorem VWp.mono {c : Code} {Q' : Exit → St → Prop} (h : VWp P F c Q s) (hq : ∀ e s, Q e s → Q' e s) : VWp P F c Q' s :=
  fun β a W hs => Go.wp_mono (h β a W hs) (fun e a' W' ⟨s', β', q, hs'⟩ => ⟨s', β', hq e s' q, hs'⟩)
theorem VWp.less {c : Code} {s' : St} (h : VWp P F c Q s') (hl : Less s s') (hc : Closed s') : VWp P F c Q s := fun β a W hs => h β a W (hs.less hl hc)
theorem vwp_skip (h : Q .normal s) : VWp P F .skip Q s := fun β a W hs => wp_skip ⟨s, β, h, hs⟩
theorem vwp_exit {id : Nat} (h : Q (.exit id) s) : VWp P F (.exit id) Q s := fun β a W hs => wp_exit ⟨s, β, h, hs⟩
theorem vwp_ret (h : Q .ret s) : VWp P F .ret Q s := fun β a W hs => wp_ret ⟨s, β, h, hs⟩
theorem vwp_seq {x y : Code} (h : VWp P F x (thenV (VWp P F y Q) Q) s) : VWp P F (.seq x y) Q s := fun β a W hs => by
  refine wp_seq (Go.wp_mono (h β a W hs) ?_)
  rintro e a' W' ⟨s', β', q, hs'⟩
  cases e with
  | normal => exact q β' a' W' hs'
  | _ => exact ⟨s', β', q, hs'⟩
theorem vwp_block {id : Nat} {c : Code} (h : VWp P F c (blockV id Q) s) : VWp P F (.block id c) Q s := fun β a W hs => by
  refine wp_block (Go.wp_mono (h β a W hs) ?_)
  rintro e a' W' ⟨s', β', q, hs'⟩
  cases e with
  | exit i =>
    show if i = id then _ else _
    have q : if i = id then Q .normal s' else Q (.exit i) s' := q
    by_cases e : i = id
    · rw [if_pos e] at q ⊢; exact ⟨s', β', q, hs'⟩
    · rw [if_neg e] at q ⊢; exact ⟨s', β', q, hs'⟩
  | _ => exact ⟨s', β', q, hs'⟩
theorem vwp_cond {c : Operand} {x y : Code} {t : Bool} (hc : evalV s c = .bool t) (ht : t = true → VWp P F x Q s) (hf : t = false → VWp P F y Q s) : VWp P F (.cond c x y) Q s := fun β a W hs => by
  have he := (eval_rep hs c).1
  rw [hc] at he
  have he : a.eval c = .bool t := he
  exact wp_cond_split he (fun e => ht e β a W hs) (fun e => hf e β a W hs)
theorem vwp_region (hτ : TTOk P τ) {id : Nat} {ops : Array Oper} (hd : ops.toList.all (fun o => match o.dst with | some i => decide (i < F.n) | none => true) = true) (h : vops P τ cb κ ops ops.toList s (fun s' => Q .normal s')) : VWp P F (.region id ops false) Q s := fun β a W hs => by
  have hl := vops_ok (Q := fun e a' W' => ∃ s' β', Q e s' ∧ Sim F β' s' a' W') hτ (fun s' β' a' W' hk hs => ⟨s', β', hk, hs⟩) ops.toList (fun o ho i hi => by
    have := List.all_eq_true.1 hd o ho
    rw [hi] at this; simpa using this) hs h
  refine wp_region ?_
  have he := wpOps_eq_wpList (P := P) (ops := ops) (Q := fun e a' W' => ∃ s' β', Q e s' ∧ Sim F β' s' a' W') ops.toList 0 (fun j => by simp)
  rw [Array.length_toList] at he
  rw [List.range_eq_range', he]; exact hl
def LeV (x r : V) : Prop := ∀ S v, Rep S x v → Rep S r v
theorem LeV.refl (x : V) : LeV x x := fun _ _ h => h
theorem LeV.of_eq {x r : V} (h : x = r) : LeV x r := h ▸ LeV.refl x
theorem LeV.nil (k : Nat) : LeV .nil (.sl k []) := fun S v h => by
  have h : v = .slice none 0 0 := h
  subst h
  exact ⟨none, 0, rfl, Nat.le_refl _, by simp [maxLen], fun _ => rfl, by simp, (fun r hr => by cases hr), fun x hx => by cases hx⟩
theorem LeV.empty (k k' : Nat) : LeV (.sl k []) (.sl k' []) := fun S v ⟨a, c, h1, h2, h3, h4, h5, h6, h7⟩ => ⟨a, c, h1, h2, h3, h4, by simp, h6, h7⟩
def LeL : List V → List V → Prop
  | [], [] => True
  | x :: xs, y :: ys => LeV x y ∧ LeL xs ys
  | _, _ => False
theorem LeL.rep {S : Sit} : ∀ {l m : List V} {vs : List Value}, LeL l m → RepL S l vs → RepL S m vs
  | [], [], _, _, h => h
  | x :: xs, y :: ys, _, h, hr => by
    obtain ⟨u, us, rfl, h1, h2⟩ := hr
    exact ⟨u, us, rfl, h.1 S u h1, LeL.rep h.2 h2⟩
  | [], _ :: _, _, h, _ => h.elim
  | _ :: _, [], _, h, _ => h.elim
theorem LeV.agg {l m : List V} (h : LeL l m) : LeV (.agg l) (.agg m) := fun S v ⟨cs, h1, h2, h3⟩ => ⟨cs, h1, h2, h.rep h3⟩
theorem LeV.tup {l m : List V} (h : LeL l m) : LeV (.tup l) (.tup m) := fun S v ⟨cs, h1, h3⟩ => ⟨cs, h1, h.rep h3⟩

def resP (τ : TT) (s : St) : List ResultVar → (List V → Prop) → Prop
  | [], K => K []
  | .tmp t :: rs, K => resP τ s rs (fun l => K (s.t t :: l))
  | .cell x T :: rs, K => match loadV τ T (s.t x) (obV s.o (s.t x)) with
    | some r => r.pre ∧ resP τ s rs (fun l => K (r.val :: l))
    | none => False
def finV : List V → V
  | [x] => x
  | l => .tup l
def retQ (τ : TT) (rs : List ResultVar) (r : V) : Exit → St → Prop
  | .ret, s | .normal, s => resP τ s rs (fun l => match viewL s.o l with | some l' => LeV (finV l') r | none => False)
  | _, _ => False

theorem resP_ok (hτ : TTOk P τ) (h : Sim F β s a W) : ∀ (rs : List ResultVar) {K : List V → Prop}, resP τ s rs K →
    ∃ l vs, K l ∧ RepL (sit F β s.o W) l vs ∧ (rs.mapM fun (x : ResultVar) => (match x with
      | .tmp t => pure (a.tmps.getD t undef)
      | .cell x t => do loadVar t (← asAddr (a.tmps.getD x undef)) : Sem Value)).run P W = .ok vs W
  | [], K, hk => ⟨[], [], hk, rfl, rfl⟩
  | .tmp t :: rs, K, hk => by
    obtain ⟨l, vs, h1, h2, h3⟩ := resP_ok hτ h rs hk
    refine ⟨_, a.tmps.getD t undef :: vs, h1, ⟨_, _, rfl, h.frame t, h2⟩, ?_⟩
    simp only [List.mapM_cons, Sem.run_bind, Sem.run_pure, Result.andThen_ok, h3]
  | .cell x T :: rs, K, hk => by
    unfold resP at hk
    split at hk <;> try (exact hk.elim)
    rename_i r hr
    obtain ⟨hp, hk⟩ := hk
    obtain ⟨l, vs, h1, h2, h3⟩ := resP_ok hτ h rs hk
    obtain ⟨z, W', β', hz, hsim⟩ := loadV_ok (d := none) hτ h (by simp) hr hp (h.frame x)
    have hrep : ∃ z, (Instr.loadAt T (a.tmps.getD x undef)).run P W = .ok z W ∧ Rep (sit F β s.o W) r.val z := by
      have hx := h.frame x
      unfold loadV at hr
      split at hr
      · rename_i ti o p T' c hti e1 ho
        rw [e1] at hx ho
        have ho : s.o o = some (.box T' c) := ho
        have hx : a.tmps.getD x undef = _ := hx
        obtain ⟨_, cs, rs, g1, g2, g3⟩ := h.objs.box o T' c ho
        obtain ⟨_, _, z, g4, g5⟩ := loadC_ok (W := W) (b := β.pb o) (q := 0) (hτ T ti hti) hr hp g3 g2 (fun j u hj => by rw [Nat.zero_add, cell_of_row _ _ j _ _ _ g1, List.getElem?_toArray, List.getElem?_append_left (List.getElem?_eq_some_iff.1 hj).1]; exact hj)
        refine ⟨z, ?_, g5⟩
        rw [Nat.zero_add] at g4
        rw [hx]
        simp only [Instr.loadAt, Instr.sureAddr, Sem.run_bind, Sem.run_pure, Result.andThen_ok]; exact g4
      · rename_i ti row p hti e1
        rw [e1] at hx
        obtain ⟨b, q, hx, k1, k2⟩ := hx
        obtain ⟨cs, k3, k4, k5⟩ := k2.cells
        obtain ⟨_, _, z, g4, g5⟩ := loadC_ok (W := W) (b := b) (q := q) (hτ T ti hti) hr hp k3 k4 k5
        refine ⟨z, ?_, g5⟩
        rw [hx, Nat.add_comm]
        simp only [Instr.loadAt, Instr.sureAddr, Sem.run_bind, Sem.run_pure, Result.andThen_ok]; rw [Nat.add_comm]; exact g4
      · cases hr
    obtain ⟨z, hz, hzr⟩ := hrep
    refine ⟨_, z :: vs, h1, ⟨_, _, rfl, hzr, h2⟩, ?_⟩
    have hz' : (do loadVar T (← asAddr (a.tmps.getD x undef)) : Sem Value).run P W = .ok z W := by
      generalize a.tmps.getD x undef = u at hz
      cases u with
      | pointer p =>
        cases p with
        | some p => simpa [Instr.loadAt, Instr.sureAddr, asAddr] using hz
        | none => simp [Instr.loadAt, Instr.sureAddr, stuck, Sem.run] at hz
      | _ => simp [Instr.loadAt, Instr.sureAddr, stuck, Sem.run] at hz
    simp only [List.mapM_cons, Sem.run_bind, hz', Result.andThen_ok, h3, Sem.run_pure]

def start (args : List V) : St := ⟨fun i => args.getD i .any, fun _ => none⟩

theorem Sim.side {F : Env} {β : Bet} {s : St} {a a' : Act} {W : World} {D : Nat} {q : Option (List Deferred)} {X : Obj} (h : Sim F β s a W) (hD : W.heap[D]? = some (.deferred q)) (hB : F.w0.heap.size ≤ D) (ht : a'.tmps = a.tmps) (hm : Marks F.B a'.defers (W.putObj D X)) :
    Sim F β s a' (W.putObj D X) := by
  have hother : ∀ {k : Nat} {o : Obj}, W.heap[k]? = some o → (∀ q, o ≠ .deferred q) → (W.putObj D X).heap[k]? = some o := fun {k o} hk ho => by
    have : k ≠ D := fun e => by subst e; rw [hD] at hk; injection hk with hk; exact ho q hk.symm
    rw [World.putObj_heap_other this]; exact hk
  have hcell : ∀ {b p : Nat} {c : Value}, W.cell? ⟨b, p, none⟩ = some c → (W.putObj D X).cell? ⟨b, p, none⟩ = some c := fun {b p c} hc => by
    have hne : b ≠ D := fun e => by subst e; unfold World.cell? at hc; rw [hD] at hc; cases hc
    exact (World.cell?_of_block (a := ⟨b, p, none⟩) (World.putObj_heap_other hne)).trans hc
  have hC : ∀ b p c, ¬ Mut F β s.o b p → W.cell? ⟨b, p, none⟩ = some c → ¬ Mut F β s.o b p ∧ (W.putObj D X).cell? ⟨b, p, none⟩ = some c := fun b p c h1 h2 => ⟨h1, hcell h2⟩
  have hR : ∀ r, RefOk s.o r → SameRef (sit F β s.o W) (sit F β s.o (W.putObj D X)) r := by
    rintro ⟨o, _ | n⟩ _
    · rfl
    · exact fun u hu => hu
  have hkin : ∀ o, s.o o = none ∨ (s.o o = none ∧ o < 1000000) ∨ (s.o o ≠ none ∧ Kin β β o (s.o o) (s.o o)) := fun o => by
    cases hx : s.o o with
    | none => exact .inl rfl
    | some x => exact .inr (.inr ⟨by simp, Kin.refl _ _ _⟩)
  have hchg : Chg F.L F.w0 (W.putObj D X) := ⟨h.objs.chg.os, h.objs.chg.tape, h.objs.chg.output, Nat.le_trans h.objs.chg.size (by simp [World.putObj]), fun j hj hn => by
    rw [World.putObj_heap_other (show j ≠ D by omega)]; exact h.objs.chg.block j hj hn⟩
  refine ⟨⟨h.objs.base.step hchg (fun o b hb => .inl ⟨o, hb⟩) hkin hC, fun o T c ho => ?_, fun o k E rows ho => ?_, h.objs.inj, fun o es ho => ?_⟩, h.closed, fun i => by rw [ht]; exact move_all hC hR (h.closed.t i) (h.frame i), hm, by rw [ht]; exact h.size⟩
  · obtain ⟨h1, cs, rs, h2, h3, h4⟩ := h.objs.box o T c ho
    exact ⟨h1, cs, rs, hother h2 (by intro q e; cases e), h3, move_allL hC hR (h.closed.o o T c ho) h4⟩
  · obtain ⟨h1, h2, h0, xs, h3, h4, h5⟩ := h.objs.arr o k E rows ho
    refine ⟨h1, h2, h0, xs, ⟨h3.1, ?_⟩, h4, move_allL hC hR (by rw [clean_flat h2]; simp) h5⟩
    rcases h3.2 with e | ⟨g, cap, cur, e1, e2, e3, e4⟩
    · exact .inl e
    · exact .inr ⟨g, cap, cur, e1, e2, hother e3 (by intro q e; cases e), e4⟩
  · obtain ⟨h1, h2, vs, h3, h4⟩ := h.objs.map o es ho
    exact ⟨h1, h2, vs, hother h3 (by intro q e; cases e), RepL.mono (S' := sit F β s.o (W.putObj D X)) hC _ vs (by rw [h2]; simp) h4⟩
theorem Sim.leave {F : Env} {β : Bet} {s : St} {fn : Func} {n : Nat} {R : Ending → World → Prop} (hB : F.w0.heap.size ≤ F.B) : ∀ (Ds : List Nat) (a : Act) (W : World), Sim F β s a W → a.defers = Ds.map (fun D => { target := .collected D, args := #[] }) → Ds.Nodup →
    (∀ D ∈ Ds, F.B ≤ D ∧ W.heap[D]? = some (.deferred (some []))) → (∀ (a2 : Act) (W2 : World), a2.tmps = a.tmps → Sim F β s a2 W2 → LeavesIn Fence.wide n P fn a.tmps R [] .returning W2) → LeavesInM Fence.wide n P fn a.tmps R a.defers .returning W
  | [], a, W, h, hd, _, _, hk => by rw [hd]; exact hk a W rfl h
  | D :: Ds, a, W, h, hd, hn, hall, hk => by
    rw [hd]
    obtain ⟨h1, h2⟩ := hall D List.mem_cons_self
    obtain ⟨n1, n2⟩ := List.nodup_cons.1 hn
    have hall2 : ∀ D' ∈ Ds, F.B ≤ D' ∧ (W.putObj D (.deferred none)).heap[D']? = some (.deferred (some [])) := fun D' hD' => by
      obtain ⟨k1, k2⟩ := hall D' (List.mem_cons_of_mem _ hD')
      have : D' ≠ D := fun e => n1 (e ▸ hD')
      exact ⟨k1, by rw [World.putObj_heap_other this]; exact k2⟩
    have hs := h.side (a' := { a with defers := Ds.map fun D => { target := .collected D, args := #[] } }) (X := .deferred none) h2 (by omega) rfl ⟨by have := h.defers.1; simpa [World.putObj] using this, Ds, rfl, n2, hall2⟩
    refine ⟨by simp, .inl ⟨D, W.putObj D (.deferred none), rfl, run_takeDeferred h2, ?_⟩⟩
    exact Sim.leave hB Ds { a with defers := Ds.map fun D => { target := .collected D, args := #[] } } (W.putObj D (.deferred none)) hs rfl n2 hall2 (fun a2 W2 e hs2 => hk a2 W2 e hs2)
theorem spec_intro (hτ : TTOk P τ) {f : FuncId} {fn : Func} {c : Code} {args : List V} {r : V} (hf : P.funcs[f]? = some fn) (hb : fn.body = some c) (hname : (fn.name == "runtime.NumGoroutine") = false)
    (hn : args.length ≤ fn.ntmps) (hn2 : fn.ntmps ≤ 1000000) (hr : r.refs = []) (ha : V.refsL args = []) (h : ∀ F : Env, F.n = fn.ntmps → VWp P F c (retQ τ fn.results.toList r) (start args)) : Spec P f args r := by
  refine ⟨⟨fn, hf, by rw [hb]; rfl, hname⟩, hr, fun M w vs hM hG hvs => (callsIn_wide (n := 1)).1 (callsIn_of_wp_marks hf hb trivial (wpIn_wide.2 ?_) rfl)⟩
  have hlen := RepL.length hvs
  let β : Bet := ⟨fun _ => 0, fun _ => undef⟩
  let F : Env := ⟨w, [], M, fn.ntmps, fun _ => none, β, gZ, w.heap.size⟩
  have hsit : ∀ b p, Mut F β (fun _ => none) b p ↔ M b p := fun b p => by
    constructor
    · rintro (q | ⟨o, T, c, q, _⟩ | ⟨o, k, E, rows, q, _⟩)
      · exact q
      · cases q
      · cases q
    · exact fun q => .inl q
  have hsim : Sim F β (start args) { tmps := vs.toArray ++ Array.replicate (fn.ntmps - vs.toArray.size) undef, defers := [] } w := by
    refine ⟨⟨⟨Chg.refl _ _, hM, (fun o b p q => by cases q), (fun o q => absurd rfl q), hn2, (fun o => by unfold Kin; trivial), (fun b p c q hc => ⟨fun m => hG.1 b p q ((hsit _ _).1 m), hc⟩), ⟨fun b p q => q, hG.2⟩, (fun o q => by cases q), (by intro q; cases q)⟩, (fun o T c q => by cases q), (fun o k E rows q => by cases q), (fun o o' b q => by cases q), (fun o es q => by cases q)⟩, ⟨fun i q hq => ?_, (fun o T c q => by cases q)⟩, fun i => ?_, Marks.none (Nat.le_refl _), by show _ = fn.ntmps; simp [hlen]; omega⟩
    · exfalso
      have hq : q ∈ (args.getD i .any).refs := hq
      rw [List.getD_eq_getElem?_getD] at hq
      cases hg : args[i]? with
      | none => rw [hg] at hq; simp [V.refs] at hq
      | some x =>
        rw [hg] at hq
        have := refsL_mem (List.mem_of_getElem? hg) q hq
        rw [ha] at this; cases this
    · show Rep _ (args.getD i .any) _
      rcases Nat.lt_or_ge i args.length with hi | hi
      · obtain ⟨u, hu, hru⟩ := RepL.get hvs i hi
        have e1 : args.getD i .any = args[i] := by simp [List.getD_eq_getElem?_getD, List.getElem?_eq_getElem hi]
        have e2 : (vs.toArray ++ Array.replicate (fn.ntmps - vs.toArray.size) undef).getD i undef = u := by
          rw [Array.getD_eq_getD_getElem?, Array.getElem?_append_left (by simp; omega)]
          simp [hu]
        rw [e2, e1]
        exact Rep.clean (S := S0 M w) (S' := sit F β (start args).o w) (fun b p c g1 g2 => ⟨fun q => g1 ((hsit b p).1 q), g2⟩) (refsL_nil_of ha (List.getElem_mem hi)) hru
      · have e1 : args.getD i .any = .any := by simp [List.getD_eq_getElem?_getD, List.getElem?_eq_none hi]
        rw [e1]; trivial
  refine Go.wp_mono (h F rfl β _ w hsim) ?_
  rintro e a' W' ⟨s', β', q, hs'⟩
  have fin : resP τ s' fn.results.toList (fun l => match viewL s'.o l with | some l' => LeV (finV l') r | none => False) → ∀ (a' : Act) (W' : World), Sim F β' s' a' W' → ∃ v, (results fn a'.tmps).run P W' = .ok v W' ∧ ∃ v', Ending.returned v = .returned v' ∧ Chg [] w W' ∧ Rep (S0 M W') r v' := by
    intro hk a' W' hs'
    obtain ⟨l, us, h1, h2, h3⟩ := resP_ok hτ hs' _ hk
    split at h1 <;> try (exact h1.elim)
    rename_i l' hl'
    obtain ⟨k1, k2⟩ := viewL_rep hs'.objs _ _ _ hl' h2
    have hrun : (results fn a'.tmps).run P W' = .ok (if h : us.toArray.size = 1 then us.toArray[0] else .tuple us.toArray) W' := by
      unfold results
      rw [Array.mapM_eq_mapM_toList]
      show Sem.run P ((fn.results.toList.mapM _ >>= fun l => pure l.toArray) >>= _) W' = _
      simp only [Sem.run_bind]
      erw [h3]
      rfl
    have hfin : Rep (sit F β' s'.o W') (finV l') (if h : us.toArray.size = 1 then us.toArray[0] else .tuple us.toArray) := by
      have hl2 := RepL.length k1
      cases l' with
      | nil =>
        have : us = [] := List.eq_nil_of_length_eq_zero hl2
        subst this
        exact ⟨[], rfl, rfl⟩
      | cons x xs =>
        obtain ⟨u, us', rfl, g1, g2⟩ := k1
        cases xs with
        | nil =>
          cases g2
          simpa [finV] using g1
        | cons y ys =>
          obtain ⟨u2, us2, rfl, g3, g4⟩ := g2
          have : ¬ ((u :: u2 :: us2).toArray.size = 1) := by simp
          rw [dif_neg this]
          exact ⟨_, rfl, u, _, rfl, g1, u2, us2, rfl, g3, g4⟩
    refine ⟨_, hrun, _, rfl, hs'.objs.chg, ?_⟩
    have := h1 _ _ hfin
    exact Rep.clean (S := sit F β' s'.o W') (S' := S0 M W') (fun b p c g1 g2 => ⟨fun q => g1 (.inl q), g2⟩) hr this
  have out : ∀ R : Ending → World → Prop, (∀ (a' : Act) (W' : World), Sim F β' s' a' W' → LeavesIn Fence.wide 1 P fn a'.tmps R [] .returning W') → LeavesInM Fence.wide 1 P fn a'.tmps R a'.defers .returning W' := fun R hk => by
    obtain ⟨_, Ds, d1, d2, d3⟩ := hs'.defers
    exact Sim.leave (Nat.le_refl _) Ds a' W' hs' d1 d2 d3 (fun a2 W2 e h2 => by rw [← e]; exact hk a2 W2 h2)
  cases e with
  | normal => exact out _ fun a2 W2 h2 => fin q a2 W2 h2
  | ret => exact out _ fun a2 W2 h2 => fin q a2 W2 h2
  | _ => exact q.elim

def subO (s : St) : List (Nat × Ob) → Prop
  | [] => True
  | (i, x) :: r => s.o i = some x ∧ subO s r
theorem subO_lko {s : St} {i : Nat} : ∀ {os : List (Nat × Ob)}, subO s os → lko os i = none ∨ lko os i = s.o i
  | [], _ => .inl rfl
  | (j, v) :: r, h => by
    unfold lko
    by_cases e : i = j
    · subst e; rw [if_pos rfl]; exact .inr h.1.symm
    · rw [if_neg e]; exact subO_lko h.2
def idm (os : List (Nat × Ob)) (o : Nat) : Option Nat := match lko os o with
  | some _ => some o
  | none => none
def domO (os' : List (Nat × Ob)) : List (Nat × Ob) → Prop
  | [] => True
  | (o, _) :: r => (match lko os' o with | some _ => True | none => False) ∧ domO os' r
theorem domO_ok {os' : List (Nat × Ob)} : ∀ {os : List (Nat × Ob)}, domO os' os → ∀ o, lko os o ≠ none → lko os' o ≠ none
  | [], _, o, h => absurd rfl h
  | (j, x) :: r, h, o, ho => by
    unfold lko at ho
    by_cases e : o = j
    · subst e
      intro q
      have := h.1
      rw [q] at this; exact this
    · rw [if_neg e] at ho; exact domO_ok h.2 o ho
def namB : List (Nat × Ob) → Bool
  | [] => true
  | (o, _) :: r => decide (1000000 ≤ o) && namB r
def retB (τ : TT) (rs : List ResultVar) (r : V) (os' : List (Nat × Ob)) : Exit → St → Prop
  | .ret, s | .normal, s => resP τ s rs (fun l => match cvtL s.o (idm os') l with | some l' => LeV (finV l') r | none => False) ∧ subO s os'
  | _, _ => False
def startB (args : List V) (os : List (Nat × Ob)) : St := ⟨fun i => args.getD i .any, lko os⟩
theorem cvt_less {so os1 : Nat → Option Ob} (h : Objs F β so W) (hl : ∀ o, os1 o = none ∨ os1 o = so o) {g : Nat → Option Nat} (hg : ∀ o o', g o = some o' → o' = o) : Cvt so g (sit F β so W) (sit F β os1 W) := by
  refine ⟨fun b p c q1 q2 => ⟨fun q => q1 (less_mut hl b p q), q2⟩, fun o o' q => ?_, fun o k E rows v ho hs hr => ?_⟩
  · have := hg o o' q; subst this
    exact ⟨rfl, fun n u hu => less_same (F := F) (β := β) (W := W) hl (o', some n) u hu⟩
  · have hve : v = β.sv o := hr.2 (β.sv o) (by show svOf _ _ o _ = _; unfold svOf; simp only [ho, if_true])
    subst hve
    exact (h.lie ho hs).less hl
theorem idm_id {os : List (Nat × Ob)} {o o' : Nat} (h : idm os o = some o') : o' = o := by
  unfold idm at h; split at h
  · injection h with h; exact h.symm
  · cases h

theorem specB_intro (hτ : TTOk P τ) {f : FuncId} {fn : Func} {c : Code} {args : List V} {os os' : List (Nat × Ob)} {r : V} (hf : P.funcs[f]? = some fn) (hb : fn.body = some c) (hname : (fn.name == "runtime.NumGoroutine") = false)
    (hn : args.length ≤ fn.ntmps) (hn2 : fn.ntmps ≤ 1000000) (hnm : namB os = true) (ha : okR (lko os) (V.refsL args)) (hos : okO (lko os) os) (hr : okR (lko os') r.refs) (hos' : okO (lko os') os') (hdom : domO os' os)
    (h : ∀ F : Env, F.n = fn.ntmps → VWp P F c (retB τ fn.results.toList r os') (startB args os)) : SpecB P f args os r os' := by
  refine ⟨⟨fn, hf, by rw [hb]; rfl, hname⟩, ⟨okR_ok hr, fun o T c ho => okR_ok (okO_mem hos' (lko_mem ho))⟩, domO_ok hdom, fun M L Z β w vs hO hvs => (callsIn_wide (n := 1)).1 (callsIn_of_wp_marks hf hb trivial (wpIn_wide.2 ?_) rfl)⟩
  have hlen := RepL.length hvs
  let F : Env := ⟨w, L, M, fn.ntmps, lko os, β, Z, w.heap.size⟩
  have hO1 : Objs F β (lko os) w := ⟨⟨hO.base.chg, hO.base.m0, hO.base.dis, hO.base.nam, hn2, hO.base.kin, hO.base.frz, hO.base.gc, hO.base.tab⟩, hO.box, hO.arr, hO.inj, hO.map⟩
  have hsim : Sim F β (startB args os) { tmps := vs.toArray ++ Array.replicate (fn.ntmps - vs.toArray.size) undef, defers := [] } w := by
    refine ⟨hO1, ⟨fun i q hq => ?_, fun o T c ho => okR_ok (okO_mem hos (lko_mem ho))⟩, fun i => ?_, Marks.none (Nat.le_refl _), by show _ = fn.ntmps; simp [hlen]; omega⟩
    · have hq : q ∈ (args.getD i .any).refs := hq
      rw [List.getD_eq_getElem?_getD] at hq
      cases hg : args[i]? with
      | none => rw [hg] at hq; simp [V.refs] at hq
      | some x =>
        rw [hg] at hq
        exact okR_ok ha q (refsL_mem (List.mem_of_getElem? hg) q hq)
    · show Rep _ (args.getD i .any) _
      rcases Nat.lt_or_ge i args.length with hi | hi
      · obtain ⟨u, hu, hru⟩ := RepL.get hvs i hi
        have e1 : args.getD i .any = args[i] := by simp [List.getD_eq_getElem?_getD, List.getElem?_eq_getElem hi]
        have e2 : (vs.toArray ++ Array.replicate (fn.ntmps - vs.toArray.size) undef).getD i undef = u := by
          rw [Array.getD_eq_getD_getElem?, Array.getElem?_append_left (by simp; omega)]
          simp [hu]
        rw [e2, e1]
        exact hru
      · have e1 : args.getD i .any = .any := by simp [List.getD_eq_getElem?_getD, List.getElem?_eq_none hi]
        rw [e1]; trivial
  refine Go.wp_mono (h F rfl β _ w hsim) ?_
  rintro e a' W' ⟨s', β', q, hs'⟩
  have fin : resP τ s' fn.results.toList (fun l => match cvtL s'.o (idm os') l with | some l' => LeV (finV l') r | none => False) ∧ subO s' os' → ∀ (a' : Act) (W' : World), Sim F β' s' a' W' → ∃ v, (results fn a'.tmps).run P W' = .ok v W' ∧
      ∃ v' β', Ending.returned v = .returned v' ∧ Objs ⟨w, L, M, 0, lko os, β, Z, 0⟩ β' (lko os') W' ∧ Rep (sit ⟨w, L, M, 0, lko os, β, Z, 0⟩ β' (lko os') W') r v' := by
    rintro ⟨hk, hsub⟩ a' W' hs'
    have hl : ∀ o, lko os' o = none ∨ lko os' o = s'.o o := fun o => subO_lko hsub
    obtain ⟨l, us, h1, h2, h3⟩ := resP_ok hτ hs' _ hk
    split at h1 <;> try (exact h1.elim)
    rename_i l' hl'
    have k1 := (cvtL_rep (cvt_less hs'.objs hl (fun o o' q => idm_id q)) _ _ _ hl' h2).1
    have hrun : (results fn a'.tmps).run P W' = .ok (if h : us.toArray.size = 1 then us.toArray[0] else .tuple us.toArray) W' := by
      unfold results
      rw [Array.mapM_eq_mapM_toList]
      show Sem.run P ((fn.results.toList.mapM _ >>= fun l => pure l.toArray) >>= _) W' = _
      simp only [Sem.run_bind]
      erw [h3]
      rfl
    have hfin : Rep (sit F β' (lko os') W') (finV l') (if h : us.toArray.size = 1 then us.toArray[0] else .tuple us.toArray) := by
      have hl2 := RepL.length k1
      cases l' with
      | nil =>
        have : us = [] := List.eq_nil_of_length_eq_zero hl2
        subst this
        exact ⟨[], rfl, rfl⟩
      | cons x xs =>
        obtain ⟨u, us', rfl, g1, g2⟩ := k1
        cases xs with
        | nil =>
          cases g2
          simpa [finV] using g1
        | cons y ys =>
          obtain ⟨u2, us2, rfl, g3, g4⟩ := g2
          have : ¬ ((u :: u2 :: us2).toArray.size = 1) := by simp
          rw [dif_neg this]
          exact ⟨_, rfl, u, _, rfl, g1, u2, us2, rfl, g3, g4⟩
    have hO2 := hs'.objs.less hl
    exact ⟨_, hrun, _, β', rfl, ⟨⟨hO2.base.chg, hO2.base.m0, hO2.base.dis, hO2.base.nam, Nat.zero_le _, hO2.base.kin, hO2.base.frz, hO2.base.gc, hO2.base.tab⟩, hO2.box, hO2.arr, hO2.inj, hO2.map⟩, h1 _ _ hfin⟩
  have out : ∀ R : Ending → World → Prop, (∀ (a' : Act) (W' : World), Sim F β' s' a' W' → LeavesIn Fence.wide 1 P fn a'.tmps R [] .returning W') → LeavesInM Fence.wide 1 P fn a'.tmps R a'.defers .returning W' := fun R hk => by
    obtain ⟨_, Ds, d1, d2, d3⟩ := hs'.defers
    exact Sim.leave (Nat.le_refl _) Ds a' W' hs' d1 d2 d3 (fun a2 W2 e h2 => by rw [← e]; exact hk a2 W2 h2)
  cases e with
  | normal => exact out _ fun a2 W2 h2 => fin q a2 W2 h2
  | ret => exact out _ fun a2 W2 h2 => fin q a2 W2 h2
  | _ => exact q.elim
end
end Go.Proofs.YtedbbinlcdgkoaaGreatDoor
