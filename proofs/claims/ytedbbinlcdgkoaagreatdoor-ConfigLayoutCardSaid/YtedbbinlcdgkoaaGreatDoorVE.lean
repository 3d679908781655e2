import Derived.Test.YtedbbinlcdgkoaaGreatDoorVD
/- The value machine: boxes, loads, stores, addresses. No program in sight. -/
namespace Go.Proofs.YtedbbinlcdgkoaaGreatDoor
open Go.RowKit
set_option linter.unusedVariables false
set_option linter.unusedSimpArgs false

def St.app (s : St) (d : Option Nat) (r : Res) : St :=
  match r.upd with
  | .none => s.put d r.val
  | .new x => match d with | some d => ⟨up s.t d r.val, up s.o d (some x)⟩ | none => s
  | .set o x => ⟨(s.put d r.val).t, up s.o o (some x)⟩
  | .put l => ⟨(s.put d r.val).t, upL s.o l⟩

theorem app_set (s : St) (d : Option Nat) (p : Prop) (v : V) (o : Nat) (x : Ob) : s.app d ⟨p, v, .set o x⟩ = (St.mk s.t (up s.o o (some x))).put d v := by cases d <;> rfl

def evalV (s : St) : Operand → V
  | .tmp t => s.t t
  | .const v => ofVal v
  | .global _ => .any
  | .func f => .fn (.func f) []
theorem eval_rep {F : Env} {β : Bet} {s : St} {a : Act} {W : World} (h : Sim F β s a W) (x : Operand) : Rep (sit F β s.o W) (evalV s x) (a.eval x) ∧ ∀ r ∈ (evalV s x).refs, RefOk s.o r := by
  cases x with
  | tmp t => exact ⟨h.frame t, h.closed.t t⟩
  | const v => exact ⟨ofVal_rep _ v, by rw [show evalV s (.const v) = ofVal v from rfl, ofVal_refs]; simp⟩
  | global g => exact ⟨trivial, by simp [evalV, V.refs]⟩
  | func f => exact ⟨⟨[], rfl, rfl⟩, by simp [evalV, V.refs, V.refsL]⟩

def Does (P : Program) (F : Env) (m : Sem Value) (s : St) (a : Act) (W : World) (d : Option Nat) (r : Res) : Prop :=
  ∃ v W' β', m.run P W = .ok v W' ∧ Sim F β' (s.app d r) (a.put d v) W'

section
variable {P : Program} {F : Env} {β : Bet} {s : St} {a : Act} {W : World} {d : Option Nat}

theorem does_val (h : Sim F β s a W) (hd : ∀ i, d = some i → i < F.n) {m : Sem Value} {r : Res} (hu : r.upd = .none) {z : Value} (hm : m.run P W = .ok z W) (hz : Rep (sit F β s.o W) r.val z) (hr : ∀ q ∈ r.val.refs, RefOk s.o q) : Does P F m s a W d r :=
  ⟨z, W, β, hm, by unfold St.app; rw [hu]; exact h.put d hd hr hz⟩
theorem does_yld (h : Sim F β s a W) (hd : ∀ i, d = some i → i < F.n) {m : Sem Value} {r : Res} (hy : Yld P (sit F β s.o W) m W r) : Does P F m s a W d r := by
  obtain ⟨z, h1, h2, h3, h4⟩ := hy
  exact does_val h hd h4 h1 h2 (by rw [h3]; simp)

theorem ofVal_repL (S : Sit) : ∀ l : List Value, RepL S (l.map ofVal) l
  | [] => rfl
  | v :: vs => ⟨v, vs, rfl, ofVal_rep S v, ofVal_repL S vs⟩
theorem ofVal_refsL : ∀ l : List Value, V.refsL (l.map ofVal) = []
  | [] => rfl
  | v :: vs => by rw [List.map_cons, V.refsL, ofVal_refs, ofVal_refsL vs]; rfl

theorem does_box (h : Sim F β s a W) {i : Nat} (hi : i < F.n) (hn : s.o i = none) (T : TypeId) {c : List V} {cs : List Value} (h1 : ∀ u ∈ cs, u.oneCell' = true) (hc : RepL (sit F β s.o W) c cs) (hr : ∀ r ∈ V.refsL c, RefOk s.o r)
    {m : Sem Value} (hm : m.run P W = .ok (.pointer (some ⟨W.heap.size, 0, none⟩)) (W.alloc (.cells cs.toArray T))) (p : Prop) : Does P F m s a W (some i) ⟨p, .ptr i 0, .new (.box T c)⟩ := by
  have h2 := h.newBox hn (Nat.lt_of_lt_of_le hi h.objs.base.nn) T h1 hc hr
  refine ⟨_, _, ⟨up β.pb i W.heap.size, up β.sv i undef⟩, hm, ?_⟩
  exact h2.put (some i) (fun j hj => by injection hj with hj; subst hj; exact hi) (x := .ptr i 0) (by
    intro r hr; simp only [V.refs, List.mem_singleton] at hr; subst hr; exact ⟨_, up_same _ _ _, rfl⟩) (by
    show _ = Value.pointer (some ⟨up β.pb i W.heap.size i, 0, none⟩); rw [up_same])

def allocV (τ : TT) (T : TypeId) (d : Option Nat) : Option Res :=
  match τ T, d with
  | some ti, some i => some ⟨True, .ptr i 0, .new (.box T (ti.zero.map ofVal))⟩
  | _, _ => none
theorem allocV_ok {τ : TT} (hτ : TTOk P τ) (h : Sim F β s a W) (hd : ∀ i, d = some i → i < F.n) {T : TypeId} {r : Res} (hr : allocV τ T d = some r) (hn : ∀ i, d = some i → s.o i = none) (old : Value) :
    Does P F (Instr.alloc T true old) s a W d r := by
  unfold allocV at hr
  split at hr
  · rename_i ti i hti
    injection hr with hr; subst hr
    have hok := hτ T ti hti
    obtain ⟨z, h1, h2⟩ := hok.zeroValue W
    refine does_box h (hd i rfl) (hn i rfl) T hok.zone (ofVal_repL _ _) (by rw [ofVal_refsL]; simp) ?_ _
    rw [← h2]
    simp [Instr.alloc, newVar, newRow, h1]
  · cases hr

def boxV (T : TypeId) (x : V) (d : Option Nat) : Option Res :=
  match x.cells?, d with
  | some c, some i => some ⟨True, .ptr i 0, .new (.box T c)⟩
  | _, _ => none
theorem boxV_ok (h : Sim F β s a W) (hd : ∀ i, d = some i → i < F.n) {T : TypeId} {x : V} {r : Res} (hr : boxV T x d = some r) (hn : ∀ i, d = some i → s.o i = none) {v : Value} (hx : Rep (sit F β s.o W) x v) (hx2 : ∀ r ∈ x.refs, RefOk s.o r) :
    Does P F (Instr.box T v) s a W d r := by
  unfold boxV at hr
  split at hr
  · rename_i c i hc
    injection hr with hr; subst hr
    obtain ⟨g1, g2⟩ := cells_rep hc hx
    refine does_box h (hd i rfl) (hn i rfl) T g2 g1 (by rw [cells_refs hc]; exact hx2) ?_ _
    simp [Instr.box, newVar, newRow]
  · cases hr

def fieldAddrV (τ : TT) (S : TypeId) (x : V) (f : Nat) : Option Res :=
  match τ S with
  | some ti => (match ti.k with
    | .struct fs => (match fs[f]? with
      | some (off, t) => (match τ t with
        | some tf => if tf.size = 0 then none else (match x with
          | .ptr o p => ok (.ptr o (p + off))
          | .rp row p => ok (.rp row (p + off))
          | _ => none)
        | none => none)
      | none => none)
    | _ => none)
  | none => none
theorem fieldAddrV_ok {τ : TT} (hτ : TTOk P τ) (h : Sim F β s a W) (hd : ∀ i, d = some i → i < F.n) {T : TypeId} {x : V} {f : Nat} {r : Res} (hr : fieldAddrV τ T x f = some r) {v : Value} (hx : Rep (sit F β s.o W) x v) (hx2 : ∀ r ∈ x.refs, RefOk s.o r) :
    Does P F (Instr.fieldAt T v f) s a W d r := by
  unfold fieldAddrV at hr
  split at hr <;> try (cases hr; done)
  rename_i ti hti
  split at hr <;> try (cases hr; done)
  rename_i fs hk
  split at hr <;> try (cases hr; done)
  rename_i off t hf
  split at hr <;> try (cases hr; done)
  rename_i tf htf
  split at hr <;> try (cases hr; done)
  rename_i hsz
  have hkk := (hτ T ti hti).k
  rw [hk] at hkk
  obtain ⟨fields, hu, hfs⟩ := hkk
  have hs := (hτ t tf htf).sizeOf W
  subst hfs
  rw [List.getElem?_map] at hf
  cases hg : fields.toList[f]? with
  | none => rw [hg] at hf; cases hf
  | some g =>
    rw [hg] at hf; simp only [Option.map_some, Option.some.injEq, Prod.mk.injEq] at hf
    obtain ⟨rfl, rfl⟩ := hf
    have hg' : fields[f]? = some g := by simpa using hg
    split at hr <;> try (cases hr; done)
    · injection hr with hr; subst hr
      cases hx
      refine does_val h hd rfl (z := .pointer (some ⟨β.pb _, _ + g.offset, none⟩)) ?_ rfl (by intro q hq; exact hx2 q (by simpa [V.refs] using hq))
      simp [Instr.fieldAt, run_underlying hu, hg', Instr.sureAddr, fieldPlace, hs, hsz, Addr.add_lit]
      rfl
    · injection hr with hr; subst hr
      obtain ⟨b, q, rfl, h1, h2⟩ := hx
      refine does_val h hd rfl (z := .pointer (some ⟨b, q + (_ + g.offset), none⟩)) ?_ ⟨b, q, rfl, h1, h2⟩ (by intro q hq; simp [V.refs] at hq)
      simp [Instr.fieldAt, run_underlying hu, hg', Instr.sureAddr, fieldPlace, hs, hsz, Addr.add_lit, Nat.add_assoc]

def obV (os : Nat → Option Ob) : V → Option Ob
  | .ptr o _ => os o
  | .own o _ => os o
  | .mp o => os o
  | _ => none

def loadC (ti : TI) (c : List V) (p : Nat) : Option Res :=
  if ti.k.row then okIf (p + ti.size ≤ c.length) (.agg ((c.drop p).take ti.size)) else okIf (p < c.length) (c.getD p .any)
def loadV (τ : TT) (T : TypeId) (x : V) (ob : Option Ob) : Option Res :=
  match τ T, x, ob with
  | some ti, .ptr _ p, some (.box _ c) => loadC ti c p
  | some ti, .rp row p, _ => loadC ti row p
  | _, _, _ => none

theorem refsL_drop (l : List V) (n : Nat) : ∀ r ∈ V.refsL (l.drop n), r ∈ V.refsL l := refsL_sub (fun x hx => List.mem_of_mem_drop hx)
theorem refsL_take (l : List V) (n : Nat) : ∀ r ∈ V.refsL (l.take n), r ∈ V.refsL l := refsL_sub (fun x hx => List.mem_of_mem_take hx)

theorem loadC_ok {S : Sit} {ti : TI} {T : TypeId} (hok : TIOk P T ti) {c : List V} {p : Nat} {r : Res} (hr : loadC ti c p = some r) (hp : r.pre) {b q : Nat} {cs : List Value} (hc : RepL S c cs) (h1 : ∀ u ∈ cs, u.oneCell' = true)
    (hcell : ∀ j u, cs[j]? = some u → W.cell? ⟨b, q + j, none⟩ = some u) : r.upd = .none ∧ (∀ x ∈ r.val.refs, x ∈ V.refsL c) ∧ ∃ z, (loadVar T ⟨b, q + p, none⟩).run P W = .ok z W ∧ Rep S r.val z := by
  unfold loadC at hr
  have hag := hok.isAgg W
  have hsz := hok.sizeOf W
  have hl := RepL.length hc
  split at hr
  · rename_i hrow
    injection hr with hr; subst hr
    simp only [okIf] at hp
    refine ⟨rfl, fun x hx => refsL_drop _ _ _ (refsL_take _ _ _ hx), .agg ((cs.drop p).take ti.size).toArray, ?_, ⟨_, rfl, fun u hu => h1 u (List.mem_of_mem_drop (List.mem_of_mem_take hu)), (hc.drop p).take ti.size⟩⟩
    have hlen : ((cs.drop p).take ti.size).length = ti.size := by simp; omega
    have := run_loadCells_list (P := P) W ⟨b, q + p, none⟩ ((cs.drop p).take ti.size) (fun j u hj => by
      rw [add_at, Nat.add_assoc]
      refine hcell (p + j) u ?_
      rw [List.getElem?_take] at hj
      split at hj
      · rw [List.getElem?_drop] at hj; exact hj
      · cases hj)
    rw [hlen] at this
    simp only [loadVar, Sem.run_bind, hag, hrow, Result.andThen_ok, if_true, hsz, this, Sem.run_pure]
  · rename_i hrow
    injection hr with hr; subst hr
    simp only [okIf] at hp
    obtain ⟨u, hu, hru⟩ := RepL.get hc p hp
    have hgd : c.getD p .any = c[p] := by simp [List.getD_eq_getElem?_getD, List.getElem?_eq_getElem hp]
    refine ⟨rfl, fun x hx => ?_, u, ?_, by show Rep S (c.getD p .any) u; rw [hgd]; exact hru⟩
    · simp only [hgd] at hx; exact refsL_mem (List.getElem_mem hp) x hx
    · have h2 := hcell p u hu
      have hrow' : ti.k.row = false := by simpa using hrow
      simp only [loadVar, Sem.run_bind, hag, hrow', Result.andThen_ok, Bool.false_eq_true, if_false]
      simp [run_load, h2]

theorem loadV_ok {τ : TT} (hτ : TTOk P τ) (h : Sim F β s a W) (hd : ∀ i, d = some i → i < F.n) {T : TypeId} {x : V} {r : Res} (hr : loadV τ T x (obV s.o x) = some r) (hp : r.pre) {v : Value} (hx : Rep (sit F β s.o W) x v) :
    Does P F (Instr.loadAt T v) s a W d r := by
  unfold loadV at hr
  split at hr
  · rename_i ti o p T' c hti ho
    simp only [obV] at ho
    cases hx
    obtain ⟨_, cs, rs, h1, h2, h3⟩ := h.objs.box o T' c ho
    obtain ⟨g1, g2, z, g3, g4⟩ := loadC_ok (W := W) (b := β.pb o) (q := 0) (hτ T ti hti) hr hp h3 h2 (fun j u hj => by rw [Nat.zero_add, cell_of_row _ _ j _ _ _ h1, List.getElem?_toArray, List.getElem?_append_left (List.getElem?_eq_some_iff.1 hj).1]; exact hj)
    refine does_val h hd g1 (z := z) ?_ g4 (fun q hq => h.closed.o o T' c ho q (g2 q hq))
    rw [Nat.zero_add] at g3
    simp only [Instr.loadAt, Instr.sureAddr, Sem.run_bind, Sem.run_pure, Result.andThen_ok]; exact g3
  · rename_i ti row p hti
    obtain ⟨b, q, rfl, h1, h2⟩ := hx
    obtain ⟨cs, k1, k2, k3⟩ := h2.cells
    obtain ⟨g1, g2, z, g3, g4⟩ := loadC_ok (W := W) (b := b) (q := q) (hτ T ti hti) hr hp k1 k2 k3
    refine does_val h hd g1 (z := z) ?_ g4 (fun q hq => by have := g2 q hq; rw [h1] at this; cases this)
    rw [Nat.add_comm]
    simp only [Instr.loadAt, Instr.sureAddr, Sem.run_bind, Sem.run_pure, Result.andThen_ok]; rw [Nat.add_comm]; exact g3
  · cases hr

def spl1 {α : Type} : Nat → List α → List α → List α
  | 0, [], c => c
  | 0, x :: l, _ :: c => x :: spl1 0 l c
  | 0, _ :: _, [] => []
  | p + 1, l, y :: c => y :: spl1 p l c
  | _ + 1, _, [] => []
theorem spl1_nil {α : Type} (c : List α) : spl1 0 [] c = c := by cases c <;> rfl
theorem spl1_eq {α : Type} : ∀ (p : Nat) (l c : List α), p + l.length ≤ c.length → spl1 p l c = c.take p ++ l ++ c.drop (p + l.length)
  | 0, [], c, _ => by simp [spl1]
  | 0, x :: l, y :: c, h => by
    have := spl1_eq 0 l c (by simpa using h)
    simp only [spl1, this]; simp
  | 0, _ :: _, [], h => by simp at h
  | p + 1, l, y :: c, h => by
    have := spl1_eq p l c (by simp at h; omega)
    simp only [spl1, this]; simp [Nat.add_right_comm]
  | p + 1, l, [], h => by simp at h
theorem spl1_len {α : Type} : ∀ (p : Nat) (l c : List α), p + l.length ≤ c.length → (spl1 p l c).length = c.length := fun p l c h => by
  rw [spl1_eq p l c h]; simp; omega
theorem RepL.spl {S : Sit} : ∀ {p : Nat} {l c : List V} {vs cs : List Value}, RepL S l vs → RepL S c cs → RepL S (spl1 p l c) (spl1 p vs cs)
  | 0, [], c, vs, cs, h, k => by cases h; rw [spl1_nil, spl1_nil]; exact k
  | 0, x :: l, [], vs, cs, h, k => by obtain ⟨u, us, rfl, _⟩ := h; cases k; rfl
  | 0, x :: l, y :: c, vs, cs, h, k => by
    obtain ⟨u, us, rfl, h1, h2⟩ := h
    obtain ⟨v, ws, rfl, k1, k2⟩ := k
    exact ⟨u, _, rfl, h1, RepL.spl h2 k2⟩
  | p + 1, l, [], vs, cs, h, k => by cases k; cases l <;> cases vs <;> rfl
  | p + 1, l, y :: c, vs, cs, h, k => by
    obtain ⟨v, ws, rfl, k1, k2⟩ := k
    refine ⟨v, spl1 p vs ws, ?_, k1, RepL.spl h k2⟩
    cases vs <;> rfl
theorem spl1_mem {α : Type} {x : α} : ∀ {p : Nat} {l c : List α}, x ∈ spl1 p l c → x ∈ l ∨ x ∈ c
  | 0, [], c, h => by simp only [spl1] at h; exact .inr h
  | 0, y :: l, [], h => by simp only [spl1] at h; cases h
  | 0, y :: l, z :: c, h => by
    simp only [spl1, List.mem_cons] at h
    rcases h with rfl | h
    · exact .inl List.mem_cons_self
    · rcases spl1_mem h with h | h
      · exact .inl (List.mem_cons_of_mem _ h)
      · exact .inr (List.mem_cons_of_mem _ h)
  | p + 1, l, [], h => by cases l <;> (simp only [spl1] at h; cases h)
  | p + 1, l, z :: c, h => by
    simp only [spl1, List.mem_cons] at h
    rcases h with rfl | h
    · exact .inr List.mem_cons_self
    · rcases spl1_mem h with h | h
      · exact .inl h
      · exact .inr (List.mem_cons_of_mem _ h)

def storeV (τ : TT) (T : TypeId) (x y : V) (ob : Option Ob) : Option Res :=
  match τ T, x, ob, y.cells? with
  | some ti, .ptr o p, some (.box T' c), some l => if l.length = ti.size then some ⟨p + l.length ≤ c.length, .any, .set o (.box T' (spl1 p l c))⟩ else none
  | _, _, _, _ => none
theorem storeV_ok {τ : TT} (hτ : TTOk P τ) (h : Sim F β s a W) {T : TypeId} {x y : V} {r : Res} (hr : storeV τ T x y (obV s.o x) = some r) (hp : r.pre) {v u : Value} (hx : Rep (sit F β s.o W) x v) (hy : Rep (sit F β s.o W) y u) (hy2 : ∀ r ∈ y.refs, RefOk s.o r)
    (hd : ∀ i, d = some i → i < F.n) : ∃ W' β', (Instr.storeAt T v u).run P W = .ok () W' ∧ Sim F β' (s.app d r) (a.put d undef) W' := by
  unfold storeV at hr
  split at hr <;> try (cases hr; done)
  rename_i ti o p T' c l hti hl ho
  split at hr <;> try (cases hr; done)
  rename_i hlen
  injection hr with hr; subst hr
  have hp : p + l.length ≤ c.length := hp
  have ho : s.o o = some (.box T' c) := ho
  cases hx
  obtain ⟨hb, cs, rs, h1, h2, h3⟩ := h.objs.box o T' c ho
  obtain ⟨g1, g2⟩ := cells_rep hl hy
  have hl1 := RepL.length g1
  have hl2 := RepL.length h3
  have hst := run_storeCells_at P (β.pb o) p T' u.cells.toList 0 (cs ++ rs).toArray W h1 (by simp at hl1 ⊢; omega) g2
  simp only [Nat.add_zero] at hst
  have hcs : ((cs ++ rs).toArray.toList.take p ++ u.cells.toList ++ (cs ++ rs).toArray.toList.drop (p + u.cells.toList.length)) = spl1 p u.cells.toList cs ++ rs := by
    simp only [List.toList_toArray]
    rw [List.take_append_of_le_length (by omega), List.drop_append_of_le_length (by omega), spl1_eq _ _ _ (by omega)]
    simp only [List.append_assoc]
  rw [hcs] at hst
  have hwr : (W.setRow (β.pb o) (spl1 p u.cells.toList cs ++ rs).toArray).heap[β.pb o]? = some (.cells (spl1 p u.cells.toList cs ++ rs).toArray T' (0, 0)) := setRow_heap W _ _ _ _ _ h1
  have h4 := h.setBox (c' := spl1 p l c) ho (chg_setRow [β.pb o] W (β.pb o) _ (.inl List.mem_cons_self)) hwr
    (fun w hw => by rcases spl1_mem hw with hw | hw; exact g2 w hw; exact h2 w hw) (RepL.spl g1 h3) (fun q hq => by
      have : ∀ x ∈ spl1 p l c, x ∈ l ++ c := fun x hx => by rcases spl1_mem hx with hx | hx; exact List.mem_append_left _ hx; exact List.mem_append_right _ hx
      have := refsL_sub this q hq
      rw [refsL_append] at this
      rcases List.mem_append.1 this with k | k
      · rw [cells_refs hl] at k; exact hy2 q k
      · exact h.closed.o o T' c ho q k)
  have h5 := h4.put d hd (x := .any) (v := undef) (by simp [V.refs]) trivial
  refine ⟨_, β, ?_, by rw [app_set]; exact h5⟩
  have hsz := (hτ T ti hti).sizeOf W
  have hcz : u.cells.size = ti.size := by rw [← hlen, ← hl1]; simp
  simp only [Instr.storeAt, Instr.sureAddr, storeVar, Sem.run_bind, Sem.run_pure, Result.andThen_ok, hsz]
  rw [if_neg (by rw [hcz]; simp)]
  exact hst
end
end Go.Proofs.YtedbbinlcdgkoaaGreatDoor
