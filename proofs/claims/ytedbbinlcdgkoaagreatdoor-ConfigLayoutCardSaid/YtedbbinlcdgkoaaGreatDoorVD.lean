import Derived.Test.YtedbbinlcdgkoaaGreatDoorVC
/- The value machine: types, and the operations that only compute. No program in sight. -/
namespace Go.Proofs.YtedbbinlcdgkoaaGreatDoor
open Go.RowKit
set_option linter.unusedVariables false
set_option linter.unusedSimpArgs false

inductive TK where
  | cell
  | iface
  | int (k : IntKind)
  | str
  | bool
  /-- places and types of the fields -/
  | struct (fs : List (Nat × TypeId))
  | arr (len : Nat) (e : TypeId)
  | slc (e : TypeId)
  | map (k e : TypeId)

structure TI where
  k : TK
  size : Nat
  bytes : Nat
  zero : List Value
  /-- a struct of numbers and strings, to be compared -/
  cmp : Bool := false

def TK.row : TK → Bool
  | .struct _ | .arr _ _ => true
  | _ => false

def TKOk (P : Program) (t : TypeId) : TK → Prop
  | .cell => ∃ d, P.underlying t = some d ∧ d.isRow = false
  | .iface => ∃ ms, P.underlying t = some (.interface ms)
  | .int k => P.underlying t = some (.int k)
  | .str => P.underlying t = some .string
  | .bool => P.underlying t = some .bool
  | .struct fs => ∃ fields, P.underlying t = some (.struct fields) ∧ (fields.toList.map fun f => (f.offset, f.type)) = fs
  | .arr n e => P.underlying t = some (.array n e)
  | .slc e => P.underlying t = some (.slice e)
  | .map k e => P.underlying t = some (.map k e)
structure TIOk (P : Program) (t : TypeId) (ti : TI) : Prop where
  k : TKOk P t ti.k
  info : ∃ i z, P.info? t = some i ∧ i.size = ti.size ∧ i.bytes = ti.bytes ∧ i.zero = some z ∧ z.cells.toList = ti.zero
  zlen : ti.zero.length = ti.size
  zone : ∀ c ∈ ti.zero, c.oneCell' = true
  zcell : ti.k.row = false → ∀ i z, P.info? t = some i → i.zero = some z → z.oneCell' = true
  zagg : ti.k.row = true → ∀ i z, P.info? t = some i → i.zero = some z → ∃ cs, z = .agg cs
  cmp : ti.cmp = true → P.stoodInHeld t = false ∧ P.eqGuardType P.depth t = false ∧ ∀ fields, P.underlying t = some (.struct fields) → ∀ f ∈ fields.toList, f.name ≠ "_"
abbrev TT := TypeId → Option TI
def TTOk (P : Program) (τ : TT) : Prop := ∀ t ti, τ t = some ti → TIOk P t ti

theorem TIOk.isAgg {P : Program} {t : TypeId} {ti : TI} (h : TIOk P t ti) (w : World) : (isAgg t).run P w = .ok ti.k.row w := by
  have hk := h.k
  unfold TKOk at hk
  unfold Go.isAgg
  split at hk
  · obtain ⟨d, h1, h2⟩ := hk
    simp only [Sem.run_bind, run_underlying h1, Result.andThen_ok]
    rename_i e; rw [e]
    cases d <;> first | rfl | (simp [TypeDesc.isRow] at h2)
  · obtain ⟨ms, h1⟩ := hk
    rename_i e; rw [e]; simp only [Sem.run_bind, run_underlying h1, Result.andThen_ok]; rfl
  · rename_i e; rw [e]; simp only [Sem.run_bind, run_underlying hk, Result.andThen_ok]; rfl
  · rename_i e; rw [e]; simp only [Sem.run_bind, run_underlying hk, Result.andThen_ok]; rfl
  · rename_i e; rw [e]; simp only [Sem.run_bind, run_underlying hk, Result.andThen_ok]; rfl
  · obtain ⟨d, h1, h2⟩ := hk
    rename_i e; rw [e]; simp only [Sem.run_bind, run_underlying h1, Result.andThen_ok]; rfl
  · rename_i e; rw [e]; simp only [Sem.run_bind, run_underlying hk, Result.andThen_ok]; rfl
  · rename_i e; rw [e]; simp only [Sem.run_bind, run_underlying hk, Result.andThen_ok]; rfl
  · rename_i e; rw [e]; simp only [Sem.run_bind, run_underlying hk, Result.andThen_ok]; rfl
theorem TIOk.sizeOf {P : Program} {t : TypeId} {ti : TI} (h : TIOk P t ti) (w : World) : (sizeOf t).run P w = .ok ti.size w := by
  obtain ⟨i, z, h1, h2, _⟩ := h.info
  simp [Go.sizeOf, typeInfo, h1, h2]
theorem TIOk.zeroValue {P : Program} {t : TypeId} {ti : TI} (h : TIOk P t ti) (w : World) : ∃ z, (zeroValue t).run P w = .ok z w ∧ z.cells.toList = ti.zero := by
  obtain ⟨i, z, h1, h2, h3, h4, h5⟩ := h.info
  exact ⟨z, by simp [Go.zeroValue, typeInfo, h1, h4], h5⟩

inductive Upd where
  | none
  | new (x : Ob)
  | set (o : Nat) (x : Ob)
  | put (l : List (Nat × Ob))
structure Res where
  pre : Prop
  val : V
  upd : Upd

def heatR (r : Res) : Res := match r.val, r.upd with
  | .own o n, .new (.arr _ E rows) => ⟨r.pre ∧ rows ≠ [], .hs o n, .new (.box E rows.flatten)⟩
  | _, _ => r
def heatB (hot : Bool) (r : Res) : Res := match hot with
  | false => r
  | true => heatR r
theorem heatB_ff (r : Res) : heatB false r = r := rfl
theorem heatB_new (p : Prop) (o n k : Nat) (E : TypeId) (rows : List (List V)) : heatB true ⟨p, .own o n, .new (.arr k E rows)⟩ = ⟨p ∧ rows ≠ [], .hs o n, .new (.box E rows.flatten)⟩ := rfl
theorem heatB_set (p : Prop) (o n o' : Nat) (X : Ob) : heatB true ⟨p, .own o n, .set o' X⟩ = ⟨p, .own o n, .set o' X⟩ := rfl
theorem heat_pre {hot : Bool} {r : Res} (h : (heatB hot r).pre) : r.pre := by
  cases hot with
  | false => exact h
  | true =>
    unfold heatB heatR at h
    simp only at h
    split at h
    · exact h.1
    · exact h
theorem heat_new {hot : Bool} {r : Res} (h : ∃ X, r.upd = .new X) : ∃ X, (heatB hot r).upd = .new X := by
  cases hot with
  | false => exact h
  | true =>
    show ∃ X, (heatR r).upd = .new X
    unfold heatR
    split
    · exact ⟨_, rfl⟩
    · exact h

def ok (v : V) : Option Res := some ⟨True, v, .none⟩
def okIf (p : Prop) (v : V) : Option Res := some ⟨p, v, .none⟩

def eqC : V → V → Option Bool
  | .int k a, .int k' b => if k = k' then some (decide (a = b)) else none
  | .str a, .str b => some (decide (a = b))
  | .bool a, .bool b => some (a == b)
  | _, _ => none
def eqL : List V → List V → Option Bool
  | [], [] => some true
  | x :: xs, y :: ys => match eqC x y, eqL xs ys with
    | some a, some b => some (a && b)
    | _, _ => none
  | _, _ => none

def plainFields (τ : TT) : Nat → List (Nat × TypeId) → List V → List V → Bool
  | _, [], [], [] => true
  | i, (off, t) :: fs, x :: xs, y :: ys => off == i && (match τ t with
      | some ti => (match ti.k, x, y with
        | .int _, .int _ _, .int _ _ => true
        | .str, .str _, .str _ => true
        | .bool, .bool _, .bool _ => true
        | _, _, _ => false)
      | none => false) && plainFields τ (i + 1) fs xs ys
  | _, _, _, _ => false

def binV (τ : TT) (op : BinOp) (t : TypeId) (x y : V) : Option Res :=
  match x, y with
  | .int k a, .int k' b =>
    match op with
    | .shl => okIf (0 ≤ b) (.int k (k.wrap (a * 2 ^ min b.toNat k.bits)))
    | .shr => okIf (0 ≤ b) (.int k (a.fdiv (2 ^ min b.toNat k.bits)))
    | op => if k = k' then
      (match op with
      | .add => ok (.int k (k.wrap (a + b)))
      | .sub => ok (.int k (k.wrap (a - b)))
      | .mul => ok (.int k (k.wrap (a * b)))
      | .quo => okIf (b ≠ 0) (.int k (k.wrap (a.tdiv b)))
      | .rem => okIf (b ≠ 0) (.int k (a.tmod b))
      | .eql => ok (.bool (decide (a = b)))
      | .neq => ok (.bool (!decide (a = b)))
      | .lss => ok (.bool (decide (a < b)))
      | .leq => ok (.bool (decide (a ≤ b)))
      | .gtr => ok (.bool (decide (b < a)))
      | .geq => ok (.bool (decide (b ≤ a)))
      | .and => ok (.int k (k.wrap ((BitVec.ofInt k.bits a &&& BitVec.ofInt k.bits b).toNat : Int)))
      | .or => ok (.int k (k.wrap ((BitVec.ofInt k.bits a ||| BitVec.ofInt k.bits b).toNat : Int)))
      | .xor => ok (.int k (k.wrap ((BitVec.ofInt k.bits a ^^^ BitVec.ofInt k.bits b).toNat : Int)))
      | _ => none) else none
  | .str a, .str b =>
    match op with
    | .add => okIf (a.length + b.length ≤ 9223372036854775807) (.str (a ++ b))
    | .eql => ok (.bool (decide (a = b)))
    | .neq => ok (.bool (!decide (a = b)))
    | .lss => ok (.bool (Op.bytesLess a b))
    | .leq => ok (.bool (Op.bytesLess a b || decide (a = b)))
    | .gtr => ok (.bool (!(Op.bytesLess a b || decide (a = b))))
    | .geq => ok (.bool (!Op.bytesLess a b))
    | _ => none
  | .bool a, .bool b =>
    match τ t with
    | some ti => (match ti.k, op with
      | .bool, .eql => ok (.bool (a == b))
      | .bool, .neq => ok (.bool (!(a == b)))
      | _, _ => none)
    | none => none
  | .agg l, .agg m =>
    match τ t with
    | some ti => if ti.cmp then (match ti.k with
      | .struct fs => if plainFields τ 0 fs l m then (match op, eqL l m with
        | .eql, some b => ok (.bool b)
        | .neq, some b => ok (.bool (!b))
        | _, _ => none) else none
      | _ => none) else none
    | none => none
  | _, _ => none

def Yld (P : Program) (S : Sit) (m : Sem Value) (w : World) (r : Res) : Prop := ∃ z, m.run P w = .ok z w ∧ Rep S r.val z ∧ r.val.refs = [] ∧ r.upd = .none

theorem vb_eq (l : List UInt8) : (⟨l.toArray⟩ : ByteArray).toList = l := by rw [ByteArray.toList_eq]
theorem vb_size (l : List UInt8) : (⟨l.toArray⟩ : ByteArray).size = l.length := by show l.toArray.size = _; simp
theorem vb_app (a b : List UInt8) : (⟨a.toArray⟩ : ByteArray) ++ ⟨b.toArray⟩ = ⟨(a ++ b).toArray⟩ := by
  apply ByteArray.ext; simp [ByteArray.data_append]
theorem beq_list (a b : List UInt8) : (a == b) = decide (a = b) := by
  by_cases h : a = b
  · subst h; simp
  · simp [h]

section
variable {P : Program} {S : Sit} (w : World)

theorem run_eqFields (τ : TT) (hτ : TTOk P τ) (d : Nat) : ∀ (fs : List Field) (l m : List V) (pre pre' cs ds : List Value) (b : Bool), (∀ f ∈ fs, f.name ≠ "_") → pre.length = pre'.length →
    plainFields τ pre.length (fs.map fun f => (f.offset, f.type)) l m = true → RepL S l cs → RepL S m ds → eqL l m = some b →
    (Op.eqFields (d + 1) (pre ++ cs).toArray (pre' ++ ds).toArray fs).run P w = .ok b w
  | [], l, m, pre, pre', cs, ds, b, _, _, hp, hl, hm, hb => by
    cases l with
    | cons _ _ => simp [plainFields] at hp
    | nil =>
      cases m with
      | cons _ _ => simp [plainFields] at hp
      | nil => simp only [eqL, Option.some.injEq] at hb; subst hb; rfl
  | f :: fs, l, m, pre, pre', cs, ds, b, hn, hlen, hp, hl, hm, hb => by
    cases l with
    | nil => simp [plainFields] at hp
    | cons x xs =>
      cases m with
      | nil => simp [plainFields] at hp
      | cons y ys =>
        simp only [List.map_cons, plainFields, Bool.and_eq_true, beq_iff_eq] at hp
        obtain ⟨⟨hoff, hk⟩, hp⟩ := hp
        obtain ⟨u, us, rfl, h1, h2⟩ := hl
        obtain ⟨v, vs, rfl, h3, h4⟩ := hm
        simp only [eqL] at hb
        split at hb
        · rename_i ca cb e1 e2
          injection hb with hb; subst hb
          have ih := fun (w : World) => run_eqFields τ hτ d fs xs ys (pre ++ [u]) (pre' ++ [v]) us vs cb (fun g hg => hn g (List.mem_cons_of_mem _ hg)) (by simp [hlen]) (by simpa using hp) h2 h4 e2
          simp only [List.append_assoc, List.singleton_append] at ih
          have hnf := hn f List.mem_cons_self
          cases hti : τ f.type with
          | none => rw [hti] at hk; simp at hk
          | some ti =>
            rw [hti] at hk
            have hok := hτ f.type ti hti
            have hkk := hok.k
            have hag : (isAgg f.type).run P w = .ok false w := by
              rw [hok.isAgg w]
              cases hk' : ti.k <;> simp only [hk'] at hk <;> first | rfl | (cases x <;> cases y <;> simp at hk)
            have g1 : (pre ++ u :: us).toArray[f.offset]? = some u := by rw [hoff]; simp
            have g2 : (pre' ++ v :: vs).toArray[f.offset]? = some v := by rw [hoff, hlen]; simp
            have p1 : (part f.type (pre ++ u :: us).toArray f.offset).run P w = .ok u w := by
              simp only [part, Sem.run_bind, hag, Result.andThen_ok, Bool.false_eq_true, if_false, g1, Sem.run_pure]
            have p2 : (part f.type (pre' ++ v :: vs).toArray f.offset).run P w = .ok v w := by
              simp only [part, Sem.run_bind, hag, Result.andThen_ok, Bool.false_eq_true, if_false, g2, Sem.run_pure]
            have heq : (Op.equalIn (d + 1) f.type u v).run P w = .ok ca w := by
              cases hk' : ti.k with
              | int k0 =>
                simp only [hk'] at hk hkk
                cases x <;> try simp only [Bool.false_eq_true] at hk
                cases y <;> try simp only [Bool.false_eq_true] at hk
                rename_i k1 n1 k2 n2
                simp only [eqC] at e1
                split at e1
                · rename_i e; subst e
                  injection e1 with e1; subst e1
                  cases h1; cases h3
                  rw [run_equalIn_int w d f.type k1 k0 n1 n2 hkk]
                  congr 1
                · cases e1
              | str =>
                simp only [hk'] at hk hkk
                cases x <;> try simp only [Bool.false_eq_true] at hk
                cases y <;> try simp only [Bool.false_eq_true] at hk
                simp only [eqC, Option.some.injEq] at e1; subst e1
                cases h1; cases h3
                rw [run_equalIn_string w d f.type _ _ hkk, vb_eq, vb_eq, beq_list]
              | bool =>
                simp only [hk'] at hk hkk
                cases x <;> try simp only [Bool.false_eq_true] at hk
                cases y <;> try simp only [Bool.false_eq_true] at hk
                simp only [eqC, Option.some.injEq] at e1; subst e1
                cases h1; cases h3
                rw [run_equalIn_bool' w d f.type _ _ hkk]
              | _ => simp only [hk'] at hk; cases x <;> cases y <;> simp at hk
            simp only [Op.eqFields, hnf, ne_eq, not_false_eq_true, if_true, Sem.run_bind, p1, p2, Result.andThen_ok, heq, Sem.run_ite]
            cases ca with
            | false => simp
            | true => simp [ih w]
        · cases hb

theorem binV_ok (τ : TT) (hτ : TTOk P τ) {op : BinOp} {t : TypeId} {x y : V} {r : Res} (h : binV τ op t x y = some r) (hp : r.pre) (ox oy : Operand) {u v : Value} (hx : Rep S x u) (hy : Rep S y v) :
    Yld P S (do eqGuard op t ox oy u v; binOp op t u v) w r := by
  unfold binV at h
  split at h
  · -- numbers
    rename_i k a k' b
    cases hx; cases hy
    have hg : ∀ op, (eqGuard op t ox oy (.int k a) (.int k' b)).run P w = .ok () w := fun op => by cases op <;> rfl
    split at h
    · injection h with h; subst h
      simp only [okIf] at hp
      refine ⟨_, ?_, rfl, rfl, rfl⟩
      simp only [Sem.run_bind, hg, Result.andThen_ok, binOp, Op.shift]
      rw [if_neg (by omega)]; rfl
    · injection h with h; subst h
      simp only [okIf] at hp
      refine ⟨_, ?_, rfl, rfl, rfl⟩
      simp only [Sem.run_bind, hg, Result.andThen_ok, binOp, Op.shift]
      rw [if_neg (by omega)]; rfl
    · split at h
      · rename_i e; subst e
        split at h
        all_goals first
          | (injection h with h; subst h; refine ⟨_, ?_, rfl, rfl, rfl⟩; simp only [Sem.run_bind, hg, Result.andThen_ok, binOp, ne_eq, not_true_eq_false, if_false, Op.intArith, Op.intCmp, Op.intBits]; rfl)
          | (injection h with h; subst h; simp only [okIf] at hp; refine ⟨_, ?_, rfl, rfl, rfl⟩; simp only [Sem.run_bind, hg, Result.andThen_ok, binOp, ne_eq, not_true_eq_false, if_false, Op.intDiv, hp]; rfl)
          | cases h
      · cases h
  · -- strings
    rename_i a b
    cases hx; cases hy
    have hg : ∀ op, (eqGuard op t ox oy (.string ⟨a.toArray⟩) (.string ⟨b.toArray⟩)).run P w = .ok () w := fun op => by cases op <;> rfl
    split at h
    · injection h with h; subst h
      simp only [okIf] at hp
      refine ⟨_, ?_, rfl, rfl, rfl⟩
      simp only [Sem.run_bind, hg, Result.andThen_ok, binOp, Op.stringOp, vb_size]
      have hmax : (IntKind.i64.max : Int) = 9223372036854775807 := by decide
      rw [if_neg (by rw [hmax]; omega), vb_app]; rfl
    all_goals first
      | (injection h with h; subst h; refine ⟨_, ?_, rfl, rfl, rfl⟩; simp only [Sem.run_bind, hg, Result.andThen_ok, binOp, Op.stringOp, vb_eq, beq_list]; rfl)
      | cases h
  · -- truth values
    rename_i a b
    cases hx; cases hy
    have hg : ∀ op, (eqGuard op t ox oy (.bool a) (.bool b)).run P w = .ok () w := fun op => by cases op <;> rfl
    split at h
    · rename_i ti hti
      have hk := (hτ t ti hti).k
      split at h
      · rename_i e; rw [e] at hk
        injection h with h; subst h; refine ⟨_, ?_, rfl, rfl, rfl⟩
        simp only [Sem.run_bind, hg, Result.andThen_ok, binOp, Op.equal, Op.maxDepth, run_equalIn_bool' w 9999 t a b hk]; rfl
      · rename_i e; rw [e] at hk
        injection h with h; subst h; refine ⟨_, ?_, rfl, rfl, rfl⟩
        simp only [Sem.run_bind, hg, Result.andThen_ok, binOp, Op.equal, Op.maxDepth, run_equalIn_bool' w 9999 t a b hk]; rfl
      · cases h
    · cases h
  · -- structs
    rename_i l m
    obtain ⟨cs, rfl, _, hl⟩ := hx
    obtain ⟨ds, rfl, _, hm⟩ := hy
    split at h
    · rename_i ti hti
      have hok := hτ t ti hti
      split at h
      · rename_i hc
        obtain ⟨c1, c2, c3⟩ := hok.cmp hc
        split at h
        · rename_i fs hk
          have hkk := hok.k
          rw [hk] at hkk
          obtain ⟨fields, hu, hf⟩ := hkk
          have hfo : P.fieldsOf t = fields := by unfold Program.fieldsOf; rw [hu]
          split at h
          · rename_i hpl
            have hg := run_eqGuard_agg (P := P) w op t ox oy cs.toArray ds.toArray c2
            have run : ∀ b, eqL l m = some b → (Op.equalIn 10000 t (.agg cs.toArray) (.agg ds.toArray)).run P w = .ok b w := fun b hb => by
              rw [run_equalIn_agg w 9999 t _ _ (by rw [hfo]; exact hu) c1, hfo]
              exact run_eqFields w τ hτ 9998 fields.toList l m [] [] cs ds b (c3 fields hu) rfl (by rw [hf]; exact hpl) hl hm hb
            split at h
            · rename_i b hb
              injection h with h; subst h; refine ⟨_, ?_, rfl, rfl, rfl⟩
              simp only [Sem.run_bind, hg, Result.andThen_ok, run_eql_struct, run b hb]
            · rename_i b hb
              injection h with h; subst h; refine ⟨_, ?_, rfl, rfl, rfl⟩
              simp only [Sem.run_bind, hg, Result.andThen_ok, run_neq_struct, run b hb]
            · cases h
          · cases h
        · cases h
      · cases h
    · cases h
  · cases h

def nilV (τ : TT) (op : BinOp) (t : TypeId) (v : V) (y : Operand) : Option Res := match v with
  | .raw .nilIface => (match y with
    | .const .nilIface => (match τ t with
      | some ti => (match ti.k, op with
        | .iface, .eql => ok (.bool true)
        | .iface, .neq => ok (.bool false)
        | _, _ => none)
      | none => none)
    | _ => none)
  | .sl _ rows => (match y with
    | .const (.slice none 0 0) => (match τ t with
      | some ti => (match ti.k, op with
        | .slc _, .eql => okIf (rows ≠ []) (.bool false)
        | .slc _, .neq => okIf (rows ≠ []) (.bool true)
        | _, _ => none)
      | none => none)
    | _ => none)
  | _ => none
def binX (τ : TT) (op : BinOp) (t : TypeId) (v : V) (y : Operand) (u : V) : Option Res := match nilV τ op t v y with
  | some r => some r
  | none => binV τ op t v u
theorem binX_int (τ : TT) (op : BinOp) (t : TypeId) (k : IntKind) (n : Int) (y : Operand) (u : V) : binX τ op t (.int k n) y u = binV τ op t (.int k n) u := rfl
theorem binX_str (τ : TT) (op : BinOp) (t : TypeId) (l : List UInt8) (y : Operand) (u : V) : binX τ op t (.str l) y u = binV τ op t (.str l) u := rfl
theorem binX_bool (τ : TT) (op : BinOp) (t : TypeId) (b : Bool) (y : Operand) (u : V) : binX τ op t (.bool b) y u = binV τ op t (.bool b) u := rfl
theorem binX_agg (τ : TT) (op : BinOp) (t : TypeId) (l : List V) (y : Operand) (u : V) : binX τ op t (.agg l) y u = binV τ op t (.agg l) u := rfl
theorem binX_nil (τ : TT) (op : BinOp) (t : TypeId) (u : V) : binX τ op t (.raw .nilIface) (.const .nilIface) u = (match τ t with
      | some ti => (match ti.k, op with
        | .iface, .eql => ok (.bool true)
        | .iface, .neq => ok (.bool false)
        | _, _ => none)
      | none => none) := by
  unfold binX nilV
  simp only
  cases τ t with
  | none => rfl
  | some ti =>
    obtain ⟨k, _, _, _, _⟩ := ti
    cases k <;> cases op <;> rfl
theorem binX_sl (τ : TT) (op : BinOp) (t : TypeId) (k : Nat) (rows : List (List V)) (u : V) : binX τ op t (.sl k rows) (.const (.slice none 0 0)) u = (match τ t with
      | some ti => (match ti.k, op with
        | .slc _, .eql => okIf (rows ≠ []) (.bool false)
        | .slc _, .neq => okIf (rows ≠ []) (.bool true)
        | _, _ => none)
      | none => none) := by
  unfold binX nilV
  simp only
  cases τ t with
  | none => rfl
  | some ti =>
    obtain ⟨k, _, _, _, _⟩ := ti
    cases k <;> cases op <;> rfl
theorem run_equal_sl {P : Program} {t e : TypeId} (hu : P.underlying t = some (.slice e)) (x : Addr) (n c : Nat) (w : World) : (Op.equal t (.slice (some x) n c) (.slice none 0 0)).run P w = .ok false w := by
  show (Op.equalIn (9999 + 1) t (.slice (some x) n c) (.slice none 0 0)).run P w = _
  rw [Op.equalIn]
  simp only [Sem.run_bind, run_underlying hu, Result.andThen_ok, Sem.run_pure]
theorem run_guard_sl {P : Program} (op : BinOp) (t : TypeId) (ox oy : Operand) (a : Option Addr) (n c : Nat) (v : Value) (w : World) : (eqGuard op t ox oy (.slice a n c) v).run P w = .ok () w := by
  cases op <;> rfl
theorem run_equal_nil {P : Program} {t : TypeId} {ms} (hu : P.underlying t = some (.interface ms)) (w : World) : (Op.equal t .nilIface .nilIface).run P w = .ok true w := by
  show (Op.equalIn (9999 + 1) t .nilIface .nilIface).run P w = _
  rw [Op.equalIn]
  simp only [Sem.run_bind, run_underlying hu, Result.andThen_ok, Sem.run_pure]
theorem run_guard_nil {P : Program} (op : BinOp) (t : TypeId) (ox : Operand) (w : World) : (eqGuard op t ox (.const .nilIface) .nilIface .nilIface).run P w = .ok () w := by
  cases op <;> cases ox <;> rfl
theorem binX_ok (τ : TT) (hτ : TTOk P τ) {op : BinOp} {t : TypeId} {x : V} {r : Res} {a : Act} {ox oy : Operand} {y : V} (h : binX τ op t x oy y = some r) (hp : r.pre) {u : Value} (hx : Rep S x u) (hy : Rep S y (a.eval oy)) :
    Yld P S (do eqGuard op t ox oy u (a.eval oy); binOp op t u (a.eval oy)) w r := by
  unfold binX at h
  split at h
  · rename_i r' hn
    injection h with h; subst h
    unfold nilV at hn
    split at hn <;> try (cases hn; done)
    rotate_left
    · rename_i kk rows
      split at hn <;> try (cases hn; done)
      split at hn <;> try (cases hn; done)
      rename_i ti hti
      have hkk := (hτ t ti hti).k
      obtain ⟨ad, cap, rfl, c1, c2, c3, _⟩ := hx
      split at hn <;> try (cases hn; done)
      all_goals
        rename_i e hk
        rw [hk] at hkk
        have hu : P.underlying t = some (.slice e) := hkk
        injection hn with hn; subst hn
        have hne : rows ≠ [] := hp
        cases ad with
        | none => exact absurd (c3 rfl) hne
        | some x =>
          refine ⟨_, ?_, rfl, rfl, rfl⟩
          first
            | (show (do eqGuard .eql t ox (.const (.slice none 0 0)) (.slice (some x) rows.length cap) (.slice none 0 0); pure (Value.bool (← Op.equal t (.slice (some x) rows.length cap) (.slice none 0 0)))).run P w = _; simp only [Sem.run_bind, run_guard_sl, Result.andThen_ok, run_equal_sl hu, Sem.run_pure])
            | (show (do eqGuard .neq t ox (.const (.slice none 0 0)) (.slice (some x) rows.length cap) (.slice none 0 0); pure (Value.bool (!(← Op.equal t (.slice (some x) rows.length cap) (.slice none 0 0))))).run P w = _; simp only [Sem.run_bind, run_guard_sl, Result.andThen_ok, run_equal_sl hu, Sem.run_pure]; rfl)
    split at hn <;> try (cases hn; done)
    split at hn <;> try (cases hn; done)
    rename_i ti hti
    have hkk := (hτ t ti hti).k
    cases hx
    split at hn <;> try (cases hn; done)
    all_goals
      rename_i hk
      rw [hk] at hkk
      obtain ⟨ms, hu⟩ := hkk
      injection hn with hn; subst hn
      refine ⟨_, ?_, rfl, rfl, rfl⟩
      first
        | (show (do eqGuard .eql t ox (.const .nilIface) .nilIface .nilIface; pure (Value.bool (← Op.equal t .nilIface .nilIface))).run P w = _; simp only [Sem.run_bind, run_guard_nil, Result.andThen_ok, run_equal_nil hu, Sem.run_pure])
        | (show (do eqGuard .neq t ox (.const .nilIface) .nilIface .nilIface; pure (Value.bool (!(← Op.equal t .nilIface .nilIface)))).run P w = _; simp only [Sem.run_bind, run_guard_nil, Result.andThen_ok, run_equal_nil hu, Sem.run_pure]; rfl)
  · exact binV_ok w τ hτ h hp ox oy hx hy
def unV (op : UnOp) (x : V) : Option Res :=
  match op, x with
  | .not, .bool b => ok (.bool (!b))
  | .neg, .int k n => ok (.int k (k.wrap (0 - n)))
  | _, _ => none
theorem unV_ok {op : UnOp} {x : V} {r : Res} (h : unV op x = some r) {u : Value} (hx : Rep S x u) : Yld P S (Op.unary op u) w r := by
  unfold unV at h
  split at h
  · injection h with h; subst h; cases hx; exact ⟨_, rfl, rfl, rfl, rfl⟩
  · injection h with h; subst h; cases hx; exact ⟨_, rfl, rfl, rfl, rfl⟩
  · cases h

def convV (τ : TT) (dst : TypeId) (x : V) : Option Res :=
  match τ dst, x with
  | some ti, .int _ n => (match ti.k with | .int k => ok (.int k (k.wrap n)) | _ => none)
  | some ti, .str l => (match ti.k with | .str => ok (.str l) | _ => none)
  | _, _ => none
theorem convV_ok (τ : TT) (hτ : TTOk P τ) {src dst : TypeId} {d : TypeDesc} (hs : P.underlying src = some d) {x : V} {r : Res} (h : convV τ dst x = some r) {u : Value} (hx : Rep S x u) : Yld P S (convert src dst u) w r := by
  unfold convV at h
  split at h
  · rename_i ti k n hti
    split at h
    · rename_i k' hk
      have hkk := (hτ dst ti hti).k
      rw [hk] at hkk
      injection h with h; subst h; cases hx
      refine ⟨_, ?_, rfl, rfl, rfl⟩
      simp only [convert, Sem.run_bind, run_underlying hs, run_underlying hkk, Result.andThen_ok]
      cases d <;> rfl
    · cases h
  · rename_i ti l hti
    split at h
    · rename_i hk
      have hkk := (hτ dst ti hti).k
      rw [hk] at hkk
      injection h with h; subst h; cases hx
      refine ⟨_, ?_, rfl, rfl, rfl⟩
      simp only [convert, Sem.run_bind, run_underlying hs, run_underlying hkk, Result.andThen_ok]
      cases d <;> rfl
    · cases h
  · cases h
end
end Go.Proofs.YtedbbinlcdgkoaaGreatDoor
