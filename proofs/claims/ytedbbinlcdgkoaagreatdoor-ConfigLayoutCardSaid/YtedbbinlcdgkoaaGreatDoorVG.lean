import Derived.Test.YtedbbinlcdgkoaaGreatDoorVF
/- The value machine: slices cut, literals, append, bytes and strings. No program in sight. -/
namespace Go.Proofs.YtedbbinlcdgkoaaGreatDoor
open Go.RowKit
set_option linter.unusedVariables false
set_option linter.unusedSimpArgs false

section
variable {P : Program} {F : Env} {β : Bet} {s : St} {a : Act} {W : World} {d : Option Nat}

def bnd (ρ : Operand → V) (x : Option Operand) (dflt : Int) : Option Int :=
  match x with
  | none => some dflt
  | some y => match ρ y with | .int _ n => some n | _ => none

def sliceV (τ : TT) (T : TypeId) (x : V) (lo hi mx : Option Operand) (ρ : Operand → V) (vw : Option V) : Option Res :=
  match τ T, mx with
  | some ti, none =>
    (match ti.k, x with
    | .str, .str l => (match bnd ρ lo 0, bnd ρ hi (l.length : Int) with
      | some p, some q => okIf (0 ≤ p ∧ p ≤ q ∧ q ≤ l.length) (.str ((l.take q.toNat).drop p.toNat))
      | _, _ => none)
    | .slc e, _ => (match τ e, vw with
      | some te, some (.sl k rows) => if te.size = k then (match bnd ρ lo 0, bnd ρ hi (rows.length : Int) with
        | some p, some q => okIf (0 ≤ p ∧ p ≤ q ∧ q ≤ rows.length) (.sl k ((rows.take q.toNat).drop p.toNat))
        | _, _ => none) else none
      | some te, some .nil => (match bnd ρ lo 0, bnd ρ hi 0 with
        | some p, some q => okIf (p = 0 ∧ q = 0) .nil
        | _, _ => none)
      | _, _ => none)
    | _, _ => none)
  | _, _ => none

theorem ext_list (l : List UInt8) (p q : Nat) : (⟨l.toArray⟩ : ByteArray).extract p q = ⟨((l.take q).drop p).toArray⟩ := by
  apply ByteArray.ext
  rw [ByteArray.data_extract]
  apply Array.ext'
  simp [List.extract_eq_take_drop, List.drop_take]

theorem sliceBound_ok {k : IntKind} {n : Int} {y : Nat} {code : BoundsCode} (h0 : 0 ≤ n) (h1 : n ≤ (y : Int)) : (Instr.sliceBound (.int k n) y code).run P W = .ok n.toNat W := by
  simp only [Instr.sliceBound, asIntOf, Sem.run_bind, Sem.run_pure, Result.andThen_ok]
  rw [if_pos ⟨h0, h1⟩]; rfl
theorem bnd_some {ρ : Operand → V} {S : Sit} (hρ : ∀ x, Rep S (ρ x) (a.eval x)) {y : Operand} {dflt q : Int} (h : bnd ρ (some y) dflt = some q) : ∃ k, a.eval y = .int k q := by
  simp only [bnd] at h
  have hy := hρ y
  split at h
  · rename_i k n e
    injection h with h; subst h
    rw [e] at hy
    exact ⟨k, hy⟩
  · cases h
theorem bounds_ok {isS : Bool} {len cap : Nat} {lo hi : Option Operand} {p q : Int} {ρ : Operand → V} {S : Sit} (hρ : ∀ x, Rep S (ρ x) (a.eval x))
    (h1 : bnd ρ lo 0 = some p) (h2 : bnd ρ hi (len : Int) = some q) (hp : 0 ≤ p) (hpq : p ≤ q) (hq : q ≤ len) (hc : len ≤ cap) :
    (Instr.sliceBounds isS len cap (lo.map a.eval) (hi.map a.eval) none).run P W = .ok (p.toNat, q.toNat, cap) W := by
  have hq0 : ((q.toNat : Nat) : Int) = q := Int.toNat_of_nonneg (by omega)
  cases hi with
  | none =>
    simp only [bnd, Option.some.injEq] at h2; subst h2
    cases lo with
    | none => simp only [bnd, Option.some.injEq] at h1; subst h1; rfl
    | some z =>
      obtain ⟨k, hz⟩ := bnd_some hρ h1
      simp only [Instr.sliceBounds, Option.map_none, Option.map_some, Option.isSome_none, Bool.false_eq_true, if_false, Sem.run_bind, Sem.run_pure, Result.andThen_ok, hz, sliceBound_ok hp hpq, Int.toNat_natCast]
  | some y =>
    obtain ⟨k, hy⟩ := bnd_some hρ h2
    cases lo with
    | none =>
      simp only [bnd, Option.some.injEq] at h1; subst h1
      simp only [Instr.sliceBounds, Option.map_none, Option.map_some, Option.isSome_none, Bool.false_eq_true, if_false, Sem.run_bind, Sem.run_pure, Result.andThen_ok, hy, sliceBound_ok (show 0 ≤ q by omega) (show q ≤ (cap : Int) by omega), Int.toNat_zero]
    | some z =>
      obtain ⟨k, hz⟩ := bnd_some hρ h1
      simp only [Instr.sliceBounds, Option.map_none, Option.map_some, Option.isSome_none, Bool.false_eq_true, if_false, Sem.run_bind, Sem.run_pure, Result.andThen_ok, hy, hz, sliceBound_ok (show 0 ≤ q by omega) (show q ≤ (cap : Int) by omega), sliceBound_ok hp (show p ≤ ((q.toNat : Nat) : Int) by omega)]

theorem sliceV_ok {τ : TT} (hτ : TTOk P τ) (h : Sim F β s a W) (hd : ∀ i, d = some i → i < F.n) {T : TypeId} {x : Operand} {lo hi mx : Option Operand} {r : Res} (hr : sliceV τ T (evalV s x) lo hi mx (evalV s) (view s.o (evalV s x)) = some r) (hp : r.pre) :
    Does P F (Instr.sliceAt T (a.eval x) (lo.map a.eval) (hi.map a.eval) (mx.map a.eval)) s a W d r := by
  obtain ⟨hx, hx2⟩ := eval_rep h x
  unfold sliceV at hr
  split at hr <;> try (cases hr; done)
  rename_i ti hti
  have hkk := (hτ T ti hti).k
  have hρ : ∀ x, Rep (sit F β s.o W) (evalV s x) (a.eval x) := fun x => (eval_rep h x).1
  split at hr <;> try (cases hr; done)
  · rename_i l hk he
    rw [hk] at hkk
    rw [he] at hx
    have hx : a.eval x = .string ⟨l.toArray⟩ := hx
    split at hr <;> try (cases hr; done)
    rename_i p q h1 h2
    injection hr with hr; subst hr
    obtain ⟨hp1, hp2, hp3⟩ := (hp : 0 ≤ p ∧ p ≤ q ∧ q ≤ l.length)
    have hb := bounds_ok (P := P) (isS := false) (W := W) (cap := l.length) hρ h1 h2 hp1 hp2 hp3 (Nat.le_refl _)
    refine does_val h hd rfl (z := .string ⟨((l.take q.toNat).drop p.toNat).toArray⟩) ?_ rfl (by simp [V.refs])
    rw [hx]
    simp only [Instr.sliceAt, Sem.run_bind, run_underlying hkk, Result.andThen_ok, Instr.slice, Option.map_none, Option.isSome_none, Bool.false_eq_true, if_false, vb_size, Sem.run_pure, hb, ext_list]
  · rename_i e hk
    rw [hk] at hkk
    split at hr <;> try (cases hr; done)
    · rename_i te k rows hte hv
      split at hr <;> try (cases hr; done)
      rename_i hsz
      split at hr <;> try (cases hr; done)
      rename_i p q h1 h2
      injection hr with hr; subst hr
      obtain ⟨hp1, hp2, hp3⟩ := (hp : 0 ≤ p ∧ p ≤ q ∧ q ≤ rows.length)
      obtain ⟨ad, cap, hev, g1, g2, g3, g4, g5, g6⟩ := (view_rep h.objs _ _ _ hv hx).1
      have hb := bounds_ok (P := P) (isS := true) (W := W) (cap := cap) hρ h1 h2 hp1 hp2 hp3 g1
      have hs := (hτ e te hte).sizeOf W
      obtain ⟨p', rfl⟩ := Int.eq_ofNat_of_zero_le hp1
      obtain ⟨q', rfl⟩ := Int.eq_ofNat_of_zero_le (Int.le_trans hp1 hp2)
      simp only [Int.toNat_natCast] at hb
      refine does_val h hd rfl (z := .slice (if cap = p' then ad else ad.map (·.add (p' * te.size))) (q' - p') (cap - p')) ?_ ?_ (by simp [V.refs])
      · rw [hev]
        simp only [Instr.sliceAt, Sem.run_bind, run_underlying hkk, Result.andThen_ok, Instr.slice, Option.map_none, hb, hs, Sem.run_pure]
      · have hlen : ((rows.take q').drop p').length = q' - p' := by simp; omega
        refine ⟨_, _, by rw [Int.toNat_natCast, Int.toNat_natCast, hlen], by simp; omega, by omega, fun e => ?_, fun r hr => g4 r (List.mem_of_mem_take (List.mem_of_mem_drop hr)), fun r hr => g5 r (List.mem_of_mem_take (List.mem_of_mem_drop hr)), fun y hy => ?_⟩
        · have : ad = none := by
            split at e
            · exact e
            · cases ad with
              | none => rfl
              | some y => cases e
          rw [g3 this]; simp
        · simp only [Int.toNat_natCast]
          split at hy
          · rename_i hcp
            have : (rows.take q').drop p' = [] := List.eq_nil_of_length_eq_zero (by rw [hlen]; omega)
            rw [this]; exact ⟨fun hne => absurd rfl hne, trivial⟩
          · cases ad with
            | none => cases hy
            | some x0 =>
              by_cases hr0 : rows = []
              · have : (rows.take q').drop p' = [] := by rw [hr0]; simp
                rw [this]; exact ⟨fun hne => absurd rfl hne, trivial⟩
              obtain ⟨k1, k2⟩ := g6 x0 rfl
              have k1 := k1 hr0
              obtain ⟨b, o, sp⟩ := x0
              simp only at k1; subst k1
              simp only [Option.map_some, Option.some.injEq] at hy
              rw [add_at] at hy; subst hy
              refine ⟨fun _ => rfl, ?_⟩
              rw [hsz]
              exact AtR.drop p' (by simp; omega) (fun r hr => g4 r (List.mem_of_mem_take hr)) (AtR.take q' k2)
    · rename_i te hte hv
      split at hr <;> try (cases hr; done)
      rename_i p q h1 h2
      injection hr with hr; subst hr
      obtain ⟨rfl, rfl⟩ := (hp : p = 0 ∧ q = 0)
      have hev : a.eval x = .slice none 0 0 := (view_rep h.objs _ _ _ hv hx).1
      have hb := bounds_ok (P := P) (isS := true) (len := 0) (W := W) (cap := 0) hρ h1 h2 (by omega) (by omega) (by omega) (Nat.le_refl _)
      have hs := (hτ e te hte).sizeOf W
      refine does_val h hd rfl (z := .slice none 0 0) ?_ rfl (by simp [V.refs])
      rw [hev]
      simp only [Int.toNat_zero] at hb
      simp only [Instr.sliceAt, Sem.run_bind, run_underlying hkk, Result.andThen_ok, Instr.slice, Option.map_none, hb, hs, Sem.run_pure, if_true]

def fillV (place : Nat → Option (Nat × Nat)) (c : List V) : List (Nat × V) → Option (List V)
  | [] => some c
  | (i, x) :: rest => match place i, x.cells? with
    | some (off, size), some l => if l.length = size ∧ off + l.length ≤ c.length then fillV place (spl1 off l c) rest else none
    | _, _ => none

theorem spl1_cons {α : Type} (x : α) : ∀ (p : Nat) (l c : List α), spl1 p (x :: l) c = spl1 (p + 1) l (c.set p x)
  | 0, l, [] => by cases l <;> rfl
  | 0, l, y :: c => rfl
  | p + 1, l, [] => by cases l <;> rfl
  | p + 1, l, y :: c => by
    show y :: spl1 p (x :: l) c = y :: spl1 (p + 1) l (c.set p x)
    rw [spl1_cons x p l c]
theorem spl1_none {α : Type} : ∀ (p : Nat) (c : List α), spl1 p [] c = c
  | 0, c => spl1_nil c
  | p + 1, [] => rfl
  | p + 1, y :: c => by show y :: spl1 p [] c = _; rw [spl1_none p c]
theorem foldl_spl (off : Nat) : ∀ (l : List Value) (k : Nat) (cells : Array Value),
    ((l.zipIdx k).foldl (fun cs (p : Value × Nat) => cs.setIfInBounds (off + p.2) p.1) cells).toList = spl1 (off + k) l cells.toList
  | [], k, cells => (spl1_none _ _).symm
  | x :: l, k, cells => by
    rw [List.zipIdx_cons, List.foldl_cons, foldl_spl off l (k + 1) _, spl1_cons]
    simp only [Array.toList_setIfInBounds]
    rfl

inductive PartsRep (S : Sit) : List (Nat × V) → List (Nat × Value) → Prop where
  | nil : PartsRep S [] []
  | cons {i : Nat} {x : V} {v : Value} {l : List (Nat × V)} {m : List (Nat × Value)} : Rep S x v → PartsRep S l m → PartsRep S ((i, x) :: l) ((i, v) :: m)
theorem fill_ok {S : Sit} {place : Nat → Option (Nat × Nat)} : ∀ {parts : List (Nat × V)} {vs : List (Nat × Value)} {c c' : List V} {cs : List Value},
    fillV place c parts = some c' → PartsRep S parts vs → RepL S c cs → (∀ u ∈ cs, u.oneCell' = true) →
    ∃ cs', Instr.fill place cs.toArray vs = some cs'.toArray ∧ RepL S c' cs' ∧ (∀ u ∈ cs', u.oneCell' = true) ∧ c'.length = c.length ∧ ∀ x ∈ c', x ∈ c ∨ ∃ y ∈ parts, ∃ l, y.2.cells? = some l ∧ x ∈ l
  | [], vs, c, c', cs, h, hf, hc, h1 => by
    cases hf
    simp only [fillV, Option.some.injEq] at h; subst h
    exact ⟨cs, rfl, hc, h1, rfl, fun x hx => .inl hx⟩
  | (i, x) :: rest, vs, c, c', cs, h, hf, hc, h1 => by
    cases hf with
    | cons hx htl =>
      rename_i v us
      simp only [fillV] at h
      split at h <;> try (cases h; done)
      rename_i off size l hpl hl
      split at h <;> try (cases h; done)
      rename_i hsz
      obtain ⟨hsz, hfit⟩ := hsz
      obtain ⟨g1, g2⟩ := cells_rep hl hx
      have hl1 := RepL.length g1
      have hl2 := RepL.length hc
      have hcs : v.cells.size = l.length := by rw [← hl1]; simp
      have key : (v.cells.zipIdx.foldl (fun cs (p : Value × Nat) => cs.setIfInBounds (off + p.2) p.1) cs.toArray) = (spl1 off v.cells.toList cs).toArray := by
        apply Array.ext'
        rw [← Array.foldl_toList, Array.toList_zipIdx]
        have := foldl_spl off v.cells.toList 0 cs.toArray
        simpa using this
      obtain ⟨cs', k1, k2, k3, k4, k5⟩ := fill_ok h htl (RepL.spl (p := off) g1 hc) (fun w hw => by rcases spl1_mem hw with hw | hw; exact g2 w hw; exact h1 w hw)
      refine ⟨cs', ?_, k2, k3, by rw [k4, spl1_len _ _ _ hfit], fun y hy => ?_⟩
      · unfold Instr.fill
        simp only [hpl]
        rw [if_neg (by simp only [List.size_toArray, hcs, hsz, ne_eq, not_true_eq_false, decide_false, Bool.false_or, decide_eq_true_eq]; omega)]
        rw [show (v.cells.zipIdx.foldl (fun cs (x : Value × Nat) => match x with | (c, j) => cs.setIfInBounds (off + j) c) cs.toArray) = (spl1 off v.cells.toList cs).toArray from key]
        exact k1
      · rcases k5 y hy with hy | ⟨z, hz, l', hl', hy⟩
        · rcases spl1_mem hy with hy | hy
          · exact .inr ⟨(i, x), List.mem_cons_self, l, hl, hy⟩
          · exact .inl hy
        · exact .inr ⟨z, List.mem_cons_of_mem _ hz, l', hl', hy⟩

def buildV (τ : TT) (T : TypeId) (parts : List (Nat × V)) : Option Res :=
  match τ T with
  | some ti => (match ti.k with
    | .struct fs => (match fillV (fun i => match fs[i]? with
        | some (off, t) => (match τ t with | some tf => some (off, tf.size) | none => none)
        | none => none) (ti.zero.map ofVal) parts with
      | some c => if fs.all (fun f => (τ f.2).isSome) then ok (.agg c) else none
      | none => none)
    | .arr _ e => (match τ e with
      | some te => (match fillV (fun i => some (i * te.size, te.size)) (ti.zero.map ofVal) parts with
        | some c => ok (.agg c)
        | none => none)
      | none => none)
    | _ => none)
  | none => none

theorem forall2_map (ρ : Operand → V) (ev : Operand → Value) {S : Sit} (h : ∀ x, Rep S (ρ x) (ev x)) : ∀ l : List (Nat × Operand), PartsRep S (l.map fun p => (p.1, ρ p.2)) (l.map fun p => (p.1, ev p.2))
  | [] => .nil
  | p :: ps => .cons (h p.2) (forall2_map ρ ev h ps)

theorem buildV_ok {τ : TT} (hτ : TTOk P τ) (h : Sim F β s a W) (hd : ∀ i, d = some i → i < F.n) {T : TypeId} {parts : Array (Nat × Operand)} {r : Res} (hr : buildV τ T (parts.toList.map fun p => (p.1, evalV s p.2)) = some r) :
    Does P F (Instr.build T (parts.map fun (i, x) => (i, a.eval x))) s a W d r := by
  unfold buildV at hr
  split at hr <;> try (cases hr; done)
  rename_i ti hti
  have hok := hτ T ti hti
  have hkk := hok.k
  obtain ⟨z, hz, hzc⟩ := hok.zeroValue W
  have hzr : RepL (sit F β s.o W) (ti.zero.map ofVal) z.cells.toList := by rw [hzc]; exact ofVal_repL _ _
  have hf2 := forall2_map (S := sit F β s.o W) (evalV s) a.eval (fun x => (eval_rep h x).1) parts.toList
  have hrefs : ∀ {c : List V}, (∀ x ∈ c, x ∈ (ti.zero.map ofVal) ∨ ∃ y ∈ (parts.toList.map fun p => (p.1, evalV s p.2)), ∃ l, y.2.cells? = some l ∧ x ∈ l) → ∀ q ∈ V.refsL c, RefOk s.o q := by
    intro c hc q hq
    have : ∃ x ∈ c, q ∈ x.refs := by
      clear hc
      induction c with
      | nil => cases hq
      | cons x xs ih =>
        rcases List.mem_append.1 hq with k | k
        · exact ⟨x, List.mem_cons_self, k⟩
        · obtain ⟨y, h1, h2⟩ := ih k; exact ⟨y, List.mem_cons_of_mem _ h1, h2⟩
    obtain ⟨x, hx, hqx⟩ := this
    rcases hc x hx with k | ⟨y, hy, l, hl, hxl⟩
    · have := refsL_mem k q hqx; rw [ofVal_refsL] at this; cases this
    · obtain ⟨p, hp, rfl⟩ := List.mem_map.1 hy
      exact (eval_rep h p.2).2 q (by rw [← cells_refs hl]; exact refsL_mem hxl q hqx)
  split at hr <;> try (cases hr; done)
  · rename_i fs hk
    rw [hk] at hkk
    obtain ⟨fields, hu, hfs⟩ := hkk
    split at hr <;> try (cases hr; done)
    rename_i c hc
    split at hr <;> try (cases hr; done)
    rename_i hall
    injection hr with hr; subst hr
    obtain ⟨cs', k1, k2, k3, k4, k5⟩ := fill_ok hc hf2 hzr (by rw [hzc]; exact hok.zone)
    refine does_val h hd rfl (z := .agg cs'.toArray) ?_ ⟨cs', rfl, k3, k2⟩ (hrefs k5)
    have hmap : (fields.mapM fun (f : Field) => (do pure (f.offset, ← sizeOf f.type) : Sem (Nat × Nat))).run P W = .ok (fields.map fun f => (f.offset, match τ f.type with | some tf => tf.size | none => 0)) W := by
      subst hfs
      have : ∀ l : List Field, (∀ f ∈ l, (τ f.type).isSome = true) → (l.mapM fun (f : Field) => (do pure (f.offset, ← sizeOf f.type) : Sem (Nat × Nat))).run P W = .ok (l.map fun f => (f.offset, match τ f.type with | some tf => tf.size | none => 0)) W := by
        intro l
        induction l with
        | nil => intro _; rfl
        | cons f l ih =>
          intro hl
          cases ht : τ f.type with
          | none => have := hl f List.mem_cons_self; rw [ht] at this; cases this
          | some tf =>
            have hs := (hτ _ tf ht).sizeOf W
            simp only [List.mapM_cons, Sem.run_bind, hs, Result.andThen_ok, Sem.run_pure, ih (fun g hg => hl g (List.mem_cons_of_mem _ hg)), List.map_cons, ht]
      have h1 := this fields.toList (fun f hf => by
        have := List.all_eq_true.1 hall (f.offset, f.type) (List.mem_map.2 ⟨f, hf, rfl⟩)
        simpa using this)
      rw [Array.mapM_eq_mapM_toList]
      show Sem.run P (fields.toList.mapM _ >>= fun l => pure l.toArray) W = _
      simp only [Sem.run_bind, h1, Result.andThen_ok, Sem.run_pure]
      congr 1
      apply Array.ext'; simp
    have hpl : (fun (i : Nat) => (fields.map fun (f : Field) => (f.offset, match τ f.type with | some tf => tf.size | none => 0))[i]?) = (fun (i : Nat) => match fs[i]? with
        | some (off, t) => (match τ t with | some tf => some (off, tf.size) | none => none)
        | none => none) := by
      funext i
      subst hfs
      rw [List.getElem?_map]
      cases hg : fields.toList[i]? with
      | none => simp at hg ⊢; omega
      | some g =>
        have hg' : fields[i]? = some g := by simpa using hg
        have hmem : g ∈ fields.toList := List.mem_of_getElem? hg
        have := List.all_eq_true.1 hall (g.offset, g.type) (List.mem_map.2 ⟨g, hmem, rfl⟩)
        simp only at this
        cases ht : τ g.type with
        | none => rw [ht] at this; cases this
        | some tf => simp [hg', ht]
    have hparts : (parts.map fun (i, x) => (i, a.eval x)).toList = parts.toList.map fun p => (p.1, a.eval p.2) := by simp
    simp only [Instr.build, Sem.run_bind, hz, Result.andThen_ok, run_underlying hu, hmap, hparts]
    rw [← hpl] at k1
    simp only [Array.toArray_toList] at k1
    rw [k1]; rfl
  · rename_i n e hk
    rw [hk] at hkk
    split at hr <;> try (cases hr; done)
    rename_i te hte
    split at hr <;> try (cases hr; done)
    rename_i c hc
    injection hr with hr; subst hr
    obtain ⟨cs', k1, k2, k3, k4, k5⟩ := fill_ok hc hf2 hzr (by rw [hzc]; exact hok.zone)
    refine does_val h hd rfl (z := .agg cs'.toArray) ?_ ⟨cs', rfl, k3, k2⟩ (hrefs k5)
    have hs := (hτ e te hte).sizeOf W
    have hparts : (parts.map fun (i, x) => (i, a.eval x)).toList = parts.toList.map fun p => (p.1, a.eval p.2) := by simp
    simp only [Instr.build, Sem.run_bind, hz, Result.andThen_ok, run_underlying hkk, hs, hparts]
    simp only [Array.toArray_toList] at k1
    rw [k1]; rfl
end
end Go.Proofs.YtedbbinlcdgkoaaGreatDoor
