import Derived.Test.YtedbbinlcdgkoaaGreatDoorVR
/- The value machine: a step, a region in its order, code, functions. No program in sight. -/
namespace Go.Proofs.YtedbbinlcdgkoaaGreatDoor
open Go.RowKit
set_option linter.unusedVariables false
set_option linter.unusedSimpArgs false

def builtV (τ : TT) (b : Builtin) (tys : List TypeId) (args : List V) (ob : V → Option Ob) (vw : V → Option V) (d : Option Nat) (hot : Bool) : Option Res :=
  match b, tys, args with
  | .len, [T], [x] => lenV τ T x
  | .append, [t, tx], [x, y] => (apV τ t tx x (ob x) (vw y) d).map (heatB hot)
  | .copy, [t, tx], [x, y] => copyV τ t tx x (ob x) (vw y)
  | .min, _, [x, y] => minV false x y
  | .max, _, [x, y] => minV true x y
  | _, _, _ => none

def exec (τ : TT) (hot : Bool) (ρ : Operand → V) (ob : V → Option Ob) (vw : V → Option V) (d : Option Nat) : Op → Option Res
  | .move x => ok (ρ x)
  | .assign x => ok (ρ x)
  | .pick c x y => pickV (ρ c) (ρ x) (ρ y)
  | .alloc T => allocV τ T d
  | .box T x => boxV T (ρ x) d
  | .build T ps => buildV τ T (ps.toList.map fun p => (p.1, ρ p.2))
  | .buildSlice T n ps => (buildSliceV τ T n (viewParts vw (ps.toList.map fun p => (p.1, ρ p.2))) d).map (heatB hot)
  | .load T x => loadV τ T (ρ x) (ob (ρ x))
  | .store T x y => storeV τ T (ρ x) (ρ y) (ob (ρ x))
  | .binOp op t x y _ => binX τ op t (ρ x) y (ρ y)
  | .unOp op _ x => unV op (ρ x)
  | .convert src dst x => match τ src, convV τ dst (ρ x) with
    | some _, some r => some r
    | _, _ => match strBytesV τ src dst (ρ x) with
      | some r => some r
      | none => bytesStrV τ src dst (vw (ρ x))
  | .makeFunc f first caps => if first.size = 0 then ok (.fn f (caps.toList.map ρ)) else none
  | .makeMap _ r => match r with
    | none => mapNewV d
    | some _ => none
  | .mapUpdate T m k x => mapSetV τ T (ρ m) (ρ k) (vw (ρ x)) (ob (ρ m))
  | .insert T m k x => mapSetV τ T (ρ m) (ρ k) (vw (ρ x)) (ob (ρ m))
  | .lookup T m k okc => lookupV τ T (ρ m) (ρ k) okc (ob (ρ m))
  | .makeSlice T l c => (makeSliceV τ T (ρ l) (ρ c) d).map (heatB hot)
  | .slice T x lo hi mx => sliceV τ T (ρ x) lo hi mx ρ (vw (ρ x))
  | .fieldAddr S x f => fieldAddrV τ S (ρ x) f
  | .field T x f => fieldV τ T (ρ x) f
  | .indexAddr T x i => indexAddrV τ T (ρ x) (ρ i) (ob (ρ x))
  | .index T x i => indexV τ T (ρ x) (ρ i)
  | .extract x i => extractV (ρ x) i
  | .nilCheck x => match ρ x with
    | .ptr o p => ok (.ptr o p)
    | .rp r p => ok (.rp r p)
    | _ => none
  | .call c => match c.callee with
    | .builtin b => builtV τ b c.argTypes.toList (c.args.toList.map ρ) ob vw d hot
    | _ => none
  | _ => none

section
variable {P : Program} {F : Env} {β : Bet} {s : St} {a : Act} {W : World}

theorem minV_ok {S : Sit} {big : Bool} {x y : V} {r : Res} (hr : minV big x y = some r) {u v : Value} (hx : Rep S x u) (hy : Rep S y v) (w : World) :
    (big = false → ∀ tys ty, Yld P S (Builtin.min_ tys ty #[u, v]) w r) ∧ (big = true → ∀ tys ty, Yld P S (Builtin.max_ tys ty #[u, v]) w r) := by
  unfold minV at hr
  split at hr <;> try (cases hr; done)
  split at hr <;> try (cases hr; done)
  injection hr with hr; subst hr
  cases hx; cases hy
  refine ⟨fun h tys ty => ⟨_, rfl, ?_, rfl, rfl⟩, fun h tys ty => ⟨_, rfl, ?_, rfl, rfl⟩⟩
  · subst h; rfl
  · subst h; rfl

theorem refs_map {x : List Operand} (h : Sim F β s a W) : ∀ r ∈ V.refsL (x.map (evalV s)), RefOk s.o r := by
  induction x with
  | nil => intro r hr; cases hr
  | cons y ys ih =>
    intro r hr
    rcases List.mem_append.1 hr with k | k
    · exact (eval_rep h y).2 r k
    · exact ih r k
theorem rep_map (h : Sim F β s a W) : ∀ x : List Operand, RepL (sit F β s.o W) (x.map (evalV s)) (x.map a.eval)
  | [] => rfl
  | y :: ys => ⟨_, _, rfl, (eval_rep h y).1, rep_map h ys⟩

theorem wp_of_does {o : Oper} {m : Sem Value} {r : Res} (he : (execOp a.eval o) = (do pure (.value (← m)))) (h : Does P F m s a W o.dst r) {K : Act → World → Prop} {Q : Exit → Act → World → Prop}
    (hK : ∀ β' v W', Sim F β' (s.app o.dst r) (a.put o.dst v) W' → K (a.put o.dst v) W') : o.wp P a W K Q := by
  obtain ⟨v, W', β', h1, h2⟩ := h
  unfold Oper.wp
  rw [he]
  simp only [Sem.run_bind, h1, Result.andThen_ok, Sem.run_pure, Oper.upon]
  exact hK β' v W' h2

def freshV (s : St) (d : Option Nat) : Upd → Prop
  | .new _ => match d with | some i => s.o i = none | none => False
  | .put _ => False
  | _ => True

theorem alloc_new {τ : TT} {T : TypeId} {d : Option Nat} {r : Res} (h : allocV τ T d = some r) : ∃ X, r.upd = .new X := by
  unfold allocV at h; split at h <;> try (cases h; done)
  injection h with h; subst h; exact ⟨_, rfl⟩
theorem box_new {T : TypeId} {x : V} {d : Option Nat} {r : Res} (h : boxV T x d = some r) : ∃ X, r.upd = .new X := by
  unfold boxV at h; split at h <;> try (cases h; done)
  injection h with h; subst h; exact ⟨_, rfl⟩
theorem lit_new {τ : TT} {T : TypeId} {n : Nat} {ps : Option (List (Nat × V))} {d : Option Nat} {r : Res} (h : buildSliceV τ T n ps d = some r) : ∃ X, r.upd = .new X := by
  unfold buildSliceV at h
  split at h <;> try (cases h; done)
  split at h <;> try (cases h; done)
  split at h <;> try (cases h; done)
  split at h <;> try (cases h; done)
  split at h <;> try (cases h; done)
  injection h with h; subst h; exact ⟨_, rfl⟩
theorem make_new {τ : TT} {T : TypeId} {x y : V} {d : Option Nat} {r : Res} (h : makeSliceV τ T x y d = some r) : ∃ X, r.upd = .new X := by
  unfold makeSliceV at h
  split at h <;> try (cases h; done)
  split at h <;> try (cases h; done)
  split at h <;> try (cases h; done)
  split at h <;> try (cases h; done)
  injection h with h; subst h; exact ⟨_, rfl⟩

theorem map_new {d : Option Nat} {r : Res} (h : mapNewV d = some r) : ∃ X, r.upd = .new X := by
  unfold mapNewV at h
  split at h <;> try (cases h; done)
  injection h with h; subst h; exact ⟨_, rfl⟩
theorem exec_ok {τ : TT} (hτ : TTOk P τ) (h : Sim F β s a W) {o : Oper} (hd : ∀ i, o.dst = some i → i < F.n) {hot : Bool} {r : Res} (hr : exec τ hot (evalV s) (obV s.o) (view s.o) o.dst o.op = some r) (hp : r.pre) (hf : freshV s o.dst r.upd)
    {K : Act → World → Prop} {Q : Exit → Act → World → Prop} (hK : ∀ β' v W', Sim F β' (s.app o.dst r) (a.put o.dst v) W' → K (a.put o.dst v) W') : o.wp P a W K Q := by
  obtain ⟨dst, op, ty, pos, after, guard⟩ := o
  have hn : ∀ {X}, r.upd = .new X → ∀ i, dst = some i → s.o i = none := fun {X} hu i hi => by
    rw [hu] at hf; subst hi; exact hf
  have ev := fun x => eval_rep h x
  cases op <;> simp only [exec] at hr <;> try (cases hr; done)
  case move x => 
    injection hr with hr; subst hr
    exact wp_of_does (m := pure (a.eval x)) rfl (does_val h hd rfl rfl (ev x).1 (ev x).2) hK
  case assign x =>
    injection hr with hr; subst hr
    exact wp_of_does (m := pure (a.eval x)) rfl (does_val h hd rfl rfl (ev x).1 (ev x).2) hK
  case pick c x y =>
    unfold pickV at hr
    split at hr <;> try (cases hr; done)
    · rename_i hc
      injection hr with hr; subst hr
      have := (ev c).1
      rw [hc] at this
      have this : a.eval c = .bool true := this
      unfold Oper.wp execOp
      simp only [this, asBool, Sem.run_bind, Sem.run_pure, Result.andThen_ok, Oper.upon, if_true, Bool.false_eq_true, if_false]
      exact hK β _ W (h.put dst hd (ev x).2 (ev x).1)
    · rename_i hc
      injection hr with hr; subst hr
      have := (ev c).1
      rw [hc] at this
      have this : a.eval c = .bool false := this
      unfold Oper.wp execOp
      simp only [this, asBool, Sem.run_bind, Sem.run_pure, Result.andThen_ok, Oper.upon, if_true, Bool.false_eq_true, if_false]
      exact hK β _ W (h.put dst hd (ev y).2 (ev y).1)
  case alloc T =>
    obtain ⟨X, hX⟩ := alloc_new hr
    exact wp_of_does rfl (allocV_ok hτ h hd hr (hn hX) _) hK
  case box T x =>
    obtain ⟨X, hX⟩ := box_new hr
    exact wp_of_does rfl (boxV_ok h hd hr (hn hX) (ev x).1 (ev x).2) hK
  case build T ps => exact wp_of_does rfl (buildV_ok hτ h hd hr) hK
  case buildSlice T n ps =>
    obtain ⟨r0, hr0, rfl⟩ := Option.map_eq_some_iff.1 hr
    obtain ⟨X, hX⟩ := heat_new (hot := hot) (lit_new hr0)
    exact wp_of_does rfl (buildSliceV_ok hτ h hd hr0 (hn hX) hot hp) hK
  case load T x => exact wp_of_does rfl (loadV_ok hτ h hd hr hp (ev x).1) hK
  case store T x y =>
    obtain ⟨W', β', h1, h2⟩ := storeV_ok hτ h hr hp (ev x).1 (ev y).1 (ev y).2 hd
    unfold Oper.wp execOp
    simp only [Sem.run_bind, h1, Result.andThen_ok, Sem.run_pure, Oper.upon]
    exact hK β' undef W' h2
  case makeMap T r0 =>
    cases r0 with
    | some _ => cases hr
    | none =>
      have hr : mapNewV dst = some r := hr
      obtain ⟨X, hu⟩ := map_new hr
      exact wp_of_does rfl (mapNewV_ok h hd hr (hn hu)) hK
  case mapUpdate T m k x =>
    obtain ⟨W', β', h1, h2⟩ := mapSetV_ok hτ h hd hr (ev m).1 (ev k).1 (ev x).1
    unfold Oper.wp execOp
    simp only [Sem.run_bind, h1, Result.andThen_ok, Sem.run_pure, Oper.upon]
    exact hK β' undef W' h2
  case insert T m k x =>
    obtain ⟨W', β', h1, h2⟩ := mapSetV_ok hτ h hd hr (ev m).1 (ev k).1 (ev x).1
    unfold Oper.wp execOp
    simp only [Sem.run_bind, h1, Result.andThen_ok, Sem.run_pure, Oper.upon]
    exact hK β' undef W' h2
  case lookup T m k okc => exact wp_of_does rfl (lookupV_ok hτ h hd hr (ev m).1 (ev k).1) hK
  case binOp op t x y ty2 => exact wp_of_does rfl (does_yld h hd (binX_ok W τ hτ (ox := x) hr hp (ev x).1 (ev y).1)) hK
  case unOp op t x => exact wp_of_does rfl (does_yld h hd (unV_ok W hr (ev x).1)) hK
  case convert src dst x =>
    split at hr
    · rename_i ts r' hts hc
      injection hr with hr; subst hr
      have hsk := (hτ src ts hts).k
      obtain ⟨dd, hdd⟩ : ∃ dd, P.underlying src = some dd := by
        unfold TKOk at hsk
        split at hsk
        · obtain ⟨dd, h1, _⟩ := hsk; exact ⟨dd, h1⟩
        · obtain ⟨dd, h1⟩ := hsk; exact ⟨_, h1⟩
        · exact ⟨_, hsk⟩
        · exact ⟨_, hsk⟩
        · exact ⟨_, hsk⟩
        · obtain ⟨dd, h1, _⟩ := hsk; exact ⟨_, h1⟩
        · exact ⟨_, hsk⟩
        · exact ⟨_, hsk⟩
        · exact ⟨_, hsk⟩
      exact wp_of_does rfl (does_yld h hd (convV_ok W τ hτ hdd hc (ev x).1)) hK
    · split at hr
      · rename_i r' hc
        injection hr with hr; subst hr
        exact wp_of_does rfl (strBytesV_ok hτ h hd hc hp (ev x).1) hK
      · exact wp_of_does rfl (bytesStrV_ok hτ h hd hr (ev x).1) hK
  case makeFunc f first caps =>
    split at hr <;> try (cases hr; done)
    rename_i h0
    injection hr with hr; subst hr
    have hf0 : first = #[] := Array.eq_empty_of_size_eq_zero h0
    subst hf0
    have hrep : Rep (sit F β s.o W) (.fn f (caps.toList.map (evalV s))) (.func f #[] (caps.map a.eval)) := ⟨caps.toList.map a.eval, (by congr 1; apply Array.ext'; simp), rep_map h _⟩
    exact wp_of_does (m := Instr.makeFunc f (#[].map a.eval) (caps.map a.eval)) rfl (does_val h hd rfl (z := .func f #[] (caps.map a.eval)) (by simp [Instr.makeFunc]) hrep (fun q hq => refs_map h q (by simpa [V.refs] using hq))) hK
  case makeSlice T l c =>
    obtain ⟨r0, hr0, rfl⟩ := Option.map_eq_some_iff.1 hr
    obtain ⟨X, hX⟩ := heat_new (hot := hot) (make_new hr0)
    exact wp_of_does rfl (makeSliceV_ok hτ h hd hr0 hot hp (hn hX) (ev l).1 (ev c).1) hK
  case slice T x lo hi mx => exact wp_of_does rfl (sliceV_ok hτ h hd hr hp) hK
  case fieldAddr S x f => exact wp_of_does rfl (fieldAddrV_ok hτ h hd hr (ev x).1 (ev x).2) hK
  case field T x f => exact wp_of_does rfl (fieldV_ok hτ h hd hr hp (ev x).1 (ev x).2) hK
  case indexAddr T x i => exact wp_of_does rfl (indexAddrV_ok hτ h hd hr hp (ev x).1 (ev x).2 (ev i).1) hK
  case index T x i => exact wp_of_does rfl (indexV_ok hτ h hd hr hp (ev x).1 (ev x).2 (ev i).1) hK
  case extract x i => exact wp_of_does rfl (extractV_ok h hd hr (ev x).1 (ev x).2) hK
  case nilCheck x =>
    split at hr <;> try (cases hr; done)
    · rename_i o p hx
      injection hr with hr; subst hr
      have h1 := (ev x)
      rw [hx] at h1
      have h2 : a.eval x = .pointer (some ⟨β.pb o, p, none⟩) := h1.1
      unfold Oper.wp execOp
      simp only [h2, Sem.run_pure, Oper.upon]
      exact hK β _ W (h.put dst hd (x := .ptr o p) h1.2 rfl)
    · rename_i row p hx
      injection hr with hr; subst hr
      have h1 := (ev x)
      rw [hx] at h1
      obtain ⟨⟨b, q, h2, h3, h4⟩, h5⟩ := h1
      unfold Oper.wp execOp
      simp only [h2, Sem.run_pure, Oper.upon]
      exact hK β _ W (h.put dst hd (x := .rp row p) h5 ⟨b, q, rfl, h3, h4⟩)
  case call c =>
    split at hr <;> try (cases hr; done)
    rename_i b hb
    obtain ⟨callee, args, tys⟩ := c
    simp only at hb hr; subst hb
    have hres : ∀ m : Sem Value, (∀ consts, builtin b tys ty consts (args.map a.eval) = (do pure (.value (← m)))) → (execOp a.eval ⟨dst, .call ⟨.builtin b, args, tys⟩, ty, pos, after, guard⟩) = (do pure (.value (← m))) := by
      intro m hm
      unfold execOp
      simp only [resolve, pure_bind, invoke]
      exact hm _
    have hat : tys = tys.toList.toArray := by simp
    have haa : args.map a.eval = (args.toList.map a.eval).toArray := by apply Array.ext'; simp
    unfold builtV at hr
    split at hr <;> try (cases hr; done)
    · rename_i T x e1 e2
      obtain ⟨y, hy⟩ : ∃ y, args.toList = [y] := by
        cases hl : args.toList with
        | nil => rw [hl] at e2; simp at e2
        | cons y ys => rw [hl] at e2; cases ys with
          | nil => exact ⟨y, rfl⟩
          | cons => simp at e2
      rw [hy] at e2 haa
      simp only [List.map_cons, List.map_nil, List.cons.injEq, and_true] at e2; subst e2
      refine wp_of_does (hres (Builtin.len_ tys ty (args.map a.eval)) (fun _ => rfl)) ?_ hK
      rw [hat, e1, haa]
      exact does_yld h hd (lenV_ok hτ hr (ev y).1 W)
    · rename_i t tx x y e1 e2
      obtain ⟨x', y', hy⟩ : ∃ x' y', args.toList = [x', y'] := by
        cases hl : args.toList with
        | nil => rw [hl] at e2; simp at e2
        | cons z zs => rw [hl] at e2; cases zs with
          | nil => simp at e2
          | cons z' zs => cases zs with
            | nil => exact ⟨z, z', rfl⟩
            | cons => simp at e2
      rw [hy] at e2 haa
      simp only [List.map_cons, List.map_nil, List.cons.injEq, and_true] at e2
      obtain ⟨rfl, rfl⟩ := e2
      refine wp_of_does (hres (Builtin.append_ tys ty (args.map a.eval)) (fun _ => rfl)) ?_ hK
      rw [hat, e1, haa]
      obtain ⟨r0, hr0, rfl⟩ := Option.map_eq_some_iff.1 hr
      exact apV_ok hτ h hd hr0 hot hp (fun i X hi hX => by
        obtain ⟨X', hX'⟩ := heat_new (hot := hot) ⟨X, hX⟩
        exact hn hX' i hi) (ev x').1 (ev y').1
    · rename_i t tx x y e1 e2
      obtain ⟨x', y', hy⟩ : ∃ x' y', args.toList = [x', y'] := by
        cases hl : args.toList with
        | nil => rw [hl] at e2; simp at e2
        | cons z zs => rw [hl] at e2; cases zs with
          | nil => simp at e2
          | cons z' zs => cases zs with
            | nil => exact ⟨z, z', rfl⟩
            | cons => simp at e2
      rw [hy] at e2 haa
      simp only [List.map_cons, List.map_nil, List.cons.injEq, and_true] at e2
      obtain ⟨rfl, rfl⟩ := e2
      refine wp_of_does (hres (Builtin.copy_ tys ty (args.map a.eval)) (fun _ => rfl)) ?_ hK
      rw [hat, e1, haa]
      exact copyV_ok hτ h hd hr hp (ev x').1 (ev y').1
    · rename_i x y e2
      obtain ⟨x', y', hy⟩ : ∃ x' y', args.toList = [x', y'] := by
        cases hl : args.toList with
        | nil => rw [hl] at e2; simp at e2
        | cons z zs => rw [hl] at e2; cases zs with
          | nil => simp at e2
          | cons z' zs => cases zs with
            | nil => exact ⟨z, z', rfl⟩
            | cons => simp at e2
      rw [hy] at e2 haa
      simp only [List.map_cons, List.map_nil, List.cons.injEq, and_true] at e2
      obtain ⟨rfl, rfl⟩ := e2
      refine wp_of_does (hres (Builtin.min_ tys ty (args.map a.eval)) (fun _ => rfl)) ?_ hK
      rw [haa]
      exact does_yld h hd ((minV_ok hr (ev x').1 (ev y').1 W).1 rfl _ _)
    · rename_i x y e2
      obtain ⟨x', y', hy⟩ : ∃ x' y', args.toList = [x', y'] := by
        cases hl : args.toList with
        | nil => rw [hl] at e2; simp at e2
        | cons z zs => rw [hl] at e2; cases zs with
          | nil => simp at e2
          | cons z' zs => cases zs with
            | nil => exact ⟨z, z', rfl⟩
            | cons => simp at e2
      rw [hy] at e2 haa
      simp only [List.map_cons, List.map_nil, List.cons.injEq, and_true] at e2
      obtain ⟨rfl, rfl⟩ := e2
      refine wp_of_does (hres (Builtin.max_ tys ty (args.map a.eval)) (fun _ => rfl)) ?_ hK
      rw [haa]
      exact does_yld h hd ((minV_ok hr (ev x').1 (ev y').1 W).2 rfl _ _)
end
end Go.Proofs.YtedbbinlcdgkoaaGreatDoor
