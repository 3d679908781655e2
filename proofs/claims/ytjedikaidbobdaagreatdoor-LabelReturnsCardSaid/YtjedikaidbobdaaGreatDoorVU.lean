import Derived.Test.YtjedikaidbobdaaGreatDoorVT
/- The value machine: a slice that was written, from here on only read. No program in sight. -/
namespace Go.Proofs.YtjedikaidbobdaaGreatDoor
open Go.RowKit
set_option linter.unusedVariables false
set_option linter.unusedSimpArgs false
/-- from here on the elements of the slice in x are only read; the box is given up. Only these temporaries and objects are known. -/
theorem VWp.cool {P : Program} {F : Env} {c : Code} {Q : Exit → St → Prop} {s : St} (o x k : Nat) {E : TypeId} {rows : List (List V)} (ks os : List Nat) (hx : s.t x = .hs o rows.length) (ho : s.o o = some (.box E rows.flatten)) (hk : ∀ r ∈ rows, r.length = k) (hcl : cleanR rows)
    (h : okT (lko (keepO ⟨up s.t x (.sl k rows), up s.o o none⟩ os)) (keepT ⟨up s.t x (.sl k rows), up s.o o none⟩ ks) ∧ okO (lko (keepO ⟨up s.t x (.sl k rows), up s.o o none⟩ os)) (keepO ⟨up s.t x (.sl k rows), up s.o o none⟩ os) ∧
      VWp P F c Q (St.of (keepT ⟨up s.t x (.sl k rows), up s.o o none⟩ ks) (keepO ⟨up s.t x (.sl k rows), up s.o o none⟩ os))) : VWp P F c Q s := fun β a W hs => by
  obtain ⟨h1, h2, h3⟩ := h
  have hl0 : ∀ i, (up s.o o none) i = none ∨ (up s.o o none) i = s.o i := fun i => by
    by_cases e : i = o
    · subst e; exact .inl (up_same _ _ _)
    · exact .inr (up_other _ _ e)
  have l2 := less_keep ⟨up s.t x (.sl k rows), up s.o o none⟩ ks os
  have hblk : blk β s.o o = some (β.pb o) := by unfold blk; simp only [ho]
  have hmut : ∀ p, ¬ Mut F β (up s.o o none) (β.pb o) p := by
    rintro p (q | ⟨o', T, c', q1, q2⟩ | ⟨o', k', E', rows', q1, q2, _⟩)
    · exact hs.objs.base.dis o _ p hblk q
    · by_cases e : o' = o
      · subst e; rw [up_same] at q1; cases q1
      · rw [up_other _ _ e] at q1
        exact e (hs.objs.inj o' o (β.pb o) (by unfold blk; simp only [q1, q2]) hblk)
    · by_cases e : o' = o
      · subst e; rw [up_same] at q1; cases q1
      · rw [up_other _ _ e] at q1
        exact e (hs.objs.inj o' o (β.pb o) (by unfold blk; simp only [q1]; exact q2) hblk)
  have frame : ∀ i, Rep (sit F β (up s.o o none) W) ((up s.t x (.sl k rows)) i) (a.tmps.getD i undef) := fun i => by
    by_cases e : i = x
    · subst e
      rw [up_same]
      have hv := hs.frame i
      rw [hx] at hv
      obtain ⟨cap, hv, c1, c2⟩ := hv
      obtain ⟨_, us, rs, g1, g2, g3⟩ := hs.objs.box o E _ ho
      refine ⟨some ⟨β.pb o, 0, none⟩, cap, hv, c1, c2, (fun q => by cases q), hk, hcl, fun y hy => ?_⟩
      injection hy with hy; subst hy
      refine ⟨fun _ => rfl, AtR.flat.2 (AtL.of_get fun j hj => ?_)⟩
      obtain ⟨u, hu, hru⟩ := RepL.get g3 j hj
      refine ⟨hmut _, u, ?_, g2 u (List.mem_of_getElem? hu), hru.less hl0⟩
      show W.cell? ⟨β.pb o, 0 + j, none⟩ = some u
      rw [Nat.zero_add, cell_of_row _ _ j _ _ _ g1, List.getElem?_toArray, List.getElem?_append_left (List.getElem?_eq_some_iff.1 hu).1]; exact hu
    · rw [up_other _ _ e]
      exact (hs.frame i).less hl0
  refine h3 β a W ⟨(hs.objs.less hl0).less l2.o, closed_of h1 h2, fun i => ?_, hs.defers, hs.size⟩
  rcases l2.t i with e | e
  · rw [e]; trivial
  · rw [e]; exact (frame i).less l2.o
/-- values that name no place -/
def flatV : V → Bool
  | .int _ _ | .bool _ | .str _ | .nil => true
  | _ => false
theorem flat_rep {S S' : Sit} : ∀ {x : V} {v : Value}, flatV x = true → Rep S x v → Rep S' x v
  | .int _ _, _, _, h => h
  | .bool _, _, _, h => h
  | .str _, _, _, h => h
  | .nil, _, _, h => h
theorem flat_repL {S S' : Sit} : ∀ {l : List V} {vs : List Value}, (∀ x ∈ l, flatV x = true) → RepL S l vs → RepL S' l vs
  | [], _, _, h => h
  | x :: xs, vs, hf, h => by
    obtain ⟨u, us, h1, h2, h3⟩ := h
    exact ⟨u, us, h1, flat_rep (hf x List.mem_cons_self) h2, flat_repL (fun y hy => hf y (List.mem_cons_of_mem _ hy)) h3⟩
section
variable {P : Program} {ops : Array Oper} {Q Q' : Exit → Act → World → Prop}
/-- an operation leaves the other temporaries as they are -/
theorem wp_put {o : Oper} {a : Act} {w : World} {K K' : Act → World → Prop} (h : ∀ a1 w1, (∀ i, o.dst ≠ some i → a1.tmps.getD i undef = a.tmps.getD i undef) → K a1 w1 → K' a1 w1)
    (hp : ∀ ch a w, Q (.panic ch) a w → Q' (.panic ch) a w) (hl : LetsOut Q → LetsOut Q') (hh : o.wp P a w K Q) : o.wp P a w K' Q' := by
  have hput : ∀ (a0 : Act) (v : Value), a0.tmps = a.tmps → ∀ i, o.dst ≠ some i → (a0.put o.dst v).tmps.getD i undef = a.tmps.getD i undef := fun a0 v ha i hi => by
    cases hd : o.dst with
    | none => simp only [Act.put]; rw [ha]
    | some d =>
      have hne : d ≠ i := fun e => hi (by rw [hd, e])
      simp [Act.put, Array.getElem?_setIfInBounds, hne, ha]
  unfold Oper.wp at *
  generalize (execOp a.eval o).run P w = r at *
  cases r with
  | ok n w' =>
    cases n <;> simp only [Oper.upon] at hh ⊢ <;>
      first
        | exact h _ _ (hput _ _ rfl) hh
        | exact Calls.mono hh (fun e w'' he => by cases e <;> first | exact h _ _ (hput _ _ rfl) he | exact hp _ _ _ he | exact hl he)
        | exact Rows.mono hh (fun _ _ he => h _ _ (hput _ _ rfl) he)
  | halt x w' => cases x <;> simp only [Oper.upon] at hh ⊢ <;> first | exact hp _ _ _ hh | exact hh
/-- a region in its order leaves the other temporaries as they are -/
theorem wpList_to (keep : Nat → Prop) (a0 : Act) (hn : ∀ a w, Q .normal a w → (∀ i, keep i → a.tmps.getD i undef = a0.tmps.getD i undef) → Q' .normal a w)
    (hp : ∀ ch a w, Q (.panic ch) a w → Q' (.panic ch) a w) (hl : LetsOut Q → LetsOut Q') :
    ∀ (l : List Oper) (a : Act) (w : World), (∀ o ∈ l, ∀ i, keep i → o.dst ≠ some i) → (∀ i, keep i → a.tmps.getD i undef = a0.tmps.getD i undef) → wpList P ops Q l a w → wpList P ops Q' l a w
  | [], a, w, _, ha, h => hn a w h ha
  | o :: os, a, w, hd, ha, h => by
    have hd2 : ∀ o' ∈ os, ∀ i, keep i → o'.dst ≠ some i := fun o' ho => hd o' (List.mem_cons_of_mem _ ho)
    unfold wpList at h ⊢
    split
    · rename_i hw
      rw [if_pos hw] at h
      rcases h with h | ⟨h, h2⟩
      · exact .inl (wp_put (fun a1 w1 h1 hk => wpList_to keep a0 hn hp hl os a1 w1 hd2 (fun i hi => (h1 i (hd o List.mem_cons_self i hi)).trans (ha i hi)) hk) hp hl h)
      · exact .inr ⟨h, hl h2⟩
    · rename_i hw
      rw [if_neg hw] at h
      refine wpList_to keep a0 hn hp hl os _ w hd2 (fun i hi => ?_) h
      have hne := hd o List.mem_cons_self i hi
      cases ho : o.dst with
      | none => simp only [Act.put]; exact ha i hi
      | some d =>
        have : d ≠ i := fun e => hne (by rw [ho, e])
        have h3 : (a.put (some d) undef).tmps.getD i undef = a.tmps.getD i undef := by simp [Act.put, Array.getElem?_setIfInBounds, this]
        rw [h3]; exact ha i hi
end
theorem lk_keep2 (s : St) : ∀ (ks : List Nat) (i : Nat), lk (keepT s ks) i = .any ∨ (i ∈ ks ∧ lk (keepT s ks) i = s.t i)
  | [], _ => .inl rfl
  | k :: ks, i => by
    unfold keepT lk
    by_cases e : i = k
    · subst e; rw [if_pos rfl]; exact .inr ⟨List.mem_cons_self, rfl⟩
    · rw [if_neg e]
      rcases lk_keep2 s ks i with h | ⟨h1, h2⟩
      · exact .inl h
      · exact .inr ⟨List.mem_cons_of_mem _ h1, h2⟩
/-- the temporaries ks are not written by the operations -/
def noDst (ks : List Nat) (l : List Oper) : Bool := l.all fun o => match o.dst with
  | some i => !ks.contains i
  | none => true
/-- a frame of its own for what follows: nothing that is there is written, the temporaries ks are known, and no object -/
theorem fresh_sim {F : Env} {β : Bet} {s : St} {a : Act} {W : World} (hs : Sim F β s a W) (ks : List Nat) (h1a : okT (lko []) (keepT s ks)) : ∃ F' : Env, F'.n = F.n ∧ F'.w0 = W ∧ F'.L = [] ∧ Sim F' β (St.of (keepT s ks) []) a W := by
  let F' : Env := ⟨W, [], Mut F β s.o, F.n, lko [], β, gZ⟩
  have hmut0 : ∀ b p, Mut F' β (lko []) b p ↔ Mut F β s.o b p := fun b p => by
    constructor
    · rintro (q | ⟨o, T, c, q, _⟩ | ⟨o, k, E, rows, q, _⟩)
      · exact q
      · cases q
      · cases q
    · exact fun q => .inl q
  have hsim : Sim F' β (St.of (keepT s ks) []) a W := by
    refine ⟨⟨⟨Chg.refl _ _, fun b p q => hs.objs.mut_lt q, (fun o b p q => by cases q), (fun o q => absurd rfl q), hs.objs.base.nn, (fun o => by show Kin _ _ _ none _; unfold Kin; trivial), (fun b p c q hc => ⟨fun m => hs.objs.base.gcNow.1 b p q ((hmut0 _ _).1 m), hc⟩), ⟨fun b p q => q, hs.objs.base.gcNow.2⟩, (fun o q => by cases q), (by intro q; cases q)⟩, (fun o T c q => by cases q), (fun o k E rows q => by cases q), (fun o o' b q => by cases q)⟩, closed_of h1a trivial, fun i => ?_, hs.defers, hs.size⟩
    show Rep _ (lk (keepT s ks) i) _
    rcases lk_mem (ts := keepT s ks) (i := i) with e | ⟨v, hv, e⟩
    · rw [e]; trivial
    · rcases lk_keep (s := s) (ks := ks) (i := i) with e2 | e2
      · rw [e2]; trivial
      · rw [e2]
        have hc : (s.t i).refs = [] := by
          have := okR_ok (okT_mem h1a hv)
          rw [← e, e2] at this
          cases hq : (s.t i).refs with
          | nil => rfl
          | cons r rs =>
            have := this r (by rw [hq]; simp)
            obtain ⟨o, _ | m⟩ := r
            · obtain ⟨T, c, q⟩ := this; cases q
            · obtain ⟨_, _, _, q, _⟩ := this; cases q
        exact Rep.clean (S := sit F β s.o W) (S' := sit F' β (lko []) W) (fun b p c g1 g2 => ⟨fun q => g1 ((hmut0 b p).1 q), g2⟩) hc (hs.frame i)
  exact ⟨F', rfl, rfl, rfl, hsim⟩
/-- A region whose new slice (the object d, in x) may be written from here on: it is run in a frame of its own, in which only the temporaries ks are known and no object; behind it the temporaries ks2 and the objects os2 are known as they were ahead of it. -/
theorem VWp.heat {P : Program} {τ : TT} {F : Env} {s : St} {Q : Exit → St → Prop} (hτ : TTOk P τ) {n : Nat} (hF : F.n = n) {id : Nat} {l : List Oper} (hd : dstB n l = true) (ks ks2 os2 : List Nat) (x d k : Nat) {E : TypeId} {rows : List (List V)} {y : Code}
    (hnd : noDst ks2 l = true) (hs0 : s.o d = none) (hdn : d < 1000000) (hflat : ∀ v ∈ rows.flatten, flatV v = true) (hne : rows ≠ [])
    (h1 : okT (lko []) (keepT s ks) ∧ vops P τ .no .none l.toArray l (St.of (keepT s ks) []) (fun s1 => s1.t x = .own d rows.length ∧ s1.o d = some (.arr k E rows)))
    (h2 : okT (lko ((d, .box E rows.flatten) :: keepO s os2)) ((x, .hs d rows.length) :: keepT s ks2) ∧ okO (lko ((d, .box E rows.flatten) :: keepO s os2)) ((d, .box E rows.flatten) :: keepO s os2) ∧
      VWp P F y Q (St.of ((x, .hs d rows.length) :: keepT s ks2) ((d, .box E rows.flatten) :: keepO s os2))) : VWp P F (.seq (.region id l.toArray false) y) Q s := fun β a W hs => by
  obtain ⟨h1a, h1b⟩ := h1
  obtain ⟨h2a, h2b, h2c⟩ := h2
  obtain ⟨F', hFn, hFw, hFL, hsim⟩ := fresh_sim hs ks h1a
  have hd2 : ∀ o ∈ l, ∀ i, o.dst = some i → i < F'.n := fun o ho i hi => by
    have hd' : dstB F'.n l = true := by rw [hFn, hF]; exact hd
    have := List.all_eq_true.1 (dstB_all hd') o ho
    rw [hi] at this; simpa using this
  have key := vops_ok (F := F') (P := P) (κ := .none) (cb := .no) (ops := l.toArray) (Q := fun e a' W' => e = .normal ∧ ∃ s1 β1, (s1.t x = .own d rows.length ∧ s1.o d = some (.arr k E rows)) ∧ Sim F' β1 s1 a' W') hτ (fun s' β' a' W' hk hs' => ⟨rfl, s', β', hk, hs'⟩) l hd2 hsim h1b
  refine wp_seq (wp_region_lit (wpList_to (fun i => i ∈ ks2) a ?_ (fun ch a w q => by cases q.1) (fun q => by obtain ⟨a1, w1, q, _⟩ := q; cases q) l a W (fun o ho i hi e => ?_) (fun i _ => rfl) key))
  · rintro a1 W1 ⟨_, s1, β1, ⟨hx, ho⟩, hs1⟩ hkeep
    have hW : Chg [] W W1 := by have := hs1.objs.chg; rw [hFw, hFL] at this; exact this
    obtain ⟨hk1, hcl, hloc, xs, hown, hone, hrep⟩ := hs1.objs.arr d k E rows ho
    have hfx := hs1.frame x
    rw [hx] at hfx
    have hv : a1.tmps.getD x undef = β1.sv d := hfx.2 _ (by show svOf _ _ d _ = _; unfold svOf; simp only [ho, if_true])
    obtain ⟨g, cap, rest, hsv, hnc, hcm, _, hg, _⟩ := own_hs hown (by cases rows with | nil => exact absurd rfl hne | cons => simp)
    have hge : W.heap.size ≤ g := by
      rcases hloc g (by rw [hsv]; rfl) with q | q
      · rw [hFL] at q; cases q
      · rw [hFw] at q; exact q
    obtain ⟨hC, hR, hI⟩ := new_common hs.objs hs.closed hs0 (.box E rows.flatten) hW g undef hge
    have hR2 : ∀ r, RefOk s.o r → RefOk (up s.o d (some (.box E rows.flatten))) r := fun r hr => (refOk_new hs0 _ r hr).2
    have objs : Objs F ⟨up β.pb d g, up β.sv d undef⟩ (up s.o d (some (.box E rows.flatten))) W1 := by
      refine ⟨hs.objs.base.step (hs.objs.chg.trans (hW.weaken (by simp))) (new_blk (W := W) (.box E rows.flatten) _ _ hge) (new_kin hs0 hdn _ _ _) hC, fun o T' c' ho => ?_, fun o k' E' rows' ho => ?_, hI⟩
      · by_cases e : o = d
        · subst e
          simp only [up_same] at ho; injection ho with ho; injection ho with e1 e2; subst e1; subst e2
          exact ⟨.inr (by simp only [up_same]; have := hs.objs.chg.size; omega), xs, rest, by simp only [up_same]; exact hg, hone, flat_repL hflat hrep⟩
        · simp only [up_other _ _ e] at ho ⊢
          obtain ⟨g1, us, rs, g2, g3, g4⟩ := hs.objs.box o T' c' ho
          exact ⟨g1, us, rs, hW.heap g2 (by simp), g3, move_allL hC hR (hs.closed.o o T' c' ho) g4⟩
      · by_cases e : o = d
        · subst e; simp only [up_same] at ho; cases ho
        · simp only [up_other _ _ e] at ho ⊢
          obtain ⟨g1, g2, g0, ys, g3, g4, g5⟩ := hs.objs.arr o k' E' rows' ho
          exact ⟨g1, g2, g0, ys, ownK_keep1 g3 hW, g4, move_allL hC hR (by rw [clean_flat g2]; simp) g5⟩
    have hlo : ∀ o, lko ((d, .box E rows.flatten) :: keepO s os2) o = none ∨ lko ((d, .box E rows.flatten) :: keepO s os2) o = (up s.o d (some (.box E rows.flatten))) o := fun o => by
      show (if o = d then _ else _) = _ ∨ (if o = d then _ else _) = _
      by_cases e : o = d
      · subst e; rw [if_pos rfl, up_same]; exact .inr rfl
      · rw [if_neg e, up_other _ _ e]; exact lko_keep
    refine h2c ⟨up β.pb d g, up β.sv d undef⟩ a1 W1 ⟨objs.less hlo, closed_of h2a h2b, fun i => ?_, hs1.defers, by rw [hs1.size, hFn]⟩
    show Rep _ (if i = x then _ else _) _
    by_cases e : i = x
    · subst e
      rw [if_pos rfl]
      refine ⟨cap, ?_, hnc, hcm⟩
      show _ = Value.slice (some ⟨up β.pb d g d, 0, none⟩) _ _
      rw [up_same, hv]; exact hsv
    · rw [if_neg e]
      rcases lk_keep2 s ks2 i with e2 | ⟨e2, e3⟩
      · rw [e2]; trivial
      · rw [e3, hkeep i e2]
        exact Rep.less hlo (move_all hC hR (hs.closed.t i) (hs.frame i))
  · have := List.all_eq_true.1 hnd o ho
    rw [e] at this
    simp only [Bool.not_eq_true', List.contains_eq_mem, decide_eq_false_iff_not] at this
    exact this hi
section
variable {P : Program} {ops : Array Oper} {Q : Exit → Act → World → Prop}
def thenL (P : Program) (ops : Array Oper) (l2 : List Oper) (Q : Exit → Act → World → Prop) : Exit → Act → World → Prop
  | .normal, a, w => wpList P ops Q l2 a w
  | e, a, w => Q e a w
theorem wpList_app (l2 : List Oper) : ∀ (l1 : List Oper) (a : Act) (w : World), wpList P ops (thenL P ops l2 Q) l1 a w → wpList P ops Q (l1 ++ l2) a w
  | [], a, w, h => h
  | o :: os, a, w, h => by
    rw [List.cons_append]
    unfold wpList at h ⊢
    split
    · rename_i hw
      rw [if_pos hw] at h
      rcases h with h | ⟨h, h2⟩
      · exact .inl (wp_put (fun a1 w1 _ hk => wpList_app l2 os a1 w1 hk) (fun ch a w q => q) (fun q => q) h)
      · exact .inr ⟨h, h2⟩
    · rename_i hw
      rw [if_neg hw] at h
      exact wpList_app l2 os _ w h
end
theorem set_flat1 (v : V) : ∀ (rows : List (List V)) (i : Nat), (∀ r ∈ rows, r.length = 1) → i < rows.length → (rows.set i [v]).flatten = spl1 i [v] rows.flatten
  | [], i, _, h => by simp at h
  | r :: rs, i, hk, h => by
    have h1 := hk r List.mem_cons_self
    match r, h1 with
    | [c], _ =>
      cases i with
      | zero => simp [spl1, spl1_nil]
      | succ i =>
        have := set_flat1 v rs i (fun x hx => hk x (List.mem_cons_of_mem _ hx)) (by simpa using h)
        simp only [List.set_cons_succ, List.flatten_cons, this, List.singleton_append, spl1]
/-- A new slice in one region, one of its elements of one cell written at the end of the next: `b := append([]T{}, ..); b[i] = v`. The slice is the call's own behind it. -/
theorem VWp.bornSet {P : Program} {τ : TT} {F : Env} {s : St} {Q : Exit → St → Prop} (hτ : TTOk P τ) {n : Nat} (hF : F.n = n) {id id2 : Nat} {l l3 : List Oper} (m : Nat) (hd : dstB n l = true) (hd3 : dstB n l3 = true) (ks ks2 os2 : List Nat) (x d : Nat)
    {tb ti tx dp : Nat} {T U E : TypeId} {ki : IntKind} {rows : List (List V)} {idx : Nat} {val : V} {y : Code} {ty1 ty2 : TypeId} {ps1 ps2 : String} {af1 af2 : Array Edge}
    (h7 : l3[m]? = some ⟨some dp, .indexAddr T (.tmp tb) (.tmp ti), ty1, ps1, af1, none⟩) (h8 : l3[m + 1]? = some ⟨none, .store U (.tmp dp) (.tmp tx), ty2, ps2, af2, none⟩) (h9 : l3.length = m + 2)
    {tiT te tu : TI} (hT : τ T = some tiT) (hTk : tiT.k = .slc E) (hE : τ E = some te) (hEs : te.size = 1) (hU : τ U = some tu) (hUs : tu.size = 1)
    (hnd : noDst ks2 (l ++ l3) = true) (hxd : dp ≠ x) (hxt : dp ≠ tx) (hs0 : s.o d = none) (hdn : d < 1000000) (hflat : ∀ v ∈ rows.flatten, flatV v = true) (hfv : flatV val = true) (hidx : idx < rows.length)
    (h1 : okT (lko []) (keepT s ks) ∧ vops P τ .no .none l.toArray l (St.of (keepT s ks) []) (fun s1 => vops P τ .no .none l3.toArray (l3.take m) s1 (fun s2 =>
      s2.t x = .own d rows.length ∧ s2.o d = some (.arr 1 E rows) ∧ s2.t tb = .own d rows.length ∧ s2.t ti = .int ki (idx : Int) ∧ s2.t tx = val)))
    (h2 : okT (lko ((d, .arr 1 E (rows.set idx [val])) :: keepO s os2)) ((x, .own d rows.length) :: keepT s ks2) ∧ okO (lko ((d, .arr 1 E (rows.set idx [val])) :: keepO s os2)) ((d, .arr 1 E (rows.set idx [val])) :: keepO s os2) ∧
      VWp P F y Q (St.of ((x, .own d rows.length) :: keepT s ks2) ((d, .arr 1 E (rows.set idx [val])) :: keepO s os2))) :
    VWp P F (.seq (.region id l.toArray false) (.seq (.region id2 l3.toArray false) y)) Q s := fun β a W hs => by
  obtain ⟨h1a, h1b⟩ := h1
  obtain ⟨h2a, h2b, h2c⟩ := h2
  obtain ⟨F', hFn, hFw, hFL, hsim⟩ := fresh_sim hs ks h1a
  have dstF : ∀ {l : List Oper}, dstB n l = true → ∀ o ∈ l, ∀ i, o.dst = some i → i < F'.n := fun {l} hd o ho i hi => by
    have hd' : dstB F'.n l = true := by rw [hFn, hF]; exact hd
    have := List.all_eq_true.1 (dstB_all hd') o ho
    rw [hi] at this; simpa using this
  have nd : ∀ o ∈ l ++ l3, ∀ i, i ∈ ks2 → o.dst ≠ some i := fun o ho i hi e => by
    have := List.all_eq_true.1 hnd o ho
    rw [e] at this
    simp only [Bool.not_eq_true', List.contains_eq_mem, decide_eq_false_iff_not] at this
    exact this hi
  have hsplit : l3 = l3.take m ++ [⟨some dp, .indexAddr T (.tmp tb) (.tmp ti), ty1, ps1, af1, none⟩, ⟨none, .store U (.tmp dp) (.tmp tx), ty2, ps2, af2, none⟩] := by
    obtain ⟨hm1, e1⟩ := List.getElem?_eq_some_iff.1 h7
    obtain ⟨hm2, e2⟩ := List.getElem?_eq_some_iff.1 h8
    conv => lhs; rw [← List.take_append_drop m l3]
    rw [List.drop_eq_getElem_cons hm1, e1, List.drop_eq_getElem_cons hm2, e2, List.drop_of_length_le (by omega)]
  have key := vops_ok (F := F') (P := P) (κ := .none) (cb := .no) (ops := l.toArray) (Q := fun e a' W' => e = .normal ∧ ∃ s1 β1, (vops P τ .no .none l3.toArray (l3.take m) s1 (fun s2 =>
      s2.t x = .own d rows.length ∧ s2.o d = some (.arr 1 E rows) ∧ s2.t tb = .own d rows.length ∧ s2.t ti = .int ki (idx : Int) ∧ s2.t tx = val)) ∧ Sim F' β1 s1 a' W') hτ (fun s' β' a' W' hk hs' => ⟨rfl, s', β', hk, hs'⟩) l (dstF hd) hsim h1b
  refine wp_seq (wp_region_lit (wpList_to (fun i => i ∈ ks2) a ?_ (fun ch a w q => by cases q.1) (fun q => by obtain ⟨a1, w1, q, _⟩ := q; cases q) l a W (fun o ho i hi => nd o (List.mem_append_left _ ho) i hi) (fun i _ => rfl) key))
  rintro a1 W1 ⟨_, s1, β1, h1c, hs1⟩ hkeep1
  have key2 := vops_ok (F := F') (P := P) (κ := .none) (cb := .no) (ops := l3.toArray) (Q := fun e a' W' => e = .normal ∧ ∃ s2 β2, (s2.t x = .own d rows.length ∧ s2.o d = some (.arr 1 E rows) ∧ s2.t tb = .own d rows.length ∧ s2.t ti = .int ki (idx : Int) ∧ s2.t tx = val) ∧ Sim F' β2 s2 a' W')
    hτ (fun s' β' a' W' hk hs' => ⟨rfl, s', β', hk, hs'⟩) (l3.take m) (fun o ho => dstF hd3 o (List.mem_of_mem_take ho)) hs1 h1c
  refine wp_seq (wp_region_lit ?_)
  refine Eq.mpr (congrFun (congrFun (congrArg (wpList P l3.toArray _) hsplit) a1) W1) (wpList_app _ _ _ _ ?_)
  refine wpList_to (fun i => i ∈ ks2) a ?_ (fun ch a w q => by cases q.1) (fun q => by obtain ⟨a1, w1, q, _⟩ := q; cases q) _ a1 W1 (fun o ho i hi => nd o (List.mem_append_right _ (List.mem_of_mem_take ho)) i hi) hkeep1 key2
  rintro a2 W2 ⟨_, s2, β2, ⟨hx, ho, htb, hti, htx⟩, hs2⟩ hkeep2
  have hW2 : Chg [] W W2 := by have := hs2.objs.chg; rw [hFw, hFL] at this; exact this
  obtain ⟨hk1, hcl, hloc, xs, hown, hone, hrep⟩ := hs2.objs.arr d 1 E rows ho
  have ownV : ∀ {j}, s2.t j = .own d rows.length → a2.tmps.getD j undef = β2.sv d := fun {j} hj => by
    have := hs2.frame j
    rw [hj] at this
    exact this.2 _ (by show svOf _ _ d _ = _; unfold svOf; simp only [ho, if_true])
  have hvx := ownV hx
  have hvb := ownV htb
  have hvi : a2.tmps.getD ti undef = .int ki (idx : Int) := by have := hs2.frame ti; rw [hti] at this; exact this
  have hvt := hs2.frame tx
  rw [htx] at hvt
  have hcv : val.cells? = some [val] := by cases val <;> first | rfl | cases hfv
  obtain ⟨c1, c2⟩ := cells_rep hcv hvt
  generalize hu : a2.tmps.getD tx undef = u at hvt c1 c2
  rcases hown.2 with ⟨hv, h0⟩ | ⟨g, cap, cur, hsv, _, hg, hnc, hcm, hcs, htake⟩
  · omega
  have hge : W.heap.size ≤ g := by
    rcases hloc g (by rw [hsv]; rfl) with q | q
    · rw [hFL] at q; cases q
    · rw [hFw] at q; exact q
  have hxl : xs.length = rows.length * 1 := hown.1
  have hcur : cur = (xs ++ cur.toList.drop (rows.length * 1)).toArray := by
    rw [← htake, List.take_append_drop, Array.toArray_toList]
  generalize cur.toList.drop (rows.length * 1) = rest at hcur
  subst hcur
  have hl1 : u.cells.toList.length = 1 := by have := RepL.length c1; simpa using this
  have hst := run_storeCells_at P g idx E u.cells.toList 0 (xs ++ rest).toArray W2 hg (by simp at hl1 ⊢; omega) c2
  simp only [Nat.add_zero] at hst
  have hcells : ((xs ++ rest).toArray.toList.take idx ++ u.cells.toList ++ (xs ++ rest).toArray.toList.drop (idx + u.cells.toList.length)) = spl1 idx u.cells.toList xs ++ rest := by
    simp only [List.toList_toArray]
    rw [List.take_append_of_le_length (by omega), List.drop_append_of_le_length (by omega), spl1_eq _ _ _ (by omega)]
    simp only [List.append_assoc]
  rw [hcells] at hst
  have hwr : (W2.setRow g (spl1 idx u.cells.toList xs ++ rest).toArray).heap[g]? = some (.cells (spl1 idx u.cells.toList xs ++ rest).toArray E (0, 0)) := setRow_heap W2 _ _ _ _ _ hg
  have hW3 : Chg [] W (W2.setRow g (spl1 idx u.cells.toList xs ++ rest).toArray) := hW2.toL (chg_setRow [g] W2 g _ (.inl List.mem_cons_self)) (.inr hge)
  generalize W2.setRow g (spl1 idx u.cells.toList xs ++ rest).toArray = W3 at hst hwr hW3
  have hsl : (spl1 idx u.cells.toList xs).length = xs.length := spl1_len _ _ _ (by omega)
  have hown3 : W3.ownsRow W.heap.size E 1 (β2.sv d) (rows.set idx [val]).length (spl1 idx u.cells.toList xs) := by
    rw [List.length_set]
    refine ⟨by rw [hsl]; exact hxl, .inr ⟨g, cap, _, hsv, hge, hwr, hnc, hcm, ?_, ?_⟩⟩
    · rw [← hcs]; simp [hsl]
    · simp only [List.toList_toArray]
      rw [List.take_append_of_le_length (by omega), List.take_of_length_le (by omega)]
  have hset : (rows.set idx [val]).flatten = spl1 idx [val] rows.flatten := set_flat1 val rows idx hk1 hidx
  have hfl : ∀ v ∈ (rows.set idx [val]).flatten, flatV v = true := fun v hv => by
    rw [hset] at hv
    rcases spl1_mem hv with q | q
    · rw [List.mem_singleton] at q; rw [q]; exact hfv
    · exact hflat v q
  have h4 := hs.newArr (W' := W3) hs0 hdn 1 E (rows := rows.set idx [val]) (xs := spl1 idx u.cells.toList xs) (v := β2.sv d)
    (fun r hr => by rcases List.mem_or_eq_of_mem_set hr with q | q; exact hk1 r q; rw [q]; rfl)
    (fun r hr => by
      rcases List.mem_or_eq_of_mem_set hr with q | q
      · exact hcl r q
      · rw [q]; cases val <;> first | rfl | cases hfv)
    (fun w hw => by rcases spl1_mem hw with q | q; exact c2 w q; exact hone w q)
    (flat_repL (S := sit F' β2 s2.o W2) hfl (by rw [hset]; exact RepL.spl c1 hrep)) hW3 hown3 (fun b hb => by rw [hsv] at hb; cases hb; exact hge)
  have hlo : ∀ o, lko ((d, .arr 1 E (rows.set idx [val])) :: keepO s os2) o = none ∨ lko ((d, .arr 1 E (rows.set idx [val])) :: keepO s os2) o = (up s.o d (some (.arr 1 E (rows.set idx [val])))) o := fun o => by
    show (if o = d then _ else _) = _ ∨ (if o = d then _ else _) = _
    by_cases e : o = d
    · subst e; rw [if_pos rfl, up_same]; exact .inr rfl
    · rw [if_neg e, up_other _ _ e]; exact lko_keep
  -- the last two operations
  have hrun : (Instr.indexAt T (.slice (some ⟨g, 0, none⟩) rows.length cap) (.int ki (idx : Int))).run P W2 = .ok (.pointer (some ⟨g, idx, none⟩)) W2 := by
    have hsz := (hτ E te hE).sizeOf W2
    have hkk := (hτ T tiT hT).k
    rw [hTk] at hkk
    simp [Instr.indexAt, run_underlying hkk, asIntOf, hsz, hEs, Addr.add_lit]
    omega
  have hdput : ∀ i, i ≠ dp → (a2.put (some dp) (.pointer (some ⟨g, idx, none⟩))).tmps.getD i undef = a2.tmps.getD i undef := fun i hi => by
    simp [Act.put, Array.getElem?_setIfInBounds, Ne.symm hi]
  have hdp : dp < a2.tmps.size := by
    rw [hs2.size, hFn, hF]
    have := List.all_eq_true.1 (dstB_all hd3) _ (List.mem_of_getElem? h7)
    simpa using this
  have hpd : (a2.put (some dp) (.pointer (some ⟨g, idx, none⟩))).tmps.getD dp undef = .pointer (some ⟨g, idx, none⟩) := by
    simp [Act.put, Array.getElem?_setIfInBounds, hdp]
  show wpList P l3.toArray _ [_, _] a2 W2
  unfold wpList
  rw [if_pos (show Region.wanted _ _ = true from rfl)]
  refine .inl ?_
  unfold Oper.wp
  rw [show execOp a2.eval ⟨some dp, .indexAddr T (.tmp tb) (.tmp ti), ty1, ps1, af1, none⟩ = (do pure (.value (← Instr.indexAt T (a2.tmps.getD tb undef) (a2.tmps.getD ti undef)))) from rfl, hvb, hvi, hsv]
  simp only [Sem.run_bind, hrun, Result.andThen_ok, Sem.run_pure, Oper.upon]
  unfold wpList
  rw [if_pos (show Region.wanted _ _ = true from rfl)]
  refine .inl ?_
  unfold Oper.wp
  have hst2 : (Instr.storeAt U (.pointer (some ⟨g, idx, none⟩)) u).run P W2 = .ok () W3 := by
    have hsz := (hτ U tu hU).sizeOf W2
    have hcz : u.cells.size = 1 := by rw [← hl1]; simp
    simp only [Instr.storeAt, Instr.sureAddr, storeVar, Sem.run_bind, Sem.run_pure, Result.andThen_ok, hsz]
    rw [if_neg (by rw [hcz, hUs]; simp)]
    exact hst
  have e1 : (a2.put (some dp) (.pointer (some ⟨g, idx, none⟩))).eval (.tmp dp) = .pointer (some ⟨g, idx, none⟩) := hpd
  have e2 : (a2.put (some dp) (.pointer (some ⟨g, idx, none⟩))).eval (.tmp tx) = u := by rw [← hu]; exact hdput tx (Ne.symm hxt)
  unfold execOp
  simp only [e1, e2, Sem.run_bind, hst2, Result.andThen_ok, Sem.run_pure, Oper.upon]
  unfold wpList
  refine h2c ⟨up β.pb d 0, up β.sv d (β2.sv d)⟩ _ W3 ⟨h4.objs.less hlo, closed_of h2a h2b, fun i => ?_, hs2.defers, by simp [Act.put, hs2.size, hFn]⟩
  show Rep _ (if i = x then _ else _) _
  by_cases e : i = x
  · subst e
    rw [if_pos rfl]
    have e3 : ((a2.put (some dp) (.pointer (some ⟨g, idx, none⟩))).put none undef).tmps.getD i undef = β2.sv d := (hdput i (Ne.symm hxd)).trans hvx
    refine ⟨⟨_, _, e3.trans hsv⟩, fun w hw => ?_⟩
    have hw : svOf _ _ d rows.length = some w := hw
    unfold svOf at hw
    rw [show (St.of ((i, V.own d rows.length) :: keepT s ks2) ((d, Ob.arr 1 E (rows.set idx [val])) :: keepO s os2)).o d = some (.arr 1 E (rows.set idx [val])) from if_pos rfl] at hw
    simp only [List.length_set, if_true, up_same, Option.some.injEq] at hw
    exact e3.trans hw
  · rw [if_neg e]
    rcases lk_keep2 s ks2 i with e2 | ⟨e2, e3⟩
    · rw [e2]; trivial
    · have hid : i ≠ dp := fun q => nd _ (List.mem_append_right _ (List.mem_of_getElem? h7)) i e2 (by rw [q])
      rw [e3, show ((a2.put (some dp) (.pointer (some ⟨g, idx, none⟩))).put none undef).tmps.getD i undef = a.tmps.getD i undef from (hdput i hid).trans (hkeep2 i e2)]
      exact Rep.less hlo (h4.frame i)
end Go.Proofs.YtjedikaidbobdaaGreatDoor
