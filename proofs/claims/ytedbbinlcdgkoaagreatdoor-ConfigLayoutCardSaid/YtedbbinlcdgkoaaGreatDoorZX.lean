import Derived.Test.YtedbbinlcdgkoaaGreatDoorVZ
/- The value machine: a stretch of code told by hand that writes a slice object whose cells may be written; a region that only looks at it. No program in sight. -/
namespace Go.Proofs.YtedbbinlcdgkoaaGreatDoor
open Go.RowKit
set_option linter.unusedVariables false
set_option linter.unusedSimpArgs false
theorem lko_up {s : St} {o : Nat} {x : Ob} {os : List Nat} (i : Nat) : lko ((o, x) :: keepO s os) i = none ∨ lko ((o, x) :: keepO s os) i = (up s.o o (some x)) i := by
  show (if i = o then _ else _) = _ ∨ (if i = o then _ else _) = _
  by_cases e : i = o
  · subst e; rw [if_pos rfl, up_same]; exact .inr rfl
  · rw [if_neg e, up_other _ _ e]; exact lko_keep
theorem VWp.byW {P : Program} {F : Env} {s : St} {Q : Exit → St → Prop} {c : Code} (o x k : Nat) (ks os : List Nat) {E : TypeId} {rows : List (List V)} (rows' : List (List V)) (hx : s.t x = .own o rows.length) (ho : s.o o = some (.arr k E rows)) (hw : wrt o = true) (hlen : rows.length ≤ rows'.length)
    (hk : ∀ r ∈ rows', r.length = k) (hcl : cleanR rows')
    (h : ∀ β a W, Sim F β s a W → ∀ xs, W.ownsRow 0 E k (a.tmps.getD x undef) rows.length xs → (∀ u ∈ xs, u.oneCell' = true) → RepL (sit F β s.o W) rows.flatten xs →
      c.wp P (fun e a' W' => e = .normal ∧ a'.tmps.size = a.tmps.size ∧ a'.defers = a.defers ∧ (∀ i ∈ ks, a'.tmps.getD i undef = a.tmps.getD i undef) ∧
        ∃ xs', W'.ownsRow 0 E k (a'.tmps.getD x undef) rows'.length xs' ∧ (∀ u ∈ xs', u.oneCell' = true) ∧ (∀ S, RepL S rows'.flatten xs') ∧ Chg (own (a.tmps.getD x undef)) W W' ∧
          (∀ b, (a'.tmps.getD x undef).ownBlock = some b → (a.tmps.getD x undef).ownBlock = some b ∨ W.heap.size ≤ b) ∧ (rows'.length = rows.length → a'.tmps.getD x undef = a.tmps.getD x undef)) a W)
    (h1 : okT (lko ((o, .arr k E rows') :: keepO s os)) ((x, .own o rows'.length) :: keepT s ks) ∧ okO (lko ((o, .arr k E rows') :: keepO s os)) ((o, .arr k E rows') :: keepO s os))
    (hq : Q .normal (St.of ((x, .own o rows'.length) :: keepT s ks) ((o, .arr k E rows') :: keepO s os))) : VWp P F c Q s := fun β a W hs => by
  obtain ⟨hk0, hcl0, hloc, xs, hown, hone, hrep⟩ := hs.objs.arr o k E rows ho
  have hfx := hs.frame x
  rw [hx] at hfx
  have hv : a.tmps.getD x undef = β.sv o := hfx.2 _ (by show svOf _ _ o _ = _; unfold svOf; simp only [ho, if_true])
  rw [← hv] at hown
  refine Go.wp_mono (h β a W hs xs hown hone hrep) ?_
  rintro e a' W' ⟨rfl, hsz, hdf, hkk, xs', hown', hone', hrep', hC, hwh, hsame⟩
  generalize hv' : a'.tmps.getD x undef = v' at hown' hwh hsame
  rw [hv] at hC hwh hsame
  obtain ⟨β', hsv, hS⟩ : ∃ β', β'.sv o = v' ∧ Sim F β' ⟨s.t, up s.o o (some (.arr k E rows'))⟩ a W' := by
    rcases Nat.eq_or_lt_of_le hlen with e | e
    · have hb := hsame e.symm
      subst hb
      exact ⟨β, rfl, hs.fill ho e.symm hk hcl (fun p _ => .inr (.inr hw)) hC (fun b p c _ g _ => absurd (.inr (.inr hw)) g) hown' hone' (hrep' _)⟩
    · exact ⟨⟨β.pb, up β.sv o v'⟩, up_same _ _ _, hs.regrow ho hw e hk hcl hC hwh hown' hone' (hrep' _)⟩
  refine ⟨_, β', hq, ⟨hS.objs.less lko_up, closed_of h1.1 h1.2, fun i => ?_, by rw [hdf]; exact hS.defers, by rw [hsz]; exact hS.size⟩⟩
  show Rep _ (if i = x then _ else _) _
  by_cases e : i = x
  · subst e
    rw [if_pos rfl, hv']
    refine ⟨?_, fun u hu => ?_⟩
    · rcases hown'.2 with ⟨z, z0⟩ | ⟨g, cap, cur, z, _⟩
      · exact ⟨none, 0, by rw [z, z0]⟩
      · exact ⟨_, cap, z⟩
    · have hu : svOf _ _ o _ = some u := hu
      have ho2 : lko ((o, Ob.arr k E rows') :: keepO s os) o = some (.arr k E rows') := if_pos rfl
      unfold svOf at hu
      simp only [St.of, ho2, if_true] at hu
      injection hu with hu
      rw [← hu, hsv]
  · rw [if_neg e]
    rcases lk_keep2 s ks i with z | ⟨z1, z⟩
    · rw [z]; trivial
    · rw [z, hkk i z1]; exact (hS.frame i).less lko_up
theorem peek_sim {F : Env} {β : Bet} {s : St} {a : Act} {W : World} (hs : Sim F β s a W) {o x k : Nat} {E : TypeId} {rows : List (List V)} (hx : s.t x = .own o rows.length) (ho : s.o o = some (.arr k E rows)) (hne : rows ≠ []) (hflat : ∀ v ∈ rows.flatten, flatV v = true) (ks : List Nat) (h1a : okT (lko []) (keepT s ks)) :
    ∃ F' : Env, F'.n = F.n ∧ F'.w0 = W ∧ F'.L = [] ∧ F'.B = F.B ∧ Sim F' β (St.of ((x, .sl k rows) :: keepT s ks) []) a W := by
  obtain ⟨hk0, hcl0, hloc, xs, hown, hone, hrep⟩ := hs.objs.arr o k E rows ho
  have hfx := hs.frame x
  rw [hx] at hfx
  have hv : a.tmps.getD x undef = β.sv o := hfx.2 _ (by show svOf _ _ o _ = _; unfold svOf; simp only [ho, if_true])
  obtain ⟨g, cap, rest, hsv, hnc, hcm, _, hg, hxl⟩ := own_hs hown (by cases rows with | nil => exact absurd rfl hne | cons => simp)
  have hbo : blk β s.o o = some g := by unfold blk; simp only [ho]; rw [hsv]; rfl
  let M' : Nat → Nat → Prop := fun b p => Mut F β s.o b p ∧ b ≠ g
  let F' : Env := ⟨W, [], M', F.n, lko [], β, gZ, F.B⟩
  have hmut0 : ∀ b p, Mut F' β (lko []) b p → M' b p := fun b p => by
    rintro (q | ⟨o, T, c, q, _⟩ | ⟨o, k, E, rows, q, _⟩)
    · exact q
    · cases q
    · cases q
  have hMlt : ∀ b p, Mut F β s.o b p → b < W.heap.size := fun b p => by
    rintro (q | ⟨o', T, c, q1, q2⟩ | ⟨o', k', E', rows', q1, q2, _⟩)
    · have := hs.objs.m0 b p q; have := hs.objs.chg.size; omega
    · exact hs.objs.lt (o := o') (by unfold blk; simp only [q1, q2])
    · exact hs.objs.lt (o := o') (by unfold blk; simp only [q1]; exact q2)
  have hgn := hs.objs.base.gcNow
  refine ⟨F', rfl, rfl, rfl, rfl, ⟨⟨⟨Chg.refl _ _, fun b p q => hMlt b p q.1, (fun o b p q => by cases q), (fun o q => absurd rfl q), hs.objs.base.nn, (fun o => by show Kin _ _ _ none _; unfold Kin; trivial), (fun b p c q hc => ⟨fun m => hgn.1 b p q (hmut0 b p m).1, hc⟩), ⟨fun b p q => q, hgn.2⟩, (fun o q => by cases q), fun q => by cases q⟩, (fun o T c q => by cases q), (fun o k E rows q => by cases q), (fun o o' b q => by cases q), (fun o es q => by cases q)⟩, ⟨fun i r hr => ?_, fun o T c q => by cases q⟩, fun i => ?_, hs.defers, hs.size⟩⟩
  · have hr : r ∈ (if i = x then V.sl k rows else lk (keepT s ks) i).refs := hr
    by_cases e : i = x
    · rw [if_pos e] at hr; cases hr
    · rw [if_neg e] at hr
      have hcl : ∀ i r, r ∈ (lk (keepT s ks) i).refs → RefOk (lko []) r := (closed_of (os := []) h1a (by unfold okO; trivial)).t
      exact hcl i r hr
  · show Rep _ (if i = x then _ else _) _
    by_cases e : i = x
    · subst e
      rw [if_pos rfl, hv, hsv]
      refine ⟨some ⟨g, 0, none⟩, cap, rfl, hnc, hcm, (fun q => by cases q), hk0, hcl0, fun y hy => ?_⟩
      injection hy with hy; subst hy
      refine ⟨fun _ => rfl, AtR.flat.2 (AtL.of_get fun j hj => ?_)⟩
      obtain ⟨u, hu, hru⟩ := RepL.get (flat_repL (S' := sit F' β (lko []) W) hflat hrep) j hj
      refine ⟨fun m => (hmut0 _ _ m).2 rfl, u, ?_, hone u (List.mem_of_getElem? hu), hru⟩
      show W.cell? ⟨g, 0 + j, none⟩ = some u
      rw [Nat.zero_add, cell_of_row _ _ j _ _ _ hg, List.getElem?_toArray, List.getElem?_append_left (List.getElem?_eq_some_iff.1 hu).1]; exact hu
    · rw [if_neg e]
      rcases lk_keep2 s ks i with z | ⟨z1, z⟩
      · rw [z]; trivial
      · rw [z]
        have hr0 : ∀ r ∈ (s.t i).refs, False := fun r hr => by
          have hcl : ∀ i r, r ∈ (lk (keepT s ks) i).refs → RefOk (lko []) r := (closed_of (os := []) h1a (by unfold okO; trivial)).t
          have := hcl i r (by rw [z]; exact hr)
          obtain ⟨o, _ | m⟩ := r
          · obtain ⟨y, q, _⟩ := this; cases q
          · obtain ⟨_, _, _, q, _⟩ := this; cases q
        exact Rep.mono (S := sit F β s.o W) (S' := sit F' β (lko []) W) (fun b p c g1 g2 => ⟨fun q => g1 (hmut0 b p q).1, g2⟩) _ _ (fun r hr => absurd (hr0 r hr) id) (hs.frame i)
theorem VWp.peek {P : Program} {τ : TT} {F : Env} {s : St} {Q : Exit → St → Prop} (hτ : TTOk P τ) {n : Nat} (hF : F.n = n) {id : Nat} {l : List Oper} (hd : dstB n l = true) (o x k : Nat) (ks ks2 os2 : List Nat) (D : List (Nat × V)) {E : TypeId} {rows : List (List V)}
    (hx : s.t x = .own o rows.length) (ho : s.o o = some (.arr k E rows)) (hne : rows ≠ []) (hflat : ∀ v ∈ rows.flatten, flatV v = true) (hD : ∀ p ∈ D, flatA p.2 = true) (hnd : noDst ks2 l = true)
    (h1 : okT (lko []) (keepT s ks) ∧ vops P τ .no .none l.toArray l (St.of ((x, .sl k rows) :: keepT s ks) []) (fun s1 => ∀ p ∈ D, s1.t p.1 = p.2))
    (h2 : okT (lko (keepO s os2)) (keepT s ks2) ∧ okO (lko (keepO s os2)) (keepO s os2)) (hq : Q .normal (St.of (D ++ keepT s ks2) (keepO s os2))) : VWp P F (.region id l.toArray false) Q s := fun β a W hs => by
  obtain ⟨h1a, h1b⟩ := h1
  obtain ⟨F', hFn, hFw, hFL, hFB, hsim⟩ := peek_sim hs hx ho hne hflat ks h1a
  have hd2 : ∀ o ∈ l, ∀ i, o.dst = some i → i < F'.n := fun o ho i hi => by
    have hd' : dstB F'.n l = true := by rw [hFn, hF]; exact hd
    have := List.all_eq_true.1 (dstB_all hd') o ho
    rw [hi] at this; simpa using this
  have key := vops_ok (F := F') (P := P) (κ := .none) (cb := .no) (ops := l.toArray) (Q := fun e a' W' => e = .normal ∧ ∃ s1 β1, (∀ p ∈ D, s1.t p.1 = p.2) ∧ Sim F' β1 s1 a' W') hτ (fun s' β' a' W' hk hs' => ⟨rfl, s', β', hk, hs'⟩) l hd2 hsim h1b
  refine wp_region_lit (wpList_to (fun i => i ∈ ks2) a ?_ (fun ch a w q => by cases q.1) (fun q => by obtain ⟨a1, w1, q, _⟩ := q; cases q) l a W (fun o ho i hi e => ?_) (fun i _ => rfl) key)
  · rintro a1 W1 ⟨_, s1, β1, hDs, hs1⟩ hkeep
    have hW : Chg [] W W1 := by have := hs1.objs.chg; rw [hFw, hFL] at this; exact this
    have hcl2 : Closed (St.of (keepT s ks2) (keepO s os2)) := closed_of h2.1 h2.2
    have hw := (hs.less (less_keep s ks2 os2) hcl2).world hW
    refine ⟨_, β, hq, ⟨hw.objs, ⟨fun i r hr => ?_, hcl2.o⟩, fun i => ?_, by rw [← hFB]; exact hs1.defers, by rw [hs1.size, hFn]⟩⟩
    · have hr : r ∈ (lk (D ++ keepT s ks2) i).refs := hr
      rcases lk_app (keepT s ks2) i D with ⟨v, q1, q2⟩ | q
      · rw [q2, flatA_refs (hD _ q1)] at hr; cases hr
      · rw [q] at hr; exact hcl2.t i r hr
    · show Rep _ (lk (D ++ keepT s ks2) i) _
      rcases lk_app (keepT s ks2) i D with ⟨v, q1, q2⟩ | q
      · rw [q2]
        have := hs1.frame i
        rw [hDs _ q1] at this
        exact flatA_rep (hD _ q1) this
      · rw [q]
        have hz := hw.frame i
        have hz : Rep _ (lk (keepT s ks2) i) _ := hz
        rcases lk_keep2 s ks2 i with z | ⟨z1, z⟩
        · rw [z]; trivial
        · rw [hkeep i z1]; exact hz
  · have := List.all_eq_true.1 hnd o ho
    rw [e] at this
    simp only [Bool.not_eq_true', List.contains_eq_mem, decide_eq_false_iff_not] at this
    exact this hi
theorem lend_sim {F : Env} {β : Bet} {s : St} {a : Act} {W : World} (hs : Sim F β s a W) {o x k : Nat} {E : TypeId} {rows : List (List V)} (hx : s.t x = .own o rows.length) (ho : s.o o = some (.arr k E rows)) (hw : wrt o = true) (hflat : ∀ v ∈ rows.flatten, flatV v = true) (ks : List Nat) (h1a : okT (lko []) (keepT s ks)) :
    ∃ F' β', F'.n = F.n ∧ F'.w0 = W ∧ F'.L = own (β.sv o) ∧ F'.B = F.B ∧ F'.o0 1000010 = some (.arr k E rows) ∧ F'.β0 = β' ∧ β'.sv 1000010 = β.sv o ∧ Sim F' β' (St.of ((x, .own 1000010 rows.length) :: keepT s ks) [(1000010, .arr k E rows)]) a W := by
  obtain ⟨hk0, hcl0, hloc, xs, hown, hone, hrep⟩ := hs.objs.arr o k E rows ho
  have hfx := hs.frame x
  rw [hx] at hfx
  have hv : a.tmps.getD x undef = β.sv o := hfx.2 _ (by show svOf _ _ o _ = _; unfold svOf; simp only [ho, if_true])
  have hbo : ∀ b, (β.sv o).ownBlock = some b → blk β s.o o = some b := fun b hb => by unfold blk; simp only [ho]; exact hb
  have hgm : ∀ b p, (β.sv o).ownBlock = some b → Mut F β s.o b p := fun b p hb => .inr (.inr ⟨o, k, E, rows, ho, hb, .inr (.inr hw)⟩)
  let M' : Nat → Nat → Prop := fun b p => Mut F β s.o b p ∧ (β.sv o).ownBlock ≠ some b
  let β' : Bet := ⟨β.pb, up β.sv 1000010 (β.sv o)⟩
  let F' : Env := ⟨W, own (β.sv o), M', F.n, lko [(1000010, .arr k E rows)], β', gZ, F.B⟩
  have hsv' : β'.sv 1000010 = β.sv o := by show up β.sv 1000010 (β.sv o) 1000010 = _; exact up_same _ _ _
  have hlk : ∀ {i y}, lko [(1000010, Ob.arr k E rows)] i = some y → i = 1000010 ∧ y = .arr k E rows := fun {i y} q => by
    unfold lko at q
    by_cases e : i = 1000010
    · rw [if_pos e] at q; exact ⟨e, (Option.some.inj q).symm⟩
    · rw [if_neg e] at q; cases q
  have hlk1 : lko [(1000010, Ob.arr k E rows)] 1000010 = some (.arr k E rows) := if_pos rfl
  have hblk : ∀ {i b}, blk β' (lko [(1000010, Ob.arr k E rows)]) i = some b → i = 1000010 ∧ (β.sv o).ownBlock = some b := fun {i b} q => by
    unfold blk at q
    split at q
    · rename_i T c h; cases (hlk h).2
    · rename_i k' E' r' h
      obtain ⟨e, _⟩ := hlk h
      subst e
      rw [hsv'] at q; exact ⟨rfl, q⟩
    · rename_i es h; cases (hlk h).2
    · cases q
  have hmut0 : ∀ b p, Mut F' β' (lko [(1000010, Ob.arr k E rows)]) b p → M' b p ∨ ((β.sv o).ownBlock = some b ∧ rows.length * k ≤ p) := fun b p => by
    rintro (q | ⟨i, T, c, q, _⟩ | ⟨i, k', E', rows', q, q2, q3⟩)
    · exact .inl q
    · cases (hlk q).2
    · obtain ⟨e1, e2⟩ := hlk q
      subst e1; injection e2 with e2 e3 e4; subst e2; subst e3; subst e4
      rw [hsv'] at q2
      refine .inr ⟨q2, ?_⟩
      rcases q3 with q3 | ⟨q3, _⟩ | q3
      · exact q3
      · exact absurd q3 (by decide)
      · exact absurd q3 (by decide)
  have hMlt : ∀ b p, Mut F β s.o b p → b < W.heap.size := fun b p => by
    rintro (q | ⟨o', T, c, q1, q2⟩ | ⟨o', k', E', rows', q1, q2, _⟩)
    · have := hs.objs.m0 b p q; have := hs.objs.chg.size; omega
    · exact hs.objs.lt (o := o') (by unfold blk; simp only [q1, q2])
    · exact hs.objs.lt (o := o') (by unfold blk; simp only [q1]; exact q2)
  have hgn := hs.objs.base.gcNow
  have hRef : ∀ q, q ∈ ([] : List (Nat × Option Nat)) → False := fun q h => by cases h
  have hcl1 : ∀ i r, r ∈ (lk (keepT s ks) i).refs → False := fun i r hr => by
    have := (closed_of (os := []) h1a (by unfold okO; trivial)).t i r hr
    obtain ⟨o, _ | m⟩ := r
    · obtain ⟨y, q, _⟩ := this; cases q
    · obtain ⟨_, _, _, q, _⟩ := this; cases q
  refine ⟨F', β', rfl, rfl, rfl, rfl, hlk1, rfl, hsv', ⟨⟨⟨Chg.refl _ _, fun b p q => hMlt b p q.1, (fun i b p q m => m.2 (hblk q).2), (fun i q => ?_), hs.objs.base.nn, (fun i => ?_), (fun b p c q hc => ⟨fun m => ?_, hc⟩), ⟨fun b p q => q, hgn.2⟩, (fun i q => hs.objs.base.tab.1 o (hbo _ (hblk q).2)), fun q => ?_⟩, (fun i T c q => by cases (hlk q).2), (fun i k' E' r' q => ?_), (fun i i' b q1 q2 => by rw [(hblk q1).1, (hblk q2).1]), (fun i es q => by cases (hlk q).2)⟩, ⟨fun i r hr => ?_, fun i T c q => by cases (hlk q).2⟩, fun i => ?_, hs.defers, hs.size⟩⟩
  · cases hq : lko [(1000010, Ob.arr k E rows)] i with
    | none => exact absurd hq q
    | some y => rw [(hlk hq).1]; decide
  · show Kin β' β' i _ _
    exact Kin.refl _ _ _
  · rcases hmut0 b p m with m | ⟨m, _⟩
    · exact hgn.1 b p q m.1
    · exact hgn.1 b p q (hgm b p m)
  · have q : tB ∈ own (β.sv o) := q
    exact hs.objs.base.tab.1 o (hbo _ (by simpa [own] using q))
  · obtain ⟨e1, e2⟩ := hlk q
    subst e1; injection e2 with e2 e3 e4; subst e2; subst e3; subst e4
    refine ⟨hk0, hcl0, fun b hb => ?_, xs, by rw [hsv']; exact hown, hone, flat_repL hflat hrep⟩
    rw [hsv'] at hb
    exact .inl (by show b ∈ own (β.sv o); simp [own, hb])
  · have hr : r ∈ (if i = x then V.own 1000010 rows.length else lk (keepT s ks) i).refs := hr
    by_cases e : i = x
    · rw [if_pos e] at hr
      have hr : r ∈ [(1000010, some rows.length)] := hr
      rw [List.mem_singleton] at hr; subst hr
      exact ⟨k, E, rows, hlk1, Nat.le_refl _⟩
    · rw [if_neg e] at hr
      exact (hcl1 i r hr).elim
  · show Rep _ (if i = x then _ else _) _
    by_cases e : i = x
    · subst e
      rw [if_pos rfl, hv]
      refine ⟨?_, fun u hu => ?_⟩
      · rcases hown.2 with ⟨z, z0⟩ | ⟨g, cap, cur, z, _⟩
        · exact ⟨none, 0, by rw [z, z0]⟩
        · exact ⟨_, cap, z⟩
      · have hu : svOf β' (lko [(1000010, Ob.arr k E rows)]) 1000010 _ = some u := hu
        unfold svOf at hu
        simp only [hlk1, if_true] at hu
        cases hu
        exact hsv'.symm
    · rw [if_neg e]
      rcases lk_keep2 s ks i with z | ⟨z1, z⟩
      · rw [z]; trivial
      · rw [z]
        have hr0 : ∀ r ∈ (s.t i).refs, False := fun r hr => hcl1 i r (by rw [z]; exact hr)
        exact Rep.mono (S := sit F β s.o W) (S' := sit F' β' (lko [(1000010, Ob.arr k E rows)]) W) (fun b p c g1 g2 => ⟨fun q => by
          rcases hmut0 b p q with m | ⟨m, _⟩
          · exact g1 m.1
          · exact g1 (hgm b p m), g2⟩) _ _ (fun r hr => absurd (hr0 r hr) id) (hs.frame i)
theorem VWp.poke {P : Program} {τ : TT} {F : Env} {s : St} {Q : Exit → St → Prop} (hτ : TTOk P τ) {n : Nat} (hF : F.n = n) {id : Nat} {l : List Oper} (m : Nat) (hd : dstB n l = true) (o x : Nat) (ks ks2 os2 : List Nat)
    {tb ti tx dp : Nat} {T U E : TypeId} {ki : IntKind} {rows : List (List V)} {idx : Nat} {val : V} {ty1 ty2 : TypeId} {ps1 ps2 : String} {af1 af2 : Array Edge}
    (h7 : l[m]? = some ⟨some dp, .indexAddr T (.tmp tb) (.tmp ti), ty1, ps1, af1, none⟩) (h8 : l[m + 1]? = some ⟨none, .store U (.tmp dp) (.tmp tx), ty2, ps2, af2, none⟩) (h9 : l.length = m + 2)
    {tiT te tu : TI} (hT : τ T = some tiT) (hTk : tiT.k = .slc E) (hE : τ E = some te) (hEs : te.size = 1) (hU : τ U = some tu) (hUs : tu.size = 1)
    (hnd : noDst (x :: ks2) l = true) (hxt : dp ≠ tx) (hx : s.t x = .own o rows.length) (ho : s.o o = some (.arr 1 E rows)) (hw : wrt o = true) (hflat : ∀ v ∈ rows.flatten, flatV v = true) (hfv : flatV val = true) (hidx : idx < rows.length)
    (h1 : okT (lko []) (keepT s ks) ∧ vops P τ .no .none l.toArray (l.take m) (St.of ((x, .own 1000010 rows.length) :: keepT s ks) [(1000010, .arr 1 E rows)]) (fun s2 =>
      s2.o 1000010 = some (.arr 1 E rows) ∧ s2.t tb = .own 1000010 rows.length ∧ s2.t ti = .int ki (idx : Int) ∧ s2.t tx = val))
    (h2 : okT (lko ((o, .arr 1 E (rows.set idx [val])) :: keepO s os2)) ((x, .own o rows.length) :: keepT s ks2) ∧ okO (lko ((o, .arr 1 E (rows.set idx [val])) :: keepO s os2)) ((o, .arr 1 E (rows.set idx [val])) :: keepO s os2))
    (hq : Q .normal (St.of ((x, .own o rows.length) :: keepT s ks2) ((o, .arr 1 E (rows.set idx [val])) :: keepO s os2))) :
    VWp P F (.region id l.toArray false) Q s := fun β a W hs => by
  obtain ⟨h1a, h1b⟩ := h1
  obtain ⟨F', β', hFn, hFw, hFL, hFB, hFo, hFβ, hsv', hsim⟩ := lend_sim hs hx ho hw hflat ks h1a
  obtain ⟨hk1, hcl, hloc, xs0, hown0, hone0, hrep0⟩ := hs.objs.arr o 1 E rows ho
  have hfx := hs.frame x
  rw [hx] at hfx
  have hv : a.tmps.getD x undef = β.sv o := hfx.2 _ (by show svOf _ _ o _ = _; unfold svOf; simp only [ho, if_true])
  have dstF : ∀ o ∈ l, ∀ i, o.dst = some i → i < F'.n := fun o ho i hi => by
    have hd' : dstB F'.n l = true := by rw [hFn, hF]; exact hd
    have := List.all_eq_true.1 (dstB_all hd') o ho
    rw [hi] at this; simpa using this
  have nd : ∀ o ∈ l, ∀ i, i ∈ x :: ks2 → o.dst ≠ some i := fun o ho i hi e => by
    have := List.all_eq_true.1 hnd o ho
    rw [e] at this
    simp only [Bool.not_eq_true', List.contains_eq_mem, decide_eq_false_iff_not] at this
    exact this hi
  have hsplit : l = l.take m ++ [⟨some dp, .indexAddr T (.tmp tb) (.tmp ti), ty1, ps1, af1, none⟩, ⟨none, .store U (.tmp dp) (.tmp tx), ty2, ps2, af2, none⟩] := by
    obtain ⟨hm1, e1⟩ := List.getElem?_eq_some_iff.1 h7
    obtain ⟨hm2, e2⟩ := List.getElem?_eq_some_iff.1 h8
    conv => lhs; rw [← List.take_append_drop m l]
    rw [List.drop_eq_getElem_cons hm1, e1, List.drop_eq_getElem_cons hm2, e2, List.drop_of_length_le (by omega)]
  have key2 := vops_ok (F := F') (P := P) (κ := .none) (cb := .no) (ops := l.toArray) (Q := fun e a' W' => e = .normal ∧ ∃ s2 β2, (s2.o 1000010 = some (.arr 1 E rows) ∧ s2.t tb = .own 1000010 rows.length ∧ s2.t ti = .int ki (idx : Int) ∧ s2.t tx = val) ∧ Sim F' β2 s2 a' W')
    hτ (fun s' β' a' W' hk hs' => ⟨rfl, s', β', hk, hs'⟩) (l.take m) (fun o ho => dstF o (List.mem_of_mem_take ho)) hsim h1b
  refine wp_region_lit ?_
  refine Eq.mpr (congrFun (congrFun (congrArg (wpList P l.toArray _) hsplit) a) W) (wpList_app _ _ _ _ ?_)
  refine wpList_to (fun i => i ∈ x :: ks2) a ?_ (fun ch a w q => by cases q.1) (fun q => by obtain ⟨a1, w1, q, _⟩ := q; cases q) _ a W (fun o ho i hi => nd o (List.mem_of_mem_take ho) i hi) (fun i _ => rfl) key2
  rintro a2 W2 ⟨_, s2, β2, ⟨ho2, htb, hti, htx⟩, hs2⟩ hkeep2
  have hW2 : Chg (own (β.sv o)) W W2 := by have := hs2.objs.chg; rw [hFw, hFL] at this; exact this
  have hsv2 : β2.sv 1000010 = β.sv o := by
    have := hs2.objs.base.kin 1000010
    rw [hFo, ho2, hFβ] at this
    exact (this.2.2.2 rfl).trans hsv'
  obtain ⟨_, _, _, xs, hown, hone, hrep⟩ := hs2.objs.arr 1000010 1 E rows ho2
  rw [hsv2] at hown
  have hvb : a2.tmps.getD tb undef = β.sv o := by
    have := hs2.frame tb
    rw [htb] at this
    exact (this.2 _ (by show svOf _ _ 1000010 _ = _; unfold svOf; simp only [ho2, if_true])).trans hsv2
  have hvi : a2.tmps.getD ti undef = .int ki (idx : Int) := by have := hs2.frame ti; rw [hti] at this; exact this
  have hvt := hs2.frame tx
  rw [htx] at hvt
  have hcv : val.cells? = some [val] := by cases val <;> first | rfl | cases hfv
  obtain ⟨c1, c2⟩ := cells_rep hcv hvt
  generalize hu : a2.tmps.getD tx undef = u at hvt c1 c2
  rcases hown.2 with ⟨_, h0⟩ | ⟨g, cap, cur, hsv, _, hg, hnc, hcm, hcs, htake⟩
  · omega
  have hxl : xs.length = rows.length * 1 := hown.1
  have hcur : cur = (xs ++ cur.toList.drop (rows.length * 1)).toArray := by
    rw [← htake, List.take_append_drop, Array.toArray_toList]
  generalize cur.toList.drop (rows.length * 1) = rest at hcur
  subst hcur
  have hl1 : u.cells.toList.length = 1 := by have := RepL.length c1; simpa using this
  have hst := run_storeCells_at P g idx E u.cells.toList 0 (xs ++ rest).toArray W2 hg (by simp at hl1 ⊢; omega) c2
  simp only [Nat.add_zero] at hst
  have hcells : ((xs ++ rest).toArray.toList.take idx ++ u.cells.toList ++ (xs ++ rest).toArray.toList.drop (idx + u.cells.toList.length)) = spl1 idx u.cells.toList xs ++ rest := by
    simp only [List.toList_toArray]
    rw [List.take_append_of_le_length (by omega), List.drop_append_of_le_length (by omega), spl1_eq _ _ _ (by omega)]
    simp only [List.append_assoc]
  rw [hcells] at hst
  have hwr : (W2.setRow g (spl1 idx u.cells.toList xs ++ rest).toArray).heap[g]? = some (.cells (spl1 idx u.cells.toList xs ++ rest).toArray E (0, 0)) := setRow_heap W2 _ _ _ _ _ hg
  have hC23 : Chg [g] W2 (W2.setRow g (spl1 idx u.cells.toList xs ++ rest).toArray) := chg_setRow [g] W2 g _ (.inl List.mem_cons_self)
  have hob : own (β.sv o) = [g] := by rw [hsv]; rfl
  have hW3 : Chg (own (β.sv o)) W (W2.setRow g (spl1 idx u.cells.toList xs ++ rest).toArray) := by rw [hob] at hW2 ⊢; exact hW2.trans hC23
  have hdf3 : Marks F'.B a2.defers (W2.setRow g (spl1 idx u.cells.toList xs ++ rest).toArray) := hs2.defers.chg hC23 (fun b hb q => by rw [List.mem_singleton] at hb; subst hb; rw [hg]; simp)
  generalize W2.setRow g (spl1 idx u.cells.toList xs ++ rest).toArray = W3 at hst hwr hW3 hdf3
  have hsl : (spl1 idx u.cells.toList xs).length = xs.length := spl1_len _ _ _ (by omega)
  have hown3 : W3.ownsRow 0 E 1 (β.sv o) (rows.set idx [val]).length (spl1 idx u.cells.toList xs) := by
    rw [List.length_set]
    refine ⟨by rw [hsl]; exact hxl, .inr ⟨g, cap, _, hsv, Nat.zero_le _, hwr, hnc, hcm, ?_, ?_⟩⟩
    · rw [← hcs]; simp [hsl]
    · simp only [List.toList_toArray]
      rw [List.take_append_of_le_length (by omega), List.take_of_length_le (by omega)]
  have hset : (rows.set idx [val]).flatten = spl1 idx [val] rows.flatten := set_flat1 val rows idx hk1 hidx
  have hfl : ∀ v ∈ (rows.set idx [val]).flatten, flatV v = true := fun v hv => by
    rw [hset] at hv
    rcases spl1_mem hv with q | q
    · rw [List.mem_singleton] at q; rw [q]; exact hfv
    · exact hflat v q
  have hS := hs.fill ho (rows' := rows.set idx [val]) (List.length_set ..) (W' := W3) (xs := spl1 idx u.cells.toList xs)
    (fun r hr => by rcases List.mem_or_eq_of_mem_set hr with q | q; exact hk1 r q; rw [q]; rfl)
    (fun r hr => by
      rcases List.mem_or_eq_of_mem_set hr with q | q
      · exact hcl r q
      · rw [q]; cases val <;> first | rfl | cases hfv)
    (fun p _ => .inr (.inr hw)) hW3 (fun b p c _ g _ => absurd (.inr (.inr hw)) g) hown3
    (fun w hw => by rcases spl1_mem hw with q | q; exact c2 w q; exact hone w q)
    (flat_repL (S := sit F' β2 s2.o W2) hfl (by rw [hset]; exact RepL.spl c1 hrep))
  have hrun : (Instr.indexAt T (.slice (some ⟨g, 0, none⟩) rows.length cap) (.int ki (idx : Int))).run P W2 = .ok (.pointer (some ⟨g, idx, none⟩)) W2 := by
    have hsz := (hτ E te hE).sizeOf W2
    have hkk := (hτ T tiT hT).k
    rw [hTk] at hkk
    simp [Instr.indexAt, run_underlying hkk, asIntOf, hsz, hEs, Addr.add_lit]
    omega
  have hdput : ∀ i, i ≠ dp → (a2.put (some dp) (.pointer (some ⟨g, idx, none⟩))).tmps.getD i undef = a2.tmps.getD i undef := fun i hi => by
    simp [Act.put, Array.getElem?_setIfInBounds, Ne.symm hi]
  have hdp : dp < a2.tmps.size := by
    rw [hs2.size, hFn, hF]
    have := List.all_eq_true.1 (dstB_all hd) _ (List.mem_of_getElem? h7)
    simpa using this
  have hpd : (a2.put (some dp) (.pointer (some ⟨g, idx, none⟩))).tmps.getD dp undef = .pointer (some ⟨g, idx, none⟩) := by
    simp [Act.put, Array.getElem?_setIfInBounds, hdp]
  have hkd : ∀ i, i ∈ x :: ks2 → i ≠ dp := fun i hi e => nd _ (List.mem_of_getElem? h7) i hi (by rw [e])
  show wpList P l.toArray _ [_, _] a2 W2
  unfold wpList
  rw [if_pos (show Region.wanted _ _ = true from rfl)]
  refine .inl ?_
  unfold Oper.wp
  rw [show execOp a2.eval ⟨some dp, .indexAddr T (.tmp tb) (.tmp ti), ty1, ps1, af1, none⟩ = (do pure (.value (← Instr.indexAt T (a2.tmps.getD tb undef) (a2.tmps.getD ti undef)))) from rfl, hvb, hvi, hsv]
  simp only [Sem.run_bind, hrun, Result.andThen_ok, Sem.run_pure, Oper.upon]
  unfold wpList
  rw [if_pos (show Region.wanted _ _ = true from rfl)]
  refine .inl ?_
  unfold Oper.wp
  have hst2 : (Instr.storeAt U (.pointer (some ⟨g, idx, none⟩)) u).run P W2 = .ok () W3 := by
    have hsz := (hτ U tu hU).sizeOf W2
    have hcz : u.cells.size = 1 := by rw [← hl1]; simp
    simp only [Instr.storeAt, Instr.sureAddr, storeVar, Sem.run_bind, Sem.run_pure, Result.andThen_ok, hsz]
    rw [if_neg (by rw [hcz, hUs]; simp)]
    exact hst
  have e1 : (a2.put (some dp) (.pointer (some ⟨g, idx, none⟩))).eval (.tmp dp) = .pointer (some ⟨g, idx, none⟩) := hpd
  have e2 : (a2.put (some dp) (.pointer (some ⟨g, idx, none⟩))).eval (.tmp tx) = u := by rw [← hu]; exact hdput tx (Ne.symm hxt)
  unfold execOp
  simp only [e1, e2, Sem.run_bind, hst2, Result.andThen_ok, Sem.run_pure, Oper.upon]
  unfold wpList
  refine ⟨_, β, hq, ⟨hS.objs.less lko_up, closed_of h2.1 h2.2, fun i => ?_, by rw [← hFB]; exact hdf3, by simp [Act.put, hs2.size, hFn]⟩⟩
  show Rep _ (if i = x then _ else _) _
  by_cases e : i = x
  · subst e
    rw [if_pos rfl]
    have e3 : ((a2.put (some dp) (.pointer (some ⟨g, idx, none⟩))).put none undef).tmps.getD i undef = β.sv o := ((hdput i (hkd i List.mem_cons_self)).trans (hkeep2 i List.mem_cons_self)).trans hv
    refine ⟨⟨_, _, e3.trans hsv⟩, fun w hw => ?_⟩
    have hw : svOf β (lko ((o, Ob.arr 1 E (rows.set idx [val])) :: keepO s os2)) o rows.length = some w := hw
    have ho2 : lko ((o, Ob.arr 1 E (rows.set idx [val])) :: keepO s os2) o = some (.arr 1 E (rows.set idx [val])) := if_pos rfl
    unfold svOf at hw
    simp only [ho2, List.length_set, if_true] at hw
    cases hw
    exact e3
  · rw [if_neg e]
    rcases lk_keep2 s ks2 i with z | ⟨z1, z⟩
    · rw [z]; trivial
    · rw [z]
      have e3 : ((a2.put (some dp) (.pointer (some ⟨g, idx, none⟩))).put none undef).tmps.getD i undef = a.tmps.getD i undef := (hdput i (hkd i (List.mem_cons_of_mem _ z1))).trans (hkeep2 i (List.mem_cons_of_mem _ z1))
      rw [e3]; exact (hS.frame i).less lko_up
theorem VWp.coolW {P : Program} {F : Env} {s : St} {Q : Exit → St → Prop} {c : Code} (o x k : Nat) (ks os : List Nat) {E : TypeId} {rows : List (List V)} (hx : s.t x = .own o rows.length) (ho : s.o o = some (.arr k E rows)) (hne : rows ≠ []) (hflat : ∀ v ∈ rows.flatten, flatV v = true) (hos : ∀ i ∈ os, i ≠ o)
    (h1 : okT (lko (keepO s os)) (keepT s ks) ∧ okO (lko (keepO s os)) (keepO s os)) (hq : VWp P F c Q (St.of ((x, .sl k rows) :: keepT s ks) (keepO s os))) : VWp P F c Q s := fun β a W hs => by
  obtain ⟨hk0, hcl0, hloc, xs, hown, hone, hrep⟩ := hs.objs.arr o k E rows ho
  have hfx := hs.frame x
  rw [hx] at hfx
  have hv : a.tmps.getD x undef = β.sv o := hfx.2 _ (by show svOf _ _ o _ = _; unfold svOf; simp only [ho, if_true])
  obtain ⟨g, cap, rest, hsv, hnc, hcm, _, hg, hxl⟩ := own_hs hown (by cases rows with | nil => exact absurd rfl hne | cons => simp)
  have hbo : blk β s.o o = some g := by unfold blk; simp only [ho]; rw [hsv]; rfl
  have hcl2 : Closed (St.of (keepT s ks) (keepO s os)) := closed_of h1.1 h1.2
  have hw := hs.less (less_keep s ks os) hcl2
  have hne2 : ∀ i y, lko (keepO s os) i = some y → i ≠ o ∧ s.o i = some y := fun i y q => by
    have hno : lko (keepO s os) o = none := by
      clear hq h1 hcl2 hw q
      induction os with
      | nil => rfl
      | cons j os ih =>
        have ih := ih (fun i hi => hos i (List.mem_cons_of_mem _ hi))
        unfold keepO
        cases s.o j with
        | none => exact ih
        | some x =>
          simp only
          unfold lko
          rw [if_neg (fun e => hos j List.mem_cons_self e.symm)]; exact ih
    refine ⟨(fun e => by rw [e, hno] at q; cases q), ?_⟩
    rcases lko_keep (s := s) (ks := os) (i := i) with z | z
    · rw [z] at q; cases q
    · rw [← z]; exact q
  have hmut : ∀ p, ¬ Mut F β (lko (keepO s os)) g p := by
    rintro p (q | ⟨o', T, c', q1, q2⟩ | ⟨o', k', E', rows', q1, q2, _⟩)
    · exact hs.objs.base.dis o _ p hbo q
    · obtain ⟨e, q1⟩ := hne2 _ _ q1
      exact e (hs.objs.inj o' o g (by unfold blk; simp only [q1, q2]) hbo)
    · obtain ⟨e, q1⟩ := hne2 _ _ q1
      exact e (hs.objs.inj o' o g (by unfold blk; simp only [q1]; exact q2) hbo)
  refine hq β a W ⟨hw.objs, ⟨fun i r hr => ?_, hcl2.o⟩, fun i => ?_, hw.defers, hw.size⟩
  · have hr : r ∈ (if i = x then V.sl k rows else lk (keepT s ks) i).refs := hr
    by_cases e : i = x
    · rw [if_pos e] at hr; cases hr
    · rw [if_neg e] at hr; exact hcl2.t i r hr
  · show Rep _ (if i = x then _ else _) _
    by_cases e : i = x
    · subst e
      rw [if_pos rfl, hv, hsv]
      refine ⟨some ⟨g, 0, none⟩, cap, rfl, hnc, hcm, (fun q => by cases q), hk0, hcl0, fun y hy => ?_⟩
      injection hy with hy; subst hy
      refine ⟨fun _ => rfl, AtR.flat.2 (AtL.of_get fun j hj => ?_)⟩
      obtain ⟨u, hu, hru⟩ := RepL.get (flat_repL (S' := sit F β (lko (keepO s os)) W) hflat hrep) j hj
      refine ⟨hmut _, u, ?_, hone u (List.mem_of_getElem? hu), hru⟩
      show W.cell? ⟨g, 0 + j, none⟩ = some u
      rw [Nat.zero_add, cell_of_row _ _ j _ _ _ hg, List.getElem?_toArray, List.getElem?_append_left (List.getElem?_eq_some_iff.1 hu).1]; exact hu
    · rw [if_neg e]; exact hw.frame i
end Go.Proofs.YtedbbinlcdgkoaaGreatDoor
