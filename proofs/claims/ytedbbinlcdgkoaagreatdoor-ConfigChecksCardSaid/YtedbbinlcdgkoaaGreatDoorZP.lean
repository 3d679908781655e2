import Derived.Outline
import Derived.Test.YtedbbinlcdgkoaaGreatDoorVZ
import Derived.Test.YtedbbinlcdgkoaaGreatDoorZO

/- The value machine: two new slices that a function returns in a struct may be written by the caller. No program in sight. -/
namespace Go.Proofs.YtedbbinlcdgkoaaGreatDoor
open Go.RowKit
set_option linter.unusedVariables false
set_option linter.unusedSimpArgs false
theorem lko_two {a b : Nat} {x y : Ob} {o : Nat} {z : Ob} (h : lko [(a, x), (b, y)] o = some z) : (o = a ∧ z = x) ∨ (o ≠ a ∧ o = b ∧ z = y) := by
  unfold lko at h
  by_cases e : o = a
  · rw [if_pos e] at h; exact .inl ⟨e, (Option.some.inj h).symm⟩
  · rw [if_neg e] at h
    unfold lko at h
    by_cases e2 : o = b
    · rw [if_pos e2] at h; exact .inr ⟨e, e2, (Option.some.inj h).symm⟩
    · rw [if_neg e2] at h; cases h
theorem SpecB.warm {P : Program} {f : FuncId} {args : List V} {a b k k2 : Nat} {E E2 : TypeId} {ra rb : List (List V)} {kd : IntKind} {z : Int} (hab : a ≠ b) (hra : ra ≠ []) (hrb : rb ≠ []) (fa : ∀ v ∈ ra.flatten, flatV v = true) (fb : ∀ v ∈ rb.flatten, flatV v = true) (fra : V.refsL ra.flatten = []) (frb : V.refsL rb.flatten = [])
    (hB : SpecB P f args [] (.agg [.own a ra.length, .int kd z, .own b rb.length]) [(a, .arr k E ra), (b, .arr k2 E2 rb)]) :
    SpecB P f args [] (.agg [.hs a ra.length, .int kd z, .hs b rb.length]) [(a, .box E ra.flatten), (b, .box E2 rb.flatten)] := by
  have la : lko [(a, Ob.arr k E ra), (b, Ob.arr k2 E2 rb)] a = some (.arr k E ra) := by unfold lko; rw [if_pos rfl]
  have lb : lko [(a, Ob.arr k E ra), (b, Ob.arr k2 E2 rb)] b = some (.arr k2 E2 rb) := by unfold lko; rw [if_neg (Ne.symm hab)]; unfold lko; rw [if_pos rfl]
  have ha' : lko [(a, Ob.box E ra.flatten), (b, Ob.box E2 rb.flatten)] a = some (.box E ra.flatten) := by unfold lko; rw [if_pos rfl]
  have hb' : lko [(a, Ob.box E ra.flatten), (b, Ob.box E2 rb.flatten)] b = some (.box E2 rb.flatten) := by unfold lko; rw [if_neg (Ne.symm hab)]; unfold lko; rw [if_pos rfl]
  refine ⟨hB.ent, ⟨fun q hq => ?_, fun o T c ho q hq => ?_⟩, fun o h => absurd rfl h, fun M L Z β w vs hO hvs => ?_⟩
  · have hq : q ∈ [(a, none), (b, none)] := hq
    rcases List.mem_cons.1 hq with rfl | hq
    · exact ⟨_, ha', rfl⟩
    · rw [List.mem_singleton] at hq; subst hq; exact ⟨_, hb', rfl⟩
  · rcases lko_two ho with ⟨_, e⟩ | ⟨_, _, e⟩ <;> cases e
    · rw [fra] at hq; cases hq
    · rw [frb] at hq; cases hq
  have hO1 : Objs ⟨w, [], M, 0, lko [], β, Z, 0⟩ β (lko []) w := ⟨⟨Chg.refl _ _, hO.base.m0, hO.base.dis, hO.base.nam, hO.base.nn, hO.base.kin, hO.base.frz, hO.base.gc, hO.base.tab.1, by simp⟩, (fun o T c q => by cases q), (fun o k E rows q => by cases q), (fun o o' b q => by cases q), (fun o es q => by cases q)⟩
  refine (hB.run M [] Z β w vs hO1 hvs).mono ?_
  rintro e w' ⟨v, β', he, hob, hr⟩
  obtain ⟨hka, hca, hba, xa, oa, o1a, rea⟩ := hob.arr a k E ra la
  obtain ⟨hkb, hcb, hbb, xb, ob, o1b, reb⟩ := hob.arr b k2 E2 rb lb
  obtain ⟨ga, capa, resta, va, nca, cma, _, hga, _⟩ := own_hs oa (by cases ra with | nil => exact absurd rfl hra | cons => simp)
  obtain ⟨gb, capb, restb, vb, ncb, cmb, _, hgb, _⟩ := own_hs ob (by cases rb with | nil => exact absurd rfl hrb | cons => simp)
  have oba : (β'.sv a).ownBlock = some ga := by rw [va]; rfl
  have obb : (β'.sv b).ownBlock = some gb := by rw [vb]; rfl
  have sa : w.heap.size ≤ ga := by rcases hba ga oba with q | q; cases q; exact q
  have sb : w.heap.size ≤ gb := by rcases hbb gb obb with q | q; cases q; exact q
  have bka : blk β' (lko [(a, Ob.arr k E ra), (b, Ob.arr k2 E2 rb)]) a = some ga := by unfold blk; simp only [la]; exact oba
  have bkb : blk β' (lko [(a, Ob.arr k E ra), (b, Ob.arr k2 E2 rb)]) b = some gb := by unfold blk; simp only [lb]; exact obb
  have hgab : ga ≠ gb := fun q => hab (hob.inj a b ga bka (by rw [bkb, q]))
  have hblk : ∀ {o bb}, blk ⟨fun o => if o = a then ga else gb, β'.sv⟩ (lko [(a, Ob.box E ra.flatten), (b, Ob.box E2 rb.flatten)]) o = some bb → (o = a ∧ bb = ga) ∨ (o = b ∧ bb = gb) := fun {o bb} q => by
    unfold blk at q
    split at q
    · rename_i T c ho
      injection q with q
      rcases lko_two ho with ⟨e1, _⟩ | ⟨e0, e1, _⟩
      · left; simp only [e1, if_true] at q; exact ⟨e1, q.symm⟩
      · right; simp only [e0, if_false] at q; exact ⟨e1, q.symm⟩
    · rename_i k' E' rows ho; rcases lko_two ho with ⟨_, e⟩ | ⟨_, _, e⟩ <;> cases e
    · rename_i es ho; rcases lko_two ho with ⟨_, e⟩ | ⟨_, _, e⟩ <;> cases e
    · cases q
  refine ⟨v, ⟨fun o => if o = a then ga else gb, β'.sv⟩, he, ⟨⟨hob.base.chg.weaken (by simp), hO.base.m0, fun o bb p q => ?_, fun o q => absurd rfl q, Nat.zero_le _, fun o => ?_, fun bb p c hz hc => ?_, hO.base.gc, (fun o q => ?_), hO.base.tab.2⟩, fun o T c ho => ?_, fun o k' E' rows ho => ?_, fun o o' bb q1 q2 => ?_, fun o es ho => ?_⟩, ?_⟩
  · rcases hblk q with ⟨_, rfl⟩ | ⟨_, rfl⟩
    · exact hob.base.dis a _ p bka
    · exact hob.base.dis b _ p bkb
  · show Kin _ _ _ none _
    unfold Kin; trivial
  · obtain ⟨k1, k2'⟩ := hob.base.frz bb p c hz hc
    refine ⟨?_, k2'⟩
    have hlt := World.block_lt_of_cell? w _ hc
    simp only at hlt
    rintro (m | ⟨o, T, c', q1, q2⟩ | ⟨o, k', E', rows, q1, _⟩)
    · exact k1 (.inl m)
    · have q2 : (if o = a then ga else gb) = bb := q2
      split at q2 <;> omega
    · rcases lko_two q1 with ⟨_, e⟩ | ⟨_, _, e⟩ <;> cases e
  · rcases hblk q with ⟨_, e⟩ | ⟨_, e⟩
    · exact hob.base.tab.1 a (by rw [bka, ← e])
    · exact hob.base.tab.1 b (by rw [bkb, ← e])
  · rcases lko_two ho with ⟨e1, e2⟩ | ⟨e0, e1, e2⟩ <;> cases e2
    · subst e1
      refine ⟨.inr (by simp only [if_true]; exact sa), xa, resta, by simp only [if_true]; exact hga, o1a, flat_repL fa rea⟩
    · subst e1
      refine ⟨.inr (by simp only [e0, if_false]; exact sb), xb, restb, by simp only [e0, if_false]; exact hgb, o1b, flat_repL fb reb⟩
  · rcases lko_two ho with ⟨_, e⟩ | ⟨_, _, e⟩ <;> cases e
  · rcases hblk q1 with ⟨e1, e2⟩ | ⟨e1, e2⟩ <;> rcases hblk q2 with ⟨e3, e4⟩ | ⟨e3, e4⟩
    · rw [e1, e3]
    · exact absurd (e2.symm.trans e4) hgab
    · exact absurd (e4.symm.trans e2) hgab
    · rw [e1, e3]
  · rcases lko_two ho with ⟨_, e⟩ | ⟨_, _, e⟩ <;> cases e
  · obtain ⟨cs, hv, h1, hrl⟩ := hr
    obtain ⟨u1, r1, e1, p1, u2, r2, e2, p2, u3, r3, e3, p3, e4⟩ := hrl
    subst e1; subst e2; subst e3
    have s1 : u1 = β'.sv a := p1.2 _ (by show svOf _ _ a _ = _; unfold svOf; simp only [la, if_true])
    have s3 : u3 = β'.sv b := p3.2 _ (by show svOf _ _ b _ = _; unfold svOf; simp only [lb, if_true])
    refine ⟨_, hv, h1, u1, _, rfl, ⟨capa, ?_, nca, cma⟩, u2, _, rfl, p2, u3, _, rfl, ⟨capb, ?_, ncb, cmb⟩, e4⟩
    · rw [s1, va]; show _ = Value.slice (some ⟨if a = a then ga else gb, 0, none⟩) _ _; rw [if_pos rfl]
    · rw [s3, vb]; show _ = Value.slice (some ⟨if b = a then ga else gb, 0, none⟩) _ _; rw [if_neg (Ne.symm hab)]
theorem sl_cold {M : Nat → Nat → Prop} {w' : World} {g n cap k : Nat} {E : TypeId} {rows : List (List V)} {xs rest : List Value} (hn : n = rows.length) (hk : ∀ r ∈ rows, r.length = k) (hcl : cleanR rows) (hf : ∀ v ∈ rows.flatten, flatV v = true) (hM : ∀ p, ¬ M g p)
    (hg : w'.heap[g]? = some (.cells (xs ++ rest).toArray E (0, 0))) (h1 : ∀ u ∈ xs, u.oneCell' = true) {S : Sit} (hx : RepL S rows.flatten xs) (c1 : n ≤ cap) (c2 : cap ≤ maxLen) : Rep (S0 M w') (.sl k rows) (.slice (some ⟨g, 0, none⟩) n cap) := by
  subst hn
  refine ⟨some ⟨g, 0, none⟩, cap, rfl, c1, c2, (fun q => by cases q), hk, hcl, fun y hy => ?_⟩
  injection hy with hy; subst hy
  refine ⟨fun _ => rfl, AtR.flat.2 (AtL.of_get fun j hj => ?_)⟩
  obtain ⟨u, hu, hru⟩ := RepL.get (flat_repL (S' := S0 M w') hf hx) j hj
  refine ⟨hM _, u, ?_, h1 u (List.mem_of_getElem? hu), hru⟩
  show w'.cell? ⟨g, 0 + j, none⟩ = some u
  rw [Nat.zero_add, cell_of_row _ _ j _ _ _ hg, List.getElem?_toArray, List.getElem?_append_left (List.getElem?_eq_some_iff.1 hu).1]; exact hu
theorem SpecB.cold {P : Program} {f : FuncId} {args : List V} {a b k k2 : Nat} {E E2 : TypeId} {ra rb : List (List V)} {kd : IntKind} {z : Int} (hab : a ≠ b) (harg : V.refsL args = []) (hka : ∀ r ∈ ra, r.length = k) (hkb : ∀ r ∈ rb, r.length = k2) (hca : cleanR ra) (hcb : cleanR rb) (fa : ∀ v ∈ ra.flatten, flatV v = true) (fb : ∀ v ∈ rb.flatten, flatV v = true)
    (hB : SpecB P f args [] (.agg [.hs a ra.length, .int kd z, .hs b rb.length]) [(a, .box E ra.flatten), (b, .box E2 rb.flatten)]) :
    Spec P f args (.agg [.sl k ra, .int kd z, .sl k2 rb]) := by
  refine ⟨hB.ent, rfl, fun M w vs hM hg hvs => ?_⟩
  have ha' : lko [(a, Ob.box E ra.flatten), (b, Ob.box E2 rb.flatten)] a = some (.box E ra.flatten) := by unfold lko; rw [if_pos rfl]
  have hb' : lko [(a, Ob.box E ra.flatten), (b, Ob.box E2 rb.flatten)] b = some (.box E2 rb.flatten) := by unfold lko; rw [if_neg (Ne.symm hab)]; unfold lko; rw [if_pos rfl]
  have hmut : ∀ bb p, Mut ⟨w, [], M, 0, lko [], ⟨fun _ => 0, fun _ => undef⟩, gZ, 0⟩ ⟨fun _ => 0, fun _ => undef⟩ (lko []) bb p → M bb p := by
    rintro bb p (q | ⟨o, T, c, q, _⟩ | ⟨o, k, E, rows, q, _⟩)
    · exact q
    · cases q
    · cases q
  have hO1 : Objs ⟨w, [], M, 0, lko [], ⟨fun _ => 0, fun _ => undef⟩, gZ, 0⟩ ⟨fun _ => 0, fun _ => undef⟩ (lko []) w := ⟨⟨Chg.refl _ _, hM, (fun o b p q => by cases q), (fun o q => absurd rfl q), Nat.zero_le _, (fun o => by show Kin _ _ _ none _; unfold Kin; trivial), (fun b p c q hc => ⟨fun m => hg.1 b p q (hmut b p m), hc⟩), ⟨fun b p q => q, hg.2⟩, (fun o q => by cases q), by simp⟩, (fun o T c q => by cases q), (fun o k E rows q => by cases q), (fun o o' b q => by cases q), (fun o es q => by cases q)⟩
  refine (hB.run M [] gZ _ w vs hO1 (RepL.mono (S := S0 M w) (S' := sit ⟨w, [], M, 0, lko [], ⟨fun _ => 0, fun _ => undef⟩, gZ, 0⟩ ⟨fun _ => 0, fun _ => undef⟩ (lko []) w) (fun b p c g1 g2 => ⟨fun q => g1 (hmut b p q), g2⟩) args vs (by rw [harg]; simp) hvs)).mono ?_
  rintro e w' ⟨v, β', he, hob, hr⟩
  obtain ⟨sa, xa, resta, hga, o1a, rea⟩ := hob.box a E _ ha'
  obtain ⟨sb, xb, restb, hgb, o1b, reb⟩ := hob.box b E2 _ hb'
  have sa : w.heap.size ≤ β'.pb a := by rcases sa with q | q; cases q; exact q
  have sb : w.heap.size ≤ β'.pb b := by rcases sb with q | q; cases q; exact q
  obtain ⟨cs, hv, h1, hrl⟩ := hr
  obtain ⟨u1, r1, e1, ⟨capa, q1, q2, q3⟩, u2, r2, e2, p2, u3, r3, e3, ⟨capb, q4, q5, q6⟩, e4⟩ := hrl
  subst e1; subst e2; subst e3
  refine ⟨v, he, hob.base.chg, _, hv, h1, u1, _, rfl, ?_, u2, _, rfl, p2, u3, _, rfl, ?_, e4⟩
  · rw [q1]; exact sl_cold rfl hka hca fa (fun p m => by have h3 : β'.pb a < w.heap.size := hM _ p m; omega) hga o1a rea q2 q3
  · rw [q4]; exact sl_cold rfl hkb hcb fb (fun p m => by have h3 : β'.pb b < w.heap.size := hM _ p m; omega) hgb o1b reb q5 q6
theorem lko_one {b : Nat} {y : Ob} {o : Nat} {z : Ob} (h : lko [(b, y)] o = some z) : o = b ∧ z = y := by
  unfold lko at h
  by_cases e : o = b
  · rw [if_pos e] at h; exact ⟨e, (Option.some.inj h).symm⟩
  · rw [if_neg e] at h; cases h
theorem SpecB.warm1 {P : Program} {f : FuncId} {args : List V} {a b k k2 : Nat} {E E2 : TypeId} {rb : List (List V)} {kd : IntKind} {z : Int} (hab : a ≠ b) (hpa : prvB a ([] : List (List V)) = true) (hrb : rb ≠ []) (fb : ∀ v ∈ rb.flatten, flatV v = true) (frb : V.refsL rb.flatten = [])
    (hB : SpecB P f args [] (.agg [.own a 0, .int kd z, .own b rb.length]) [(a, .arr k E []), (b, .arr k2 E2 rb)]) :
    SpecB P f args [] (.agg [.sl k [], .int kd z, .hs b rb.length]) [(b, .box E2 rb.flatten)] := by
  have la : lko [(a, Ob.arr k E []), (b, Ob.arr k2 E2 rb)] a = some (.arr k E []) := by unfold lko; rw [if_pos rfl]
  have lb : lko [(a, Ob.arr k E []), (b, Ob.arr k2 E2 rb)] b = some (.arr k2 E2 rb) := by unfold lko; rw [if_neg (Ne.symm hab)]; unfold lko; rw [if_pos rfl]
  have hb' : lko [(b, Ob.box E2 rb.flatten)] b = some (.box E2 rb.flatten) := by unfold lko; rw [if_pos rfl]
  refine ⟨hB.ent, ⟨fun q hq => ?_, fun o T c ho q hq => ?_⟩, fun o h => absurd rfl h, fun M L Z β w vs hO hvs => ?_⟩
  · have hq : q ∈ [(b, none)] := hq
    rw [List.mem_singleton] at hq; subst hq; exact ⟨_, hb', rfl⟩
  · obtain ⟨_, e⟩ := lko_one ho
    cases e
    rw [frb] at hq; cases hq
  have hO1 : Objs ⟨w, [], M, 0, lko [], β, Z, 0⟩ β (lko []) w := ⟨⟨Chg.refl _ _, hO.base.m0, hO.base.dis, hO.base.nam, hO.base.nn, hO.base.kin, hO.base.frz, hO.base.gc, hO.base.tab.1, by simp⟩, (fun o T c q => by cases q), (fun o k E rows q => by cases q), (fun o o' b q => by cases q), (fun o es q => by cases q)⟩
  refine (hB.run M [] Z β w vs hO1 hvs).mono ?_
  rintro e w' ⟨v, β', he, hob, hr⟩
  have hla := hob.lie la hpa
  obtain ⟨hkb, hcb, hbb, xb, ob, o1b, reb⟩ := hob.arr b k2 E2 rb lb
  obtain ⟨gb, capb, restb, vb, ncb, cmb, _, hgb, _⟩ := own_hs ob (by cases rb with | nil => exact absurd rfl hrb | cons => simp)
  have obb : (β'.sv b).ownBlock = some gb := by rw [vb]; rfl
  have sb : w.heap.size ≤ gb := by rcases hbb gb obb with q | q; cases q; exact q
  have bkb : blk β' (lko [(a, Ob.arr k E []), (b, Ob.arr k2 E2 rb)]) b = some gb := by unfold blk; simp only [lb]; exact obb
  have hblk : ∀ {o bb}, blk ⟨fun _ => gb, β'.sv⟩ (lko [(b, Ob.box E2 rb.flatten)]) o = some bb → o = b ∧ bb = gb := fun {o bb} q => by
    unfold blk at q
    split at q
    · rename_i T c ho
      injection q with q
      exact ⟨(lko_one ho).1, q.symm⟩
    · rename_i k' E' rows ho; cases (lko_one ho).2
    · rename_i es ho; cases (lko_one ho).2
    · cases q
  refine ⟨v, ⟨fun _ => gb, β'.sv⟩, he, ⟨⟨hob.base.chg.weaken (by simp), hO.base.m0, fun o bb p q => ?_, fun o q => absurd rfl q, Nat.zero_le _, fun o => ?_, fun bb p c hz hc => ?_, hO.base.gc, (fun o q => ?_), hO.base.tab.2⟩, fun o T c ho => ?_, fun o k' E' rows ho => ?_, fun o o' bb q1 q2 => ?_, fun o es ho => ?_⟩, ?_⟩
  · obtain ⟨_, rfl⟩ := hblk q
    exact hob.base.dis b _ p bkb
  · show Kin _ _ _ none _
    unfold Kin; trivial
  · obtain ⟨k1, k2'⟩ := hob.base.frz bb p c hz hc
    refine ⟨?_, k2'⟩
    have hlt := World.block_lt_of_cell? w _ hc
    simp only at hlt
    rintro (m | ⟨o, T, c', q1, q2⟩ | ⟨o, k', E', rows, q1, _⟩)
    · exact k1 (.inl m)
    · have q2 : gb = bb := q2
      omega
    · cases (lko_one q1).2
  · obtain ⟨_, e⟩ := hblk q
    exact hob.base.tab.1 b (by rw [bkb, ← e])
  · obtain ⟨e1, e2⟩ := lko_one ho
    cases e2
    exact ⟨.inr sb, xb, restb, hgb, o1b, flat_repL fb reb⟩
  · cases (lko_one ho).2
  · rw [(hblk q1).1, (hblk q2).1]
  · cases (lko_one ho).2
  · obtain ⟨cs, hv, h1, hrl⟩ := hr
    obtain ⟨u1, r1, e1, p1, u2, r2, e2, p2, u3, r3, e3, p3, e4⟩ := hrl
    subst e1; subst e2; subst e3
    have s1 : u1 = β'.sv a := p1.2 _ (by show svOf _ _ a _ = _; unfold svOf; simp only [la, List.length_nil, if_true])
    have s3 : u3 = β'.sv b := p3.2 _ (by show svOf _ _ b _ = _; unfold svOf; simp only [lb, if_true])
    obtain ⟨x, cap, f0, f1, f2, f3, f4, f5, f6⟩ := hla
    refine ⟨_, hv, h1, u1, _, rfl, ⟨x, cap, s1.trans f0, f1, f2, f3, f4, f5, fun y _ => ⟨fun q => absurd rfl q, trivial⟩⟩, u2, _, rfl, p2, u3, _, rfl, ⟨capb, ?_, ncb, cmb⟩, e4⟩
    rw [s3, vb]; rfl
theorem SpecB.cold1 {P : Program} {f : FuncId} {args : List V} {b k k2 : Nat} {E2 : TypeId} {rb : List (List V)} {kd : IntKind} {z : Int} (harg : V.refsL args = []) (hkb : ∀ r ∈ rb, r.length = k2) (hcb : cleanR rb) (fb : ∀ v ∈ rb.flatten, flatV v = true)
    (hB : SpecB P f args [] (.agg [.sl k [], .int kd z, .hs b rb.length]) [(b, .box E2 rb.flatten)]) :
    Spec P f args (.agg [.sl k [], .int kd z, .sl k2 rb]) := by
  refine ⟨hB.ent, rfl, fun M w vs hM hg hvs => ?_⟩
  have hb' : lko [(b, Ob.box E2 rb.flatten)] b = some (.box E2 rb.flatten) := by unfold lko; rw [if_pos rfl]
  have hmut : ∀ bb p, Mut ⟨w, [], M, 0, lko [], ⟨fun _ => 0, fun _ => undef⟩, gZ, 0⟩ ⟨fun _ => 0, fun _ => undef⟩ (lko []) bb p → M bb p := by
    rintro bb p (q | ⟨o, T, c, q, _⟩ | ⟨o, k, E, rows, q, _⟩)
    · exact q
    · cases q
    · cases q
  have hO1 : Objs ⟨w, [], M, 0, lko [], ⟨fun _ => 0, fun _ => undef⟩, gZ, 0⟩ ⟨fun _ => 0, fun _ => undef⟩ (lko []) w := ⟨⟨Chg.refl _ _, hM, (fun o b p q => by cases q), (fun o q => absurd rfl q), Nat.zero_le _, (fun o => by show Kin _ _ _ none _; unfold Kin; trivial), (fun b p c q hc => ⟨fun m => hg.1 b p q (hmut b p m), hc⟩), ⟨fun b p q => q, hg.2⟩, (fun o q => by cases q), by simp⟩, (fun o T c q => by cases q), (fun o k E rows q => by cases q), (fun o o' b q => by cases q), (fun o es q => by cases q)⟩
  refine (hB.run M [] gZ _ w vs hO1 (RepL.mono (S := S0 M w) (S' := sit ⟨w, [], M, 0, lko [], ⟨fun _ => 0, fun _ => undef⟩, gZ, 0⟩ ⟨fun _ => 0, fun _ => undef⟩ (lko []) w) (fun b p c g1 g2 => ⟨fun q => g1 (hmut b p q), g2⟩) args vs (by rw [harg]; simp) hvs)).mono ?_
  rintro e w' ⟨v, β', he, hob, hr⟩
  obtain ⟨sb, xb, restb, hgb, o1b, reb⟩ := hob.box b E2 _ hb'
  have sb : w.heap.size ≤ β'.pb b := by rcases sb with q | q; cases q; exact q
  obtain ⟨cs, hv, h1, hrl⟩ := hr
  obtain ⟨u1, r1, e1, ⟨x, cap, f0, f1, f2, f3, f4, f5, f6⟩, u2, r2, e2, p2, u3, r3, e3, ⟨capb, q4, q5, q6⟩, e4⟩ := hrl
  subst e1; subst e2; subst e3
  refine ⟨v, he, hob.base.chg, _, hv, h1, u1, _, rfl, ⟨x, cap, f0, f1, f2, f3, f4, f5, fun y _ => ⟨fun q => absurd rfl q, trivial⟩⟩, u2, _, rfl, p2, u3, _, rfl, ?_, e4⟩
  rw [q4]; exact sl_cold rfl hkb hcb fb (fun p m => by have h3 : β'.pb b < w.heap.size := hM _ p m; omega) hgb o1b reb q5 q6
end Go.Proofs.YtedbbinlcdgkoaaGreatDoor

/- Layer 19: the law's Prog: a configuration of new slices. -/
-- FUSE
-- LESS
namespace Go.Proofs.YtedbbinlcdgkoaaGreatDoor
open Go.RowKit Go.Lib
set_option linter.unusedVariables false
set_option linter.unusedSimpArgs false
set_option maxHeartbeats 8000000 in
set_option maxRecDepth 4000 in
theorem Prog_B (c : CfgT) (h1 : c.us.length ≤ 1000000) (h2 : c.ps.length ≤ 1000000) : SpecB Tryz.prog 31 [.agg (cfgC c)] [] (.agg [.own 7 c.us.length, .int .i64 c.store, .own 500012 c.ps.length]) [(7, .arr 5 58 (c.us.map uniC)), (500012, .arr 2 65 (c.ps.map parC))] := by
  unfold cfgC
  refine specB_of tt_ok Tryz.func31 rfl (by decide) Tryz.ntmps31 (congrArg Array.toList Tryz.results31) (by simp) (by decide) rfl (by simp only [go_sem, Int.reduceEq, Int.reduceLT, Nat.reduceEqDiff, Nat.reduceAdd, Nat.reduceMul, Nat.reduceLT, Nat.reduceLeDiff, Int.reduceToNat]) (fun F hF => ?_)
  refine vwp_seq_k fun Na hNa => vreg tt_ok hF rfl ?_; simp only [go_sem, Int.reduceEq, Int.reduceLT, Nat.reduceEqDiff, Nat.reduceAdd, Nat.reduceMul, Nat.reduceLT, Nat.reduceLeDiff, Int.reduceToNat]   -- R0
  refine hNa _ (VWp.keep [1,2] [1,2] ?_); simp only [go_sem, Int.reduceEq, Int.reduceLT, Nat.reduceEqDiff, Nat.reduceAdd, Nat.reduceMul, Nat.reduceLT, Nat.reduceLeDiff, Int.reduceToNat]
  refine vmeet (fun _ : Unit => [(1, .ptr 1 0), (2, .ptr 2 0), (3, .ptr 3 0)]) (fun _ => [(1, .box 39 [.sl 5 (c.us.map uniC), .int .i64 c.store, .sl 2 (c.ps.map parC)]), (2, .box 25 [.nil, .int .i64 0, .nil]), (3, .box 25 [.own 7 (c.us.map uniC).length, .int .i64 c.store, .nil]), (7, .arr 5 58 (c.us.map uniC))]) (fun _ => True) ?_ ?_
  · refine vregord tt_ok mixed hF rfl .no [[0, 1, 2, 3, 4, 5, 6, 7, 8], [0, 1, 2, 3, 4, 7, 5, 6, 8], [0, 2, 3, 4, 5, 1, 6, 7, 8], [0, 2, 3, 4, 7, 5, 1, 6, 8]] [] (by kernel_rfl) ?_
    refine ⟨?_, ?_, ?_, ?_, trivial⟩ <;> simp only [pickL, List.length_map, go_sem, Int.reduceEq, Int.reduceLT, Nat.reduceEqDiff, Nat.reduceAdd, Nat.reduceMul, Nat.reduceLT, Nat.reduceLeDiff, Int.reduceToNat]
    all_goals
      refine ⟨by omega, ?_⟩
      exact ⟨(), by simp⟩
  intro _ _
  refine VWp.adoptB 500012 2 65 (o := 3) (i := 2) rfl rfl rfl (by decide) ?_
  refine VWp.keep [1,2,3] [1,2,3,7,500012] ?_; simp only [go_sem, Int.reduceEq, Int.reduceLT, Nat.reduceEqDiff, Nat.reduceAdd, Nat.reduceMul, Nat.reduceLT, Nat.reduceLeDiff, Int.reduceToNat]
  refine vwp_seq_k fun Nc hNc => ?_
  refine vwp_seq_k fun Nd hNd => vreg tt_ok hF rfl ?_; simp only [go_sem, Int.reduceEq, Int.reduceLT, Nat.reduceEqDiff, Nat.reduceAdd, Nat.reduceMul, Nat.reduceLT, Nat.reduceLeDiff, Int.reduceToNat]   -- R2
  refine hNd _ (VWp.keep [1,2,3,4] [1,2,3,7,500012] ?_); simp only [go_sem, Int.reduceEq, Int.reduceLT, Nat.reduceEqDiff, Nat.reduceAdd, Nat.reduceMul, Nat.reduceLT, Nat.reduceLeDiff, Int.reduceToNat]
  refine vwp_block ?_
  refine vloop (fun k : Nat => [(1, .ptr 1 0), (2, .ptr 2 0), (3, .ptr 3 0), (4, .int .i64 (k : Int))])
    (fun k => [(1, .box 39 [.sl 5 (c.us.map uniC), .int .i64 c.store, .sl 2 (c.ps.map parC)]), (2, .box 25 [.nil, .int .i64 0, .nil]), (3, .box 25 [.own 7 (c.us.map uniC).length, .int .i64 c.store, .own 500012 ((c.ps.take k).map parC).length]), (7, .arr 5 58 (c.us.map uniC)), (500012, .arr 2 65 ((c.ps.take k).map parC))])
    (fun k => k ≤ c.ps.length) (fun k => c.ps.length - k) 0 (by omega) (by simp only [List.take_zero, List.map_nil, List.length_nil, List.length_map, go_sem, Int.reduceEq, Int.reduceLT, Nat.reduceEqDiff, Nat.reduceAdd, Nat.reduceMul, Nat.reduceLT, Nat.reduceLeDiff, Int.reduceToNat]; try simp) ?_
  intro k hk
  refine vwp_seq_k fun Ne hNe => ?_
  refine vwp_seq_k fun Nf hNf => vreg tt_ok hF rfl ?_; simp only [go_sem, Int.reduceEq, Int.reduceLT, Nat.reduceEqDiff, Nat.reduceAdd, Nat.reduceMul, Nat.reduceLT, Nat.reduceLeDiff, Int.reduceToNat]   -- R3
  try simp only [List.length_map]
  refine hNf _ (VWp.keep [1,2,3,4,16] [1,2,3,7,500012] ?_); simp only [go_sem, Int.reduceEq, Int.reduceLT, Nat.reduceEqDiff, Nat.reduceAdd, Nat.reduceMul, Nat.reduceLT, Nat.reduceLeDiff, Int.reduceToNat]
  refine vif rfl ⟨fun ht => ?_, fun hf => ?_⟩
  · have hq : k < c.ps.length := by have := of_decide_eq_true ht; omega
    have hget := par_row hq
    have hst : (c.ps.take (k + 1)).map parC = (c.ps.take k).map parC ++ [[.int .i64 (c.ps[k]).size, .str (c.ps[k]).cls]] := by rw [List.take_succ_eq_append_getElem hq, List.map_append]; rfl
    have hln : (c.ps.take k).length = k := by rw [List.length_take]; omega
    refine vwp_skip (hNe _ ?_)
    refine vwp_seq_k fun Ng hNg => ?_
    refine vwp_block ?_
    refine vregd tt_ok mixed hF rfl (by kernel_rfl) (by kernel_rfl) ?_
    simp only [hget, List.length_map, Int.toNat_natCast, go_sem, Int.reduceEq, Int.reduceLT, Nat.reduceEqDiff, Nat.reduceAdd, Nat.reduceMul, Nat.reduceLT, Nat.reduceLeDiff, Int.reduceToNat]
    refine ⟨⟨by omega, by omega⟩, ⟨by omega, by omega⟩, by omega, ?_⟩
    refine hNg _ (VWp.keep [1,2,3,4] [1,2,3,7,500012] ?_); simp only [go_sem, Int.reduceEq, Int.reduceLT, Nat.reduceEqDiff, Nat.reduceAdd, Nat.reduceMul, Nat.reduceLT, Nat.reduceLeDiff, Int.reduceToNat]
    refine vreg tt_ok hF rfl ?_; simp only [go_sem, Int.reduceEq, Int.reduceLT, Nat.reduceEqDiff, Nat.reduceAdd, Nat.reduceMul, Nat.reduceLT, Nat.reduceLeDiff, Int.reduceToNat]   -- R4
    rw [wrap_i64 (by omega) (by omega)]
    exact ⟨k + 1, by omega, by omega, by simp [hst]; try omega⟩
  · have hke : k = c.ps.length := by have := of_decide_eq_false hf; omega
    rw [hke, List.take_length]
    refine vwp_exit ?_
    simp only [go_sem, Int.reduceEq, Int.reduceLT, Nat.reduceEqDiff, Nat.reduceAdd, Nat.reduceMul, Nat.reduceLT, Nat.reduceLeDiff, Int.reduceToNat]
    refine hNc _ (VWp.keepR [2,3] [2,3,7,500012] tt_ok hF rfl fun Nh hNh => ?_); simp only [go_sem, Int.reduceEq, Int.reduceLT, Nat.reduceEqDiff, Nat.reduceAdd, Nat.reduceMul, Nat.reduceLT, Nat.reduceLeDiff, Int.reduceToNat]   -- R6
    refine hNh _ (VWp.keep [2] [2,7,500012] ?_); simp only [go_sem, Int.reduceEq, Int.reduceLT, Nat.reduceEqDiff, Nat.reduceAdd, Nat.reduceMul, Nat.reduceLT, Nat.reduceLeDiff, Int.reduceToNat]
    refine vwp_ret ?_
    simp only [List.length_map, go_sem, Int.reduceEq, Int.reduceLT, Nat.reduceEqDiff, Nat.reduceAdd, Nat.reduceMul, Nat.reduceLT, Nat.reduceLeDiff, Int.reduceToNat]
    first | done | exact LeV.refl _ | exact ⟨LeV.refl _, by first | rfl | simp⟩
theorem uni_flat (us : List UniT) : (∀ v ∈ (us.map uniC).flatten, flatV v = true) ∧ V.refsL (us.map uniC).flatten = [] := by
  induction us with
  | nil => exact ⟨(fun v hv => by cases hv), rfl⟩
  | cons u us ih =>
    rw [List.map_cons, List.flatten_cons]
    refine ⟨fun v hv => ?_, by unfold uniC; exact ih.2⟩
    rcases List.mem_append.1 hv with q | q
    · unfold uniC at q
      simp only [List.mem_cons, List.not_mem_nil, or_false] at q
      rcases q with rfl | rfl | rfl | rfl | rfl <;> rfl
    · exact ih.1 v q
theorem par_flat (ps : List ParT) : (∀ v ∈ (ps.map parC).flatten, flatV v = true) ∧ V.refsL (ps.map parC).flatten = [] := by
  induction ps with
  | nil => exact ⟨(fun v hv => by cases hv), rfl⟩
  | cons u ps ih =>
    rw [List.map_cons, List.flatten_cons]
    refine ⟨fun v hv => ?_, by unfold parC; exact ih.2⟩
    rcases List.mem_append.1 hv with q | q
    · unfold parC at q
      simp only [List.mem_cons, List.not_mem_nil, or_false] at q
      rcases q with rfl | rfl <;> rfl
    · exact ih.1 v q
theorem Prog_hs (c : CfgT) (h1 : c.us.length ≤ 1000000) (h2 : c.ps.length ≤ 1000000) (hu : c.us ≠ []) (hp : c.ps ≠ []) : SpecB Tryz.prog 31 [.agg (cfgC c)] [] (.agg [.hs 7 c.us.length, .int .i64 c.store, .hs 500012 c.ps.length]) [(7, .box 58 (c.us.map uniC).flatten), (500012, .box 65 (c.ps.map parC).flatten)] := by
  have h := SpecB.warm (a := 7) (b := 500012) (ra := c.us.map uniC) (rb := c.ps.map parC) (by decide) (by simpa using hu) (by simpa using hp) (uni_flat c.us).1 (par_flat c.ps).1 (uni_flat c.us).2 (par_flat c.ps).2 (by rw [List.length_map, List.length_map]; exact Prog_B c h1 h2)
  rw [List.length_map, List.length_map] at h
  exact h
theorem Prog_hs1 (c : CfgT) (h1 : c.us.length ≤ 1000000) (h2 : c.ps.length ≤ 1000000) (hu : c.us = []) (hp : c.ps ≠ []) : SpecB Tryz.prog 31 [.agg (cfgC c)] [] (.agg [.sl 5 [], .int .i64 c.store, .hs 500012 c.ps.length]) [(500012, .box 65 (c.ps.map parC).flatten)] := by
  have hB := Prog_B c h1 h2
  rw [hu] at hB
  have h := SpecB.warm1 (a := 7) (b := 500012) (rb := c.ps.map parC) (by decide) (prvB_no rfl rfl) (by simpa using hp) (par_flat c.ps).1 (par_flat c.ps).2 (by rw [List.length_map]; exact hB)
  rw [List.length_map] at h
  exact h
theorem flat_cvt (os : Nat → Option Ob) (f : Nat → Option Nat) : ∀ {l : List V}, (∀ v ∈ l, flatV v = true) → cvtL os f l = some l
  | [], _ => rfl
  | v :: l, h => by
    have h1 := h v List.mem_cons_self
    have ih := flat_cvt os f (l := l) (fun x hx => h x (List.mem_cons_of_mem _ hx))
    have hv : cvt os f v = some v := by cases v <;> first | rfl | (cases h1)
    unfold cvtL
    rw [hv, ih]
theorem uni_cvt (os : Nat → Option Ob) (f : Nat → Option Nat) (us : List UniT) : cvtL os f (us.map uniC).flatten = some (us.map uniC).flatten := flat_cvt os f (uni_flat us).1
theorem par_cvt (os : Nat → Option Ob) (f : Nat → Option Nat) (ps : List ParT) : cvtL os f (ps.map parC).flatten = some (ps.map parC).flatten := flat_cvt os f (par_flat ps).1
theorem uni_refs (us : List UniT) : V.refsL (us.map uniC).flatten = [] := (uni_flat us).2
theorem par_refs (ps : List ParT) : V.refsL (ps.map parC).flatten = [] := (par_flat ps).2
end Go.Proofs.YtedbbinlcdgkoaaGreatDoor
