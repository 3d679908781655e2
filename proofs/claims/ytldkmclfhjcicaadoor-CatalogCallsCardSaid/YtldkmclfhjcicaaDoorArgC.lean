import Derived.Test.YtldkmclfhjcicaaDoorArgO
/- Arguments that are slices of structs, catalogs, entries, as the value machine takes them. -/
namespace Go.Proofs.YtldkmclfhjcicaaDoor
open Go.RowKit
set_option linter.unusedVariables false
theorem list_of {α : Type} {p : Nat → α → Prop} : ∀ n : Nat, (∀ i, i < n → ∃ x, p i x) → ∃ l : List α, l.length = n ∧ ∀ (i : Nat) (h : i < l.length), p i l[i]
  | 0, _ => ⟨[], rfl, fun i h => by simp at h⟩
  | n + 1, h => by
    obtain ⟨l, hl, hp⟩ := list_of n (fun i hi => h i (by omega))
    obtain ⟨x, hx⟩ := h n (by omega)
    refine ⟨l ++ [x], by simp [hl], fun i hi => ?_⟩
    have hi' : i < n + 1 := by simpa [hl] using hi
    by_cases e : i < l.length
    · rw [List.getElem_append_left e]; exact hp i e
    · have : i = n := by omega
      subst this
      simp only [List.getElem_append_right (Nat.le_of_not_lt e), hl, Nat.sub_self, List.getElem_cons_zero]
      exact hx
section
open Go.ChangeShapes Go.WideShapes Go.Deep
variable {H : Type} {enc : TypeId × Value → H} {P : Program} {W : World} {base : Nat} {spare : Nat → Bool} {held : Bool}
theorem rows_arg {α : Type} (f : α → List V) (vs : α → List Value) {k : Nat} {t e : TypeId} (ht : P.underlying t = some (.slice e)) (hC : P.cellsOf e = k) (hlen : ∀ x, (f x).length = k) (hcl : ∀ x, V.refsL (f x) = []) (hrep : ∀ S x, RepL S (f x) (vs x)) (hone : ∀ x, ∀ u ∈ vs x, u.oneCell' = true)
    (rd : ∀ fuel cs y, DataW.trod enc P W base spare held fuel e cs = some y → ∃ x, cs = vs x) {a : Option Addr} {len cap : Nat} (hs : ∀ x, a = some x → x.spot = none) {fuel : Nat} {y : DataW H × List MemPlace} (h : DataW.trod enc P W base spare held fuel t [.slice a len cap] = some y) :
    ∃ l : List α, l.length ≤ 9223372036854775807 ∧ Rep (S0 (fun _ _ => False) W) (.sl k (l.map f)) (.slice a len cap) := by
  have hrow : ∀ (l : List α), ∀ r ∈ l.map f, r.length = k := fun l r hr => by obtain ⟨x, _, rfl⟩ := List.mem_map.1 hr; exact hlen x
  rcases open_slice ht h with ⟨hcs, _⟩ | ⟨x, l, c, m, n, D, Pl, hcs, _, hl, hm, hmm, _, hi⟩
  · simp at hcs
    obtain ⟨rfl, rfl, rfl⟩ := hcs
    exact ⟨[], by simp, LeV.nil k _ _ rfl⟩
  · simp at hcs
    obtain ⟨rfl, rfl, rfl⟩ := hcs
    have hsp := hs _ rfl
    obtain ⟨L, hL, hp⟩ := list_of (p := fun i z => ∀ j, j < k → W.cell? (x.add (i * k + j)) = (vs z)[j]?) len (fun i hil => by
      have him : i < m := by rw [hmm]; split <;> omega
      obtain ⟨cs, hc, ht'⟩ := hi i him
      rw [hC] at hc
      obtain ⟨_, _, hat⟩ := World.cells?_some hc
      obtain ⟨z, rfl⟩ := rd _ _ _ ht'
      refine ⟨z, fun j hj => ?_⟩
      have := hat j hj
      rw [add_add] at this; exact this)
    have hml : len ≤ 9223372036854775807 := by unfold maxLen at hm; omega
    refine ⟨L, by omega, some x, cap, by simp [hL], by simpa [hL] using hl, hm, (fun e => by cases e), hrow L, (fun r hr => by obtain ⟨z, _, rfl⟩ := List.mem_map.1 hr; exact hcl z), fun y hy => ?_⟩
    injection hy with hy; subst hy
    refine ⟨hsp, AtR_of (k := k) (hrow L) (fun i hi => ?_)⟩
    have hi' : i < L.length := by simpa using hi
    rw [List.getElem_map]
    refine AtL.of_get fun j hj => ?_
    have hjk : j < k := by rw [← hlen L[i]]; exact hj
    obtain ⟨u, hu, hru⟩ := RepL.get (hrep (S0 (fun _ _ => False) W) L[i]) j hj
    have hc := hp i hi' j hjk
    obtain ⟨b, off, sp⟩ := x
    simp only at hsp; subst hsp
    have hadd : (⟨b, off, none⟩ : Addr).add (i * k + j) = ⟨b, off + i * k + j, none⟩ := by simp [Addr.add, Nat.add_assoc]
    rw [hadd, hu] at hc
    exact ⟨fun q => q, u, hc, hone _ u (List.mem_of_getElem? hu), hru⟩
theorem cell_spot {r : Reach} {b t e : TypeId} {a : Option Addr} {len cap : Nat} (ht : P.underlying t = some (.slice e)) (h : Cell.okWide P W r b t (.slice a len cap)) : ∀ x, a = some x → x.spot = none := by
  rintro x rfl
  simp only [Cell.okWide, ht, Cell.ok] at h
  exact h.2.2.2.1
def entL4 (e : Ent) : List Value := [.string ⟨e.name.toArray⟩, .int .i64 e.unit, .string ⟨e.serial.toArray⟩, .int .i64 e.file]
def grpL2 (g : Grp) : List Value := [.string ⟨g.base.toArray⟩, .int .i64 g.limit]
theorem ent_trod {fuel : Nat} {cs : List Value} {x : DataW H × List MemPlace} (h : DataW.trod enc Tryd.prog W base spare held fuel 50 cs = some x) : ∃ e : Ent, cs = entL4 e := by
  obtain ⟨hl, m, hf⟩ := trod_cells Tryd.underlying50 (by kernel_rfl) (by kernel_rfl) h
  obtain ⟨v0, y0, c0, t0⟩ := hf 0 _ rfl
  obtain ⟨v1, y1, c1, t1⟩ := hf 1 _ rfl
  obtain ⟨v2, y2, c2, t2⟩ := hf 2 _ rfl
  obtain ⟨v3, y3, c3, t3⟩ := hf 3 _ rfl
  obtain ⟨n0, e0, _, g0⟩ := DataW.trod_string Tryd.underlying9 t0
  obtain ⟨n1, e1, _, g1⟩ := DataW.trod_int Tryd.underlying3 t1
  obtain ⟨n2, e2, _, g2⟩ := DataW.trod_string Tryd.underlying9 t2
  obtain ⟨n3, e3, _, g3⟩ := DataW.trod_int Tryd.underlying3 t3
  cases e0; cases e1; cases e2; cases e3
  have hl : cs.length = 4 := hl
  refine ⟨⟨n0.data.toList, n1, n2.data.toList, n3⟩, ?_⟩
  match cs, hl with
  | [_, _, _, _], _ =>
    simp only [List.getElem?_cons_zero, List.getElem?_cons_succ, Option.some.injEq] at c0 c1 c2 c3
    rw [c0, c1, c2, c3]; rfl
theorem grp_trod {fuel : Nat} {cs : List Value} {x : DataW H × List MemPlace} (h : DataW.trod enc Tryd.prog W base spare held fuel 61 cs = some x) : ∃ g : Grp, cs = grpL2 g := by
  obtain ⟨hl, m, hf⟩ := trod_cells Tryd.underlying61 (by kernel_rfl) (by kernel_rfl) h
  obtain ⟨v0, y0, c0, t0⟩ := hf 0 _ rfl
  obtain ⟨v1, y1, c1, t1⟩ := hf 1 _ rfl
  obtain ⟨n0, e0, _, g0⟩ := DataW.trod_string Tryd.underlying9 t0
  obtain ⟨n1, e1, _, g1⟩ := DataW.trod_int Tryd.underlying3 t1
  cases e0; cases e1
  have hl : cs.length = 2 := hl
  refine ⟨⟨n0.data.toList, n1⟩, ?_⟩
  match cs, hl with
  | [_, _], _ =>
    simp only [List.getElem?_cons_zero, List.getElem?_cons_succ, Option.some.injEq] at c0 c1
    rw [c0, c1]; rfl
theorem ent_repL (S : Sit) (e : Ent) : RepL S (entC e) (entL4 e) := ⟨_, _, rfl, rfl, _, _, rfl, rfl, _, _, rfl, rfl, _, _, rfl, rfl, rfl⟩
theorem grp_repL (S : Sit) (g : Grp) : RepL S (grpC g) (grpL2 g) := ⟨_, _, rfl, rfl, _, _, rfl, rfl, rfl⟩
set_option maxRecDepth 100000 in
/-- an entry by value -/
theorem ent_arg {r : Reach} {b0 : Nat} {v : Value} {d : DataW H} {p : List MemPlace} (hv : Value.okWide Tryd.prog W r b0 50 v) (h : DataW.Trod enc Tryd.prog W base spare held 50 v d p) : ∃ e : Ent, v = .agg (entL4 e).toArray := by
  obtain ⟨cs, rfl⟩ := op_agg Tryd.underlying50 hv
  obtain ⟨fuel, hf⟩ := h
  obtain ⟨e, he⟩ := ent_trod hf
  have he : cs.toList = entL4 e := he
  exact ⟨e, by rw [← he]⟩
theorem ent_vrep {S : Sit} (e : Ent) : Rep S (entV e) (.agg (entL4 e).toArray) := ⟨_, rfl, by simp [entL4, Value.oneCell'], ent_repL S e⟩
set_option maxRecDepth 100000 in
/-- a catalog by value -/
theorem cat_arg {r : Reach} {b0 : Nat} {v : Value} {d : DataW H} {p : List MemPlace} (hv : Value.okWide Tryd.prog W r b0 36 v) (h : DataW.Trod enc Tryd.prog W base spare held 36 v d p) :
    ∃ (ve vg : Value) (c : Cat), v = .agg #[ve, vg] ∧ c.es.length ≤ 9223372036854775807 ∧ c.gs.length ≤ 9223372036854775807 ∧ Rep (S0 (fun _ _ => False) W) (catV c) (.agg #[ve, vg]) := by
  simp only [Value.okWide, Tryd.underlying36] at hv
  obtain ⟨cs, rfl, _, ts, hts, _, hrow⟩ := hv
  have hts2 : Tryd.prog.cellTypes Tryd.prog.depth 36 = some [33, 34] := by kernel_rfl
  rw [hts2] at hts; injection hts with hts; subst hts
  obtain ⟨fuel, hf⟩ := h
  have hf : DataW.trod enc Tryd.prog W base spare held fuel 36 cs.toList = some _ := hf
  obtain ⟨hl, m, hfs⟩ := trod_cells Tryd.underlying36 (by kernel_rfl) (by kernel_rfl) hf
  obtain ⟨v0, y0, c0, t0⟩ := hfs 0 _ rfl
  obtain ⟨v1, y1, c1, t1⟩ := hfs 1 _ rfl
  have hl : cs.toList.length = 2 := hl
  have hcs : cs = #[v0, v1] := by
    apply Array.ext'
    match h : cs.toList, hl with
    | [_, _], _ =>
      rw [h] at c0 c1
      simp only [List.getElem?_cons_zero, List.getElem?_cons_succ, Option.some.injEq] at c0 c1
      rw [c0, c1]
  subst hcs
  obtain ⟨u0, k0, w0⟩ := hrow 0 v0 rfl
  obtain ⟨u1, k1, w1⟩ := hrow 1 v1 rfl
  injection k0 with k0; subst k0
  injection k1 with k1; subst k1
  have s0 : ∃ a len cap, v0 = .slice a len cap := by
    rcases open_slice Tryd.underlying33 t0 with ⟨q, _⟩ | ⟨a, len, cap, _, _, _, _, q, _⟩
    · injection q with q; exact ⟨_, _, _, q⟩
    · injection q with q; exact ⟨_, _, _, q⟩
  have s1 : ∃ a len cap, v1 = .slice a len cap := by
    rcases open_slice Tryd.underlying34 t1 with ⟨q, _⟩ | ⟨a, len, cap, _, _, _, _, q, _⟩
    · injection q with q; exact ⟨_, _, _, q⟩
    · injection q with q; exact ⟨_, _, _, q⟩
  obtain ⟨a0, l0, p0, rfl⟩ := s0
  obtain ⟨a1, l1, p1, rfl⟩ := s1
  obtain ⟨es, e1, e2⟩ := rows_arg (k := 4) entC entL4 Tryd.underlying33 (by kernel_rfl) (fun _ => rfl) (fun _ => rfl) ent_repL (fun x u hu => by simp [entL4] at hu; rcases hu with rfl | rfl | rfl | rfl <;> rfl) (fun _ _ _ h => ent_trod h) (cell_spot Tryd.underlying33 w0) t0
  obtain ⟨gs, g1, g2⟩ := rows_arg (k := 2) grpC grpL2 Tryd.underlying34 (by kernel_rfl) (fun _ => rfl) (fun _ => rfl) grp_repL (fun x u hu => by simp [grpL2] at hu; rcases hu with rfl | rfl <;> rfl) (fun _ _ _ h => grp_trod h) (cell_spot Tryd.underlying34 w1) t1
  refine ⟨_, _, ⟨es, gs⟩, rfl, e1, g1, [_, _], rfl, ?_, _, _, rfl, e2, _, _, rfl, g2, rfl⟩
  intro u hu
  simp at hu
  rcases hu with rfl | rfl <;> rfl
end
end Go.Proofs.YtldkmclfhjcicaaDoor
