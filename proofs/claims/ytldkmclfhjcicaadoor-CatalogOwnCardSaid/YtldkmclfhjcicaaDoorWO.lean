import Derived.Outline
import Derived.Test.YtldkmclfhjcicaaDoorBw
import Derived.Test.YtldkmclfhjcicaaDoorVT
/- Add, Remove and Define of the catalog: what they return may be written. -/
namespace Go.Proofs.YtldkmclfhjcicaaDoor
open Go.RowKit
set_option linter.unusedVariables false
set_option linter.unusedSimpArgs false
def catO (d : Cat) : List (Nat × Ob) := [(1, hsOb 4 50 d.es.length), (2, hsOb 2 61 d.gs.length)]
def catH (i j : Nat) (d : Cat) : V := .agg [hsV i 4 d.es.length, hsV j 2 d.gs.length]
theorem catO_at {d : Cat} {o : Nat} {x : Ob} (h : lko (catO d) o = some x) : (o = 1 ∧ x = hsOb 4 50 d.es.length) ∨ (o = 2 ∧ x = hsOb 2 61 d.gs.length) := by
  unfold catO lko at h
  split at h
  · rename_i e; injection h with h; exact .inl ⟨e, h.symm⟩
  · unfold lko at h
    split at h
    · rename_i e; injection h with h; exact .inr ⟨e, h.symm⟩
    · cases h
theorem cat_hs {w w' : World} {ue ug : Value} {d : Cat} (ho : OwC w' w.heap.size ue ug d) : ∃ pb : Nat → Nat,
    (∀ o T c, lko (catO d) o = some (.box T c) → w.heap.size ≤ pb o ∧ ∃ cs rest : List Value, w'.heap[pb o]? = some (.cells (cs ++ rest).toArray T (0, 0)) ∧ (∀ c ∈ cs, c.oneCell' = true) ∧ ∀ S, RepL S c cs) ∧
    (∀ o o' T c T' c', lko (catO d) o = some (.box T c) → lko (catO d) o' = some (.box T' c') → pb o = pb o' → o = o') ∧ ∀ S : Sit, S.pb = pb → Rep S (catH 1 2 d) (.agg #[ue, ug]) := by
  obtain ⟨g1, a1, a2⟩ := hs_one ho.1
  obtain ⟨g2, b1, b2⟩ := hs_one ho.2
  have box : ∀ {k E n : Nat} {T : TypeId} {c : List V}, hsOb k E n = .box T c → n ≠ 0 ∧ T = E ∧ c = List.replicate (n * k) .any := fun {k E n T c} h => by
    unfold hsOb at h
    split at h
    · cases h
    · rename_i hn; injection h with h1 h2; exact ⟨hn, h1.symm, h2.symm⟩
  refine ⟨fun o => if o = 1 then g1 else g2, fun o T c h => ?_, fun o o' T c T' c' h h' hpb => ?_, fun S hS => ?_⟩
  · rcases catO_at h with ⟨rfl, eh⟩ | ⟨rfl, eh⟩
    · obtain ⟨hn, rfl, rfl⟩ := box eh.symm
      obtain ⟨k1, rest, k2, k3⟩ := a1 hn
      exact ⟨k1, _, rest, k2, cE_one _, fun S => by rw [← k3]; exact rep_any S _⟩
    · obtain ⟨hn, rfl, rfl⟩ := box eh.symm
      obtain ⟨k1, rest, k2, k3⟩ := b1 hn
      exact ⟨k1, _, rest, k2, cG_one _, fun S => by rw [← k3]; exact rep_any S _⟩
  · rcases catO_at h with ⟨rfl, eh⟩ | ⟨rfl, eh⟩ <;> rcases catO_at h' with ⟨rfl, eh'⟩ | ⟨rfl, eh'⟩ <;> first | rfl | skip
    · obtain ⟨hn, rfl, rfl⟩ := box eh.symm
      obtain ⟨hn', rfl, rfl⟩ := box eh'.symm
      obtain ⟨_, _, k2, _⟩ := a1 hn
      obtain ⟨_, _, k4, _⟩ := b1 hn'
      have hpb : g1 = g2 := hpb
      rw [hpb, k4] at k2
      simp only [Option.some.injEq, Obj.cells.injEq] at k2
      exact absurd k2.2.1 (by decide)
    · obtain ⟨hn, rfl, rfl⟩ := box eh.symm
      obtain ⟨hn', rfl, rfl⟩ := box eh'.symm
      obtain ⟨_, _, k2, _⟩ := b1 hn
      obtain ⟨_, _, k4, _⟩ := a1 hn'
      have hpb : g2 = g1 := hpb
      rw [hpb, k4] at k2
      simp only [Option.some.injEq, Obj.cells.injEq] at k2
      exact absurd k2.2.1 (by decide)
  · refine ⟨[ue, ug], rfl, ?_, _, _, rfl, a2 S 1 (by rw [hS]; rfl), _, _, rfl, b2 S 2 (by rw [hS]; rfl), rfl⟩
    intro u hu
    rcases List.mem_cons.1 hu with rfl | hu
    · rcases (a2 S 1 (by rw [hS]; rfl)) with _
      rcases ho.1.2 with ⟨hv, _⟩ | ⟨g, cap, cur, hv, _⟩ <;> rw [hv] <;> rfl
    · rw [List.mem_singleton] at hu; subst hu
      rcases ho.2.2 with ⟨hv, _⟩ | ⟨g, cap, cur, hv, _⟩ <;> rw [hv] <;> rfl
theorem catH_refs {d : Cat} {q : Nat × Option Nat} (h : q ∈ (catH 1 2 d).refs) : (q = (1, none) ∧ d.es.length ≠ 0) ∨ (q = (2, none) ∧ d.gs.length ≠ 0) := by
  have h : q ∈ (hsV 1 4 d.es.length).refs ++ ((hsV 2 2 d.gs.length).refs ++ []) := h
  rw [hs_refs, hs_refs, List.append_nil] at h
  rcases List.mem_append.1 h with h | h
  · split at h
    · cases h
    · rename_i hn; rw [List.mem_singleton] at h; exact .inl ⟨h, hn⟩
  · split at h
    · cases h
    · rename_i hn; rw [List.mem_singleton] at h; exact .inr ⟨h, hn⟩
theorem catH_ok {d : Cat} {q : Nat × Option Nat} (h : q ∈ (catH 1 2 d).refs) : RefOk (lko (catO d)) q := by
  rcases catH_refs h with ⟨rfl, hn⟩ | ⟨rfl, hn⟩
  · exact ⟨_, _, by show some (hsOb 4 _ d.es.length) = _; rw [hsOb_pos hn]⟩
  · exact ⟨_, _, by show some (hsOb 2 _ d.gs.length) = _; rw [hsOb_pos hn]⟩
theorem catO_box {d : Cat} (o : Nat) (x : Ob) (h : lko (catO d) o = some x) : (∃ T c, x = .box T c ∧ V.refsL c = []) ∨ ∃ k E, x = .arr k E [] := by
  have : ∀ k E n, (∃ T c, hsOb k E n = .box T c ∧ V.refsL c = []) ∨ ∃ k' E', hsOb k E n = .arr k' E' [] := fun k E n => by
    unfold hsOb; split
    · exact .inr ⟨_, _, rfl⟩
    · exact .inl ⟨_, _, rfl, refs_any _⟩
  rcases catO_at h with ⟨_, rfl⟩ | ⟨_, rfl⟩ <;> exact this _ _ _
theorem Remove_hs (c : Cat) (s : Bs) : SpecB Tryd.prog 26 [catV c, .str s] [] (.tup [catH 1 2 (removeC c s).1, .int .i64 (removeC c s).2]) (catO (removeC c s).1) := by
  have hr : ∀ q ∈ (V.tup [catH 1 2 (removeC c s).1, .int .i64 (removeC c s).2]).refs, q ∈ (catH 1 2 (removeC c s).1).refs := fun q hq => by
    rcases List.mem_append.1 hq with h | h; exact h; cases h
  refine specB_new ⟨_, Tryd.func26, rfl, by decide⟩ rfl (fun q hq => catH_ok (hr q hq)) (fun o n hq => by rcases catH_refs (hr _ hq) with ⟨h, _⟩ | ⟨h, _⟩ <;> cases h) catO_box (fun M w vs hM h => ?_)
  obtain ⟨u, v, rfl, hu, rfl⟩ := repL2 h
  obtain ⟨ve, vg, rfl, hc⟩ := rep_cat hu
  refine (Remove_any w ve vg c hc ⟨s.toArray⟩).mono ?_
  rintro e' w' ⟨ue, ug, rfl, ho, hc⟩
  obtain ⟨pb, p1, p2, p3⟩ := cat_hs ho
  exact ⟨_, rfl, hc, pb, p1, p2, tup2 (p3 _ rfl) rfl⟩
theorem Define_hs (c : Cat) (s : Bs) (l : Int) : SpecB Tryd.prog 17 [catV c, .str s, .int .i64 l] [] (.tup [catH 1 2 (defineC c s l).1, .int .i64 (defineC c s l).2]) (catO (defineC c s l).1) := by
  have hr : ∀ q ∈ (V.tup [catH 1 2 (defineC c s l).1, .int .i64 (defineC c s l).2]).refs, q ∈ (catH 1 2 (defineC c s l).1).refs := fun q hq => by
    rcases List.mem_append.1 hq with h | h; exact h; cases h
  refine specB_new ⟨_, Tryd.func17, rfl, by decide⟩ rfl (fun q hq => catH_ok (hr q hq)) (fun o n hq => by rcases catH_refs (hr _ hq) with ⟨h, _⟩ | ⟨h, _⟩ <;> cases h) catO_box (fun M w vs hM h => ?_)
  obtain ⟨u, v, t, rfl, hu, rfl, rfl⟩ := repL3 h
  obtain ⟨ve, vg, rfl, hc⟩ := rep_cat hu
  refine (Define_any w ve vg c hc ⟨s.toArray⟩ l).mono ?_
  rintro e' w' ⟨ue, ug, rfl, ho, hc⟩
  obtain ⟨pb, p1, p2, p3⟩ := cat_hs ho
  exact ⟨_, rfl, hc, pb, p1, p2, tup2 (p3 _ rfl) rfl⟩
theorem Add_hs (c : Cat) (e : Ent) : SpecB Tryd.prog 21 [catV c, entV e] [] (.tup [catH 1 2 (addC c e).1, .any, .int .i64 (addC c e).2.2]) (catO (addC c e).1) := by
  have hr : ∀ q ∈ (V.tup [catH 1 2 (addC c e).1, .any, .int .i64 (addC c e).2.2]).refs, q ∈ (catH 1 2 (addC c e).1).refs := fun q hq => by
    rcases List.mem_append.1 hq with h | h; exact h; cases h
  refine specB_new ⟨_, Tryd.func21, rfl, by decide⟩ rfl (fun q hq => catH_ok (hr q hq)) (fun o n hq => by rcases catH_refs (hr _ hq) with ⟨h, _⟩ | ⟨h, _⟩ <;> cases h) catO_box (fun M w vs hM h => ?_)
  obtain ⟨u, v, rfl, hu, hv⟩ := repL2 h
  obtain ⟨ve, vg, rfl, hc⟩ := rep_cat hu
  obtain rfl := rep_ent hv
  refine (Add_any w ve vg c hc ⟨e.name.toArray⟩ ⟨e.serial.toArray⟩ e.unit e.file).mono ?_
  rintro e' w' ⟨ue, ug, ur, rfl, ho, _, hc⟩
  have h0 : (⟨(⟨e.name.toArray⟩ : ByteArray).data.toList, e.unit, (⟨e.serial.toArray⟩ : ByteArray).data.toList, e.file⟩ : Ent) = e := rfl
  rw [h0, addP_eq] at ho
  obtain ⟨pb, p1, p2, p3⟩ := cat_hs ho
  exact ⟨_, rfl, hc, pb, p1, p2, tup3 (p3 _ rfl) trivial (by rw [h0, addP_eq]; rfl)⟩
end Go.Proofs.YtldkmclfhjcicaaDoor
