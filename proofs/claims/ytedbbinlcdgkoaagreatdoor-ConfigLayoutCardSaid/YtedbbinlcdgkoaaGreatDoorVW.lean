import Derived.Test.YtedbbinlcdgkoaaGreatDoorVU
/- The value machine: a slice in a box's cell that is only read from here on. No program in sight. -/
namespace Go.Proofs.YtedbbinlcdgkoaaGreatDoor
open Go.RowKit
set_option linter.unusedVariables false
set_option linter.unusedSimpArgs false
section
variable {P : Program} {F : Env} {s : St} {Q : Exit → St → Prop}
theorem VWp.lookB {c : Code} (o i : Nat) {T : TypeId} {cs : List V} {d n k : Nat} {E : TypeId} {rows : List (List V)} (ho : s.o o = some (.box T cs)) (hx : cs[i]? = some (.own d n)) (hd : s.o d = some (.arr k E rows)) (hn : rows.length = n) (hpv : prvB d rows = true)
    (h : VWp P F c Q ⟨s.t, up s.o o (some (.box T (cs.set i (.sl k rows))))⟩) : VWp P F c Q s := fun β a W hs => by
  obtain ⟨hb, us, rs, g1, g2, g3⟩ := hs.objs.box o T cs ho
  have hi : i < cs.length := (List.getElem?_eq_some_iff.1 hx).1
  obtain ⟨u, hu, hru⟩ := RepL.get g3 i hi
  have hxe : cs[i] = .own d n := (List.getElem?_eq_some_iff.1 hx).2
  rw [hxe] at hru
  have hv : u = β.sv d := hru.2 _ (by show svOf _ _ d _ = _; unfold svOf; simp only [hd, hn, if_true])
  have hl : Rep (sit F β s.o W) (.sl k rows) u := by rw [hv]; exact hs.objs.lie hd hpv
  have hrep := g3.set i (x := .sl k rows) (u := u) hl
  have hlt : i < us.length := (List.getElem?_eq_some_iff.1 hu).1
  have hge : us[i] = u := (List.getElem?_eq_some_iff.1 hu).2
  rw [← hge, List.set_getElem_self] at hrep
  refine h _ a W (hs.setBox (W' := W) ho (Chg.refl _ _) g1 g2 hrep (fun r hr => ?_))
  have : ∀ r ∈ V.refsL (cs.set i (.sl k rows)), r ∈ V.refsL cs := by
    clear hr hrep hlt hge hl hv hru hxe hu g3 hx ho h g1 hi
    induction cs generalizing i with
    | nil => intro r hr; cases hr
    | cons y ys ih =>
      intro r hr
      cases i with
      | zero =>
        rcases List.mem_append.1 hr with q | q
        · cases q
        · exact List.mem_append_right _ q
      | succ i =>
        rcases List.mem_append.1 hr with q | q
        · exact List.mem_append_left _ q
        · exact List.mem_append_right _ (ih i r q)
  exact hs.closed.o o T cs ho r (this r hr)
end
def LeR : List (List V) → List (List V) → Prop
  | [], [] => True
  | r :: rs, r' :: rs' => LeL r r' ∧ LeR rs rs'
  | _, _ => False
theorem LeL.at {S : Sit} : ∀ {l m : List V} {b p : Nat}, LeL l m → AtL S l b p → AtL S m b p
  | [], [], _, _, _, _ => trivial
  | x :: xs, y :: ys, b, p, h, k => by
    obtain ⟨⟨k1, c, k2, k3, k4⟩, k5⟩ := k
    exact ⟨⟨k1, c, k2, k3, h.1 _ _ k4⟩, LeL.at h.2 k5⟩
  | [], _ :: _, _, _, h, _ => h.elim
  | _ :: _, [], _, _, h, _ => h.elim
theorem LeL.len : ∀ {l m : List V}, LeL l m → l.length = m.length
  | [], [], _ => rfl
  | _ :: _, _ :: _, h => congrArg (· + 1) (LeL.len h.2)
  | [], _ :: _, h => h.elim
  | _ :: _, [], h => h.elim
theorem LeR.at {S : Sit} : ∀ {l m : List (List V)} {b p : Nat}, LeR l m → AtR S l b p → AtR S m b p
  | [], [], _, _, _, _ => trivial
  | x :: xs, y :: ys, b, p, h, k => ⟨h.1.at k.1, by rw [← h.1.len]; exact LeR.at h.2 k.2⟩
  | [], _ :: _, _, _, h, _ => h.elim
  | _ :: _, [], _, _, h, _ => h.elim
theorem LeR.len : ∀ {l m : List (List V)}, LeR l m → l.length = m.length
  | [], [], _ => rfl
  | _ :: _, _ :: _, h => congrArg (· + 1) (LeR.len h.2)
  | [], _ :: _, h => h.elim
  | _ :: _, [], h => h.elim
theorem LeR.row {k : Nat} : ∀ {l m : List (List V)}, LeR l m → (∀ r ∈ l, r.length = k) → ∀ r ∈ m, r.length = k
  | [], [], _, h => h
  | x :: xs, y :: ys, h, k => fun r hr => by
    rcases List.mem_cons.1 hr with rfl | hr
    · rw [← h.1.len]; exact k x List.mem_cons_self
    · exact LeR.row h.2 (fun q hq => k q (List.mem_cons_of_mem _ hq)) r hr
  | [], _ :: _, h, _ => h.elim
  | _ :: _, [], h, _ => h.elim
theorem LeV.sl {k : Nat} {l m : List (List V)} (h : LeR l m) (hc : cleanR m) : LeV (.sl k l) (.sl k m) := fun S v ⟨a, c, h1, h2, h3, h4, h5, h6, h7⟩ => by
  have hl := h.len
  refine ⟨a, c, by rw [← hl]; exact h1, by rw [← hl]; exact h2, h3, fun e => ?_, h.row h5, hc, fun x hx => ⟨fun hne => (h7 x hx).1 (fun e => hne (List.eq_nil_of_length_eq_zero (by rw [← hl, e]; rfl))), h.at (h7 x hx).2⟩⟩
  have := h4 e
  rw [this] at hl
  exact List.eq_nil_of_length_eq_zero hl.symm
end Go.Proofs.YtedbbinlcdgkoaaGreatDoor
