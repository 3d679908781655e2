import Derived.Test.YtldkmclfhjcicaaGreatDoorVP
import Derived.Test.YtldkmclfhjcicaaGreatDoorTT
import Derived.Test.YtldkmclfhjcicaaGreatDoorCatP
import Derived.Test.YtldkmclfhjcicaaGreatDoorCMem
/- The catalog as the value machine sees it. -/
namespace Go.Proofs.YtldkmclfhjcicaaGreatDoor
open Go.RowKit
set_option linter.unusedVariables false
set_option linter.unusedSimpArgs false
theorem mixed : Tryz.prog.follows .mixedOrders = true := by kernel_rfl

def entC (e : Ent) : List V := [.str e.name, .int .i64 e.unit, .str e.serial, .int .i64 e.file]
def grpC (g : Grp) : List V := [.str g.base, .int .i64 g.limit]
def entsV (l : List Ent) : V := .sl 4 (l.map entC)
def grpsV (l : List Grp) : V := .sl 2 (l.map grpC)
def catV (c : Cat) : V := .agg [entsV c.es, grpsV c.gs]
def entV (e : Ent) : V := .agg (entC e)
def intsV (l : List Nat) : V := .sl 1 (l.map fun (n : Nat) => [V.int .i64 (n : Int)])
def bytesV (l : Bs) : V := .sl 1 (bytesR l)
attribute [go_sem] catV entsV grpsV entV entC grpC
theorem entC_fold (x : Ent) : [V.str x.name, .int .i64 x.unit, .str x.serial, .int .i64 x.file] = entC x := rfl
section
variable {M : Nat → Nat → Prop} {w w' : World}
theorem rep_rdk {S : Sit} {k : Nat} {rows : List (List V)} {v : Value} {xs : List Value} (h : Rep S (.sl k rows) v) (hx : ∀ cs, RepL S rows.flatten cs → cs = xs) : RdK S.W k v rows.length xs := by
  obtain ⟨ad, cap, rfl, h1, h2, h3, h4, h5, h6⟩ := h
  cases ad with
  | none =>
    have hr := h3 rfl; subst hr
    have : xs = [] := (hx [] rfl).symm
    subst this
    exact ⟨none, cap, rfl, h1, h2, by simp, (fun _ => rfl), (fun x hx => by cases hx)⟩
  | some x0 =>
    obtain ⟨k1, k2⟩ := h6 x0 rfl
    obtain ⟨cs, c1, c2, c3⟩ := (AtR.flat.1 k2).cells
    have := hx cs c1; subst this
    refine ⟨some x0, cap, rfl, h1, h2, by rw [RepL.length c1, flatten_len h4], (fun e => by cases e), fun x hx => ?_⟩
    injection hx with hx; subst hx
    exact ⟨k1, c3⟩
theorem own_rep {B : Nat} {E : TypeId} {k n : Nat} {v : Value} {xs : List Value} {rows : List (List V)} (h : w'.ownsRow B E k v n xs) (hM : ∀ b p, M b p → b < B) (hn : rows.length = n) (hk : ∀ r ∈ rows, r.length = k) (hcl : cleanR rows)
    (h1 : ∀ u ∈ xs, u.oneCell' = true) (hx : RepL (S0 M w') rows.flatten xs) : Rep (S0 M w') (.sl k rows) v := by
  rcases h.2 with ⟨hv, h0⟩ | ⟨g, cap, cur, hv, hbg, hg, hnc, hcm, hcs, htake⟩
  · have hr : rows = [] := List.eq_nil_of_length_eq_zero (by omega)
    subst hr
    exact ⟨none, 0, by rw [hv]; rfl, Nat.le_refl _, by simp [maxLen], fun _ => rfl, hk, hcl, fun x hx => by cases hx⟩
  · refine ⟨some ⟨g, 0, none⟩, cap, by rw [hv, hn], by omega, hcm, (fun e => by cases e), hk, hcl, fun x hx' => ?_⟩
    injection hx' with hx'; subst hx'
    refine ⟨rfl, AtR.flat.2 (AtL.of_get fun i hi => ⟨fun q => by have := hM _ _ q; simp only at this; omega, ?_⟩)⟩
    obtain ⟨u, hu, hru⟩ := RepL.get hx i hi
    refine ⟨u, ?_, h1 u (List.mem_of_getElem? hu), hru⟩
    have := h.cells (g := g) (by rw [hv]; rfl) i u hu
    rw [add_at] at this; exact this

theorem ents_repL (S : Sit) : ∀ es : List Ent, RepL S (es.map entC).flatten (cE es)
  | [] => rfl
  | e :: es => ⟨_, _, rfl, rfl, _, _, rfl, rfl, _, _, rfl, rfl, _, _, rfl, rfl, ents_repL S es⟩
theorem grps_repL (S : Sit) : ∀ gs : List Grp, RepL S (gs.map grpC).flatten (cG gs)
  | [] => rfl
  | e :: gs => ⟨_, _, rfl, rfl, _, _, rfl, rfl, grps_repL S gs⟩
theorem ents_cells {S : Sit} : ∀ {es : List Ent} {cs : List Value}, RepL S (es.map entC).flatten cs → cs = cE es
  | [], cs, h => h
  | e :: es, cs, h => by
    obtain ⟨_, _, rfl, h1, _, _, rfl, h2, _, _, rfl, h3, _, _, rfl, h4, h⟩ := h
    rw [ents_cells h, h1, h2, h3, h4]; rfl
theorem grps_cells {S : Sit} : ∀ {gs : List Grp} {cs : List Value}, RepL S (gs.map grpC).flatten cs → cs = cG gs
  | [], cs, h => h
  | e :: gs, cs, h => by
    obtain ⟨_, _, rfl, h1, _, _, rfl, h2, h⟩ := h
    rw [grps_cells h, h1, h2]; rfl
theorem ents_row (es : List Ent) : ∀ r ∈ es.map entC, r.length = 4 := fun r hr => by obtain ⟨e, _, rfl⟩ := List.mem_map.1 hr; rfl
theorem grps_row (es : List Grp) : ∀ r ∈ es.map grpC, r.length = 2 := fun r hr => by obtain ⟨e, _, rfl⟩ := List.mem_map.1 hr; rfl
theorem ents_clean (es : List Ent) : cleanR (es.map entC) := fun r hr => by obtain ⟨e, _, rfl⟩ := List.mem_map.1 hr; rfl
theorem grps_clean (es : List Grp) : cleanR (es.map grpC) := fun r hr => by obtain ⟨e, _, rfl⟩ := List.mem_map.1 hr; rfl
theorem rep_cat {S : Sit} {c : Cat} {v : Value} (h : Rep S (catV c) v) : ∃ ve vg, v = .agg #[ve, vg] ∧ RdC S.W ve vg c := by
  obtain ⟨cs, rfl, _, ve, _, rfl, h1, vg, _, rfl, h2, h3⟩ := h
  cases h3
  refine ⟨ve, vg, rfl, ?_, ?_⟩
  · have := rep_rdk h1 (xs := cE c.es) (fun cs h => ents_cells h); rw [List.length_map] at this; exact this
  · have := rep_rdk h2 (xs := cG c.gs) (fun cs h => grps_cells h); rw [List.length_map] at this; exact this
theorem rep_ent {S : Sit} {e : Ent} {v : Value} (h : Rep S (entV e) v) : v = .agg #[.string ⟨e.name.toArray⟩, .int .i64 e.unit, .string ⟨e.serial.toArray⟩, .int .i64 e.file] := by
  obtain ⟨cs, rfl, _, h⟩ := h
  have h : RepL S (([e].map entC).flatten) cs := by simpa using h
  rw [ents_cells h]; rfl
theorem ents_rep {B : Nat} {ue : Value} {es : List Ent} (h : w'.ownsRow B 45 4 ue es.length (cE es)) (hM : ∀ b p, M b p → b < B) : Rep (S0 M w') (entsV es) ue :=
  own_rep (rows := es.map entC) h hM (by simp) (ents_row _) (ents_clean _) (cE_one _) (ents_repL _ _)
theorem ent_rep (S : Sit) (e : Ent) : Rep S (entV e) (.agg #[.string ⟨e.name.toArray⟩, .int .i64 e.unit, .string ⟨e.serial.toArray⟩, .int .i64 e.file]) :=
  ⟨_, rfl, by simp [Value.oneCell'], _, _, rfl, rfl, _, _, rfl, rfl, _, _, rfl, rfl, _, _, rfl, rfl, rfl⟩
theorem tup2 {S : Sit} {x y : V} {u v : Value} (h1 : Rep S x u) (h2 : Rep S y v) : Rep S (.tup [x, y]) (.tuple #[u, v]) := ⟨[u, v], rfl, _, _, rfl, h1, _, _, rfl, h2, rfl⟩
theorem tup3 {S : Sit} {x y z : V} {u v t : Value} (h1 : Rep S x u) (h2 : Rep S y v) (h3 : Rep S z t) : Rep S (.tup [x, y, z]) (.tuple #[u, v, t]) := ⟨[u, v, t], rfl, _, _, rfl, h1, _, _, rfl, h2, _, _, rfl, h3, rfl⟩
theorem repL1 {S : Sit} {x : V} {vs : List Value} (h : RepL S [x] vs) : ∃ u, vs = [u] ∧ Rep S x u := by obtain ⟨u, _, rfl, h1, h2⟩ := h; cases h2; exact ⟨u, rfl, h1⟩
theorem repL2 {S : Sit} {x y : V} {vs : List Value} (h : RepL S [x, y] vs) : ∃ u v, vs = [u, v] ∧ Rep S x u ∧ Rep S y v := by obtain ⟨u, _, rfl, h1, v, _, rfl, h2, h3⟩ := h; cases h3; exact ⟨u, v, rfl, h1, h2⟩
theorem repL3 {S : Sit} {x y z : V} {vs : List Value} (h : RepL S [x, y, z] vs) : ∃ u v t, vs = [u, v, t] ∧ Rep S x u ∧ Rep S y v ∧ Rep S z t := by obtain ⟨u, _, rfl, h1, v, _, rfl, h2, t, _, rfl, h3, h4⟩ := h; cases h4; exact ⟨u, v, t, rfl, h1, h2, h3⟩
theorem rdk_rep {w : World} {k : Nat} {rows : List (List V)} {v : Value} {xs : List Value} (h : RdK w k v rows.length xs) (hk : ∀ r ∈ rows, r.length = k) (hcl : cleanR rows) (h1 : ∀ u ∈ xs, u.oneCell' = true) (hx : ∀ S, RepL S rows.flatten xs) : Rep (S0 (fun _ _ => False) w) (.sl k rows) v := by
  obtain ⟨a, cap, rfl, l1, l2, l3, l4, l5⟩ := h
  refine ⟨a, cap, rfl, l1, l2, (fun e => List.eq_nil_of_length_eq_zero (l4 e)), hk, hcl, fun x hx' => ?_⟩
  obtain ⟨k1, k2⟩ := l5 x hx'
  refine ⟨k1, AtR.flat.2 (AtL.of_get fun i hi => ⟨fun q => q, ?_⟩)⟩
  obtain ⟨u, hu, hru⟩ := RepL.get (hx (S0 (fun _ _ => False) w)) i hi
  exact ⟨u, k2 i u hu, h1 u (List.mem_of_getElem? hu), hru⟩
theorem rdc_rep {w : World} {ve vg : Value} {c : Cat} (h : RdC w ve vg c) : Rep (S0 (fun _ _ => False) w) (catV c) (.agg #[ve, vg]) := by
  have h1 : Rep (S0 (fun _ _ => False) w) (entsV c.es) ve := rdk_rep (rows := c.es.map entC) (by rw [List.length_map]; exact h.1) (ents_row _) (ents_clean _) (cE_one _) (fun S => ents_repL S _)
  have h2 : Rep (S0 (fun _ _ => False) w) (grpsV c.gs) vg := rdk_rep (rows := c.gs.map grpC) (by rw [List.length_map]; exact h.2) (grps_row _) (grps_clean _) (cG_one _) (fun S => grps_repL S _)
  refine ⟨[ve, vg], rfl, ?_, _, _, rfl, h1, _, _, rfl, h2, rfl⟩
  intro u hu
  rcases List.mem_cons.1 hu with rfl | hu
  · exact Rep.oneCell (x := .sl 4 (c.es.map entC)) rfl h1
  · rw [List.mem_singleton] at hu; subst hu
    exact Rep.oneCell (x := .sl 2 (c.gs.map grpC)) rfl h2
theorem ints_repL (S : Sit) : ∀ l : List Nat, RepL S (l.map fun (n : Nat) => [V.int .i64 (n : Int)]).flatten (l.map en)
  | [] => rfl
  | n :: l => ⟨_, _, rfl, rfl, ints_repL S l⟩
end
end Go.Proofs.YtldkmclfhjcicaaGreatDoor
