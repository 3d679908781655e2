import Derived.Test.YtldkmclfhjcicaaDoorVP
import Derived.Test.YtldkmclfhjcicaaDoorTT
import Derived.Test.YtldkmclfhjcicaaDoorCatP
import Derived.Test.YtldkmclfhjcicaaDoorRFind
import Derived.Test.YtldkmclfhjcicaaDoorCAdd
import Derived.Test.YtldkmclfhjcicaaDoorCDisk
import Derived.Test.YtldkmclfhjcicaaDoorCEnc
/- Contracts of the catalog told as what the value machine calls. -/
namespace Go.Proofs.YtldkmclfhjcicaaDoor
open Go.RowKit
set_option linter.unusedVariables false
set_option linter.unusedSimpArgs false
theorem mixed : Tryd.prog.follows .mixedOrders = true := by kernel_rfl

def entC (e : Ent) : List V := [.str e.name, .int .i64 e.unit, .str e.serial, .int .i64 e.file]
def grpC (g : Grp) : List V := [.str g.base, .int .i64 g.limit]
def entsV (l : List Ent) : V := .sl 4 (l.map entC)
def grpsV (l : List Grp) : V := .sl 2 (l.map grpC)
def catV (c : Cat) : V := .agg [entsV c.es, grpsV c.gs]
def entV (e : Ent) : V := .agg (entC e)
def intsV (l : List Nat) : V := .sl 1 (l.map fun (n : Nat) => [V.int .i64 (n : Int)])
def bytesV (l : Bs) : V := .sl 1 (bytesR l)
theorem entC_fold (x : Ent) : [V.str x.name, .int .i64 x.unit, .str x.serial, .int .i64 x.file] = entC x := rfl
theorem grpC_fold (x : Grp) : [V.str x.base, .int .i64 x.limit] = grpC x := rfl

section
variable {M : Nat → Nat → Prop} {w w' : World}
/-- a slice that reads, as the elder words say it -/
theorem rep_rdk {S : Sit} {k : Nat} {rows : List (List V)} {v : Value} {xs : List Value} (h : Rep S (.sl k rows) v) (hx : ∀ cs, RepL S rows.flatten cs → cs = xs) : RdK S.W k v rows.length xs := by
  obtain ⟨ad, cap, rfl, h1, h2, h3, h4, h5, h6⟩ := h
  cases ad with
  | none =>
    have hr := h3 rfl; subst hr
    have : xs = [] := (hx [] rfl).symm
    subst this
    exact ⟨none, cap, rfl, h1, h2, by simp, (fun _ => rfl), (fun x hx => by cases hx)⟩
  | some x0 =>
    obtain ⟨k1, k2⟩ := h6 x0 rfl
    obtain ⟨cs, c1, c2, c3⟩ := (AtR.flat.1 k2).cells
    have := hx cs c1; subst this
    refine ⟨some x0, cap, rfl, h1, h2, by rw [RepL.length c1, flatten_len h4], (fun e => by cases e), fun x hx => ?_⟩
    injection hx with hx; subst hx
    exact ⟨k1, c3⟩
theorem own_rep {B : Nat} {E : TypeId} {k n : Nat} {v : Value} {xs : List Value} {rows : List (List V)} (h : w'.ownsRow B E k v n xs) (hM : ∀ b p, M b p → b < B) (hn : rows.length = n) (hk : ∀ r ∈ rows, r.length = k) (hcl : cleanR rows)
    (h1 : ∀ u ∈ xs, u.oneCell' = true) (hx : RepL (S0 M w') rows.flatten xs) : Rep (S0 M w') (.sl k rows) v := by
  rcases h.2 with ⟨hv, h0⟩ | ⟨g, cap, cur, hv, hbg, hg, hnc, hcm, hcs, htake⟩
  · have hr : rows = [] := List.eq_nil_of_length_eq_zero (by omega)
    subst hr
    exact ⟨none, 0, by rw [hv]; rfl, Nat.le_refl _, by simp [maxLen], fun _ => rfl, hk, hcl, fun x hx => by cases hx⟩
  · refine ⟨some ⟨g, 0, none⟩, cap, by rw [hv, hn], by omega, hcm, (fun e => by cases e), hk, hcl, fun x hx' => ?_⟩
    injection hx' with hx'; subst hx'
    refine ⟨rfl, AtR.flat.2 (AtL.of_get fun i hi => ⟨fun q => by have := hM _ _ q; simp only at this; omega, ?_⟩)⟩
    obtain ⟨u, hu, hru⟩ := RepL.get hx i hi
    refine ⟨u, ?_, h1 u (List.mem_of_getElem? hu), hru⟩
    have := h.cells (g := g) (by rw [hv]; rfl) i u hu
    rw [add_at] at this; exact this

theorem ents_repL (S : Sit) : ∀ es : List Ent, RepL S (es.map entC).flatten (cE es)
  | [] => rfl
  | e :: es => ⟨_, _, rfl, rfl, _, _, rfl, rfl, _, _, rfl, rfl, _, _, rfl, rfl, ents_repL S es⟩
theorem grps_repL (S : Sit) : ∀ gs : List Grp, RepL S (gs.map grpC).flatten (cG gs)
  | [] => rfl
  | e :: gs => ⟨_, _, rfl, rfl, _, _, rfl, rfl, grps_repL S gs⟩
theorem ents_cells {S : Sit} : ∀ {es : List Ent} {cs : List Value}, RepL S (es.map entC).flatten cs → cs = cE es
  | [], cs, h => h
  | e :: es, cs, h => by
    obtain ⟨_, _, rfl, h1, _, _, rfl, h2, _, _, rfl, h3, _, _, rfl, h4, h⟩ := h
    rw [ents_cells h, h1, h2, h3, h4]; rfl
theorem grps_cells {S : Sit} : ∀ {gs : List Grp} {cs : List Value}, RepL S (gs.map grpC).flatten cs → cs = cG gs
  | [], cs, h => h
  | e :: gs, cs, h => by
    obtain ⟨_, _, rfl, h1, _, _, rfl, h2, h⟩ := h
    rw [grps_cells h, h1, h2]; rfl
theorem ents_row (es : List Ent) : ∀ r ∈ es.map entC, r.length = 4 := fun r hr => by obtain ⟨e, _, rfl⟩ := List.mem_map.1 hr; rfl
theorem grps_row (es : List Grp) : ∀ r ∈ es.map grpC, r.length = 2 := fun r hr => by obtain ⟨e, _, rfl⟩ := List.mem_map.1 hr; rfl
theorem ents_clean (es : List Ent) : cleanR (es.map entC) := fun r hr => by obtain ⟨e, _, rfl⟩ := List.mem_map.1 hr; rfl
theorem grps_clean (es : List Grp) : cleanR (es.map grpC) := fun r hr => by obtain ⟨e, _, rfl⟩ := List.mem_map.1 hr; rfl
theorem rep_cat {S : Sit} {c : Cat} {v : Value} (h : Rep S (catV c) v) : ∃ ve vg, v = .agg #[ve, vg] ∧ RdC S.W ve vg c := by
  obtain ⟨cs, rfl, _, ve, _, rfl, h1, vg, _, rfl, h2, h3⟩ := h
  cases h3
  refine ⟨ve, vg, rfl, ?_, ?_⟩
  · have := rep_rdk h1 (xs := cE c.es) (fun cs h => ents_cells h); rw [List.length_map] at this; exact this
  · have := rep_rdk h2 (xs := cG c.gs) (fun cs h => grps_cells h); rw [List.length_map] at this; exact this
theorem rep_ent {S : Sit} {e : Ent} {v : Value} (h : Rep S (entV e) v) : v = .agg #[.string ⟨e.name.toArray⟩, .int .i64 e.unit, .string ⟨e.serial.toArray⟩, .int .i64 e.file] := by
  obtain ⟨cs, rfl, _, h⟩ := h
  have h : RepL S (([e].map entC).flatten) cs := by simpa using h
  rw [ents_cells h]; rfl
theorem cat_rep {B : Nat} {ue ug : Value} {c : Cat} (h : OwC w' B ue ug c) (hM : ∀ b p, M b p → b < B) : Rep (S0 M w') (catV c) (.agg #[ue, ug]) := by
  have h1 := own_rep (rows := c.es.map entC) h.1 hM (by simp) (ents_row _) (ents_clean _) (cE_one _) (ents_repL _ _)
  have h2 := own_rep (rows := c.gs.map grpC) h.2 hM (by simp) (grps_row _) (grps_clean _) (cG_one _) (grps_repL _ _)
  refine ⟨[ue, ug], rfl, ?_, _, _, rfl, h1, _, _, rfl, h2, rfl⟩
  intro u hu
  rcases List.mem_cons.1 hu with rfl | hu
  · exact Rep.oneCell (x := .sl 4 (c.es.map entC)) rfl h1
  · rw [List.mem_singleton] at hu; subst hu
    exact Rep.oneCell (x := .sl 2 (c.gs.map grpC)) rfl h2
theorem ents_rep {B : Nat} {ue : Value} {es : List Ent} (h : w'.ownsRow B 50 4 ue es.length (cE es)) (hM : ∀ b p, M b p → b < B) : Rep (S0 M w') (entsV es) ue :=
  own_rep (rows := es.map entC) h hM (by simp) (ents_row _) (ents_clean _) (cE_one _) (ents_repL _ _)
theorem ent_rep (S : Sit) (e : Ent) : Rep S (entV e) (.agg #[.string ⟨e.name.toArray⟩, .int .i64 e.unit, .string ⟨e.serial.toArray⟩, .int .i64 e.file]) :=
  ⟨_, rfl, by simp [Value.oneCell'], _, _, rfl, rfl, _, _, rfl, rfl, _, _, rfl, rfl, _, _, rfl, rfl, rfl⟩
theorem catV_refs (c : Cat) : (catV c).refs = [] := rfl
theorem entV_refs (e : Ent) : (entV e).refs = [] := rfl
theorem entsV_refs (e : List Ent) : (entsV e).refs = [] := rfl
theorem tup2 {S : Sit} {x y : V} {u v : Value} (h1 : Rep S x u) (h2 : Rep S y v) : Rep S (.tup [x, y]) (.tuple #[u, v]) := ⟨[u, v], rfl, _, _, rfl, h1, _, _, rfl, h2, rfl⟩
theorem tup3 {S : Sit} {x y z : V} {u v t : Value} (h1 : Rep S x u) (h2 : Rep S y v) (h3 : Rep S z t) : Rep S (.tup [x, y, z]) (.tuple #[u, v, t]) := ⟨[u, v, t], rfl, _, _, rfl, h1, _, _, rfl, h2, _, _, rfl, h3, rfl⟩
theorem repL1 {S : Sit} {x : V} {vs : List Value} (h : RepL S [x] vs) : ∃ u, vs = [u] ∧ Rep S x u := by obtain ⟨u, _, rfl, h1, h2⟩ := h; cases h2; exact ⟨u, rfl, h1⟩
theorem repL2 {S : Sit} {x y : V} {vs : List Value} (h : RepL S [x, y] vs) : ∃ u v, vs = [u, v] ∧ Rep S x u ∧ Rep S y v := by obtain ⟨u, _, rfl, h1, v, _, rfl, h2, h3⟩ := h; cases h3; exact ⟨u, v, rfl, h1, h2⟩
theorem repL3 {S : Sit} {x y z : V} {vs : List Value} (h : RepL S [x, y, z] vs) : ∃ u v t, vs = [u, v, t] ∧ Rep S x u ∧ Rep S y v ∧ Rep S z t := by obtain ⟨u, _, rfl, h1, v, _, rfl, h2, t, _, rfl, h3, h4⟩ := h; cases h4; exact ⟨u, v, t, rfl, h1, h2, h3⟩
end

theorem Name_spec (s : Bs) : Spec Tryd.prog 14 [.str s] (.bool (nameOk s)) :=
  ⟨⟨_, Tryd.func14, rfl, by decide⟩, rfl, fun M w vs hM h => by
    obtain ⟨u, rfl, rfl⟩ := repL1 h
    refine (Name_any ⟨s.toArray⟩ w).mono ?_
    rintro e w' ⟨rfl, hc⟩
    exact ⟨_, rfl, hc, rfl⟩⟩
theorem rName_spec (s : Bs) : Spec Tryd.prog 15 [.str s] (.bool (nameOk s)) :=
  ⟨⟨_, Tryd.func15, rfl, by decide⟩, rfl, fun M w vs hM h => by
    obtain ⟨u, rfl, rfl⟩ := repL1 h
    refine (rName_any ⟨s.toArray⟩ w).mono ?_
    rintro e w' ⟨rfl, rfl⟩
    exact ⟨_, rfl, Chg.refl _ _, rfl⟩⟩
theorem Generation_spec (s : Bs) (n : Int) : Spec Tryd.prog 12 [.str s, .int .i64 n] (.tup [.str (genS s n).1, .bool (genS s n).2]) :=
  ⟨⟨_, Tryd.func12, rfl, by decide⟩, rfl, fun M w vs hM h => by
    obtain ⟨u, v, rfl, rfl, rfl⟩ := repL2 h
    refine (Generation_any ⟨s.toArray⟩ n w).mono ?_
    rintro e w' ⟨rfl, hc⟩
    exact ⟨_, rfl, hc, tup2 rfl rfl⟩⟩
theorem number_spec (b s : Bs) (hb : b.length ≤ 1000000) : Spec Tryd.prog 91 [.str b, .str s] (.int .i64 (numS b s : Nat)) :=
  ⟨⟨_, Tryd.func91, rfl, by decide⟩, rfl, fun M w vs hM h => by
    obtain ⟨u, v, rfl, rfl, rfl⟩ := repL2 h
    refine (rnumber_any ⟨b.toArray⟩ ⟨s.toArray⟩ (by rw [vb_size]; exact hb) w).mono ?_
    rintro e w' ⟨rfl, rfl⟩
    exact ⟨_, rfl, Chg.refl _ _, rfl⟩⟩
theorem entry_spec (e : Ent) : Spec Tryd.prog 88 [entV e] (.bool (entOk e)) :=
  ⟨⟨_, Tryd.func88, rfl, by decide⟩, rfl, fun M w vs hM h => by
    obtain ⟨u, rfl, hu⟩ := repL1 h
    rw [rep_ent hu]
    refine (rentry_any ⟨e.name.toArray⟩ ⟨e.serial.toArray⟩ e.unit e.file w).mono ?_
    rintro e' w' ⟨rfl, hc⟩
    exact ⟨_, rfl, hc, rfl⟩⟩
theorem group_spec (g : Grp) : Spec Tryd.prog 93 [.agg (grpC g)] (.bool (grpOk g)) :=
  ⟨⟨_, Tryd.func93, rfl, by decide⟩, rfl, fun M w vs hM h => by
    obtain ⟨u, rfl, hu⟩ := repL1 h
    obtain ⟨cs, rfl, _, _, _, rfl, rfl, _, _, rfl, rfl, h3⟩ := hu
    cases h3
    refine (rgroup_any ⟨g.base.toArray⟩ g.limit w).mono ?_
    rintro e' w' ⟨rfl, hc⟩
    exact ⟨_, rfl, hc, rfl⟩⟩
theorem find_spec (c : Cat) (s : Bs) (hM1 : c.es.length ≤ 1000000) : Spec Tryd.prog 89 [catV c, .str s] (.int .i64 (fIdx (namesS c.es) s)) :=
  ⟨⟨_, Tryd.func89, rfl, by decide⟩, rfl, fun M w vs hM h => by
    obtain ⟨u, v, rfl, hu, rfl⟩ := repL2 h
    obtain ⟨ve, vg, rfl, hc⟩ := rep_cat hu
    refine (rfind_any w ve vg c hc ⟨s.toArray⟩ hM1).mono ?_
    rintro e' w' ⟨rfl, hc⟩
    exact ⟨_, rfl, hc, rfl⟩⟩
theorem base_spec (c : Cat) (s : Bs) (hM1 : c.gs.length ≤ 1000000) : Spec Tryd.prog 62 [catV c, .str s] (.int .i64 (fIdx (basesS c.gs) s)) :=
  ⟨⟨_, Tryd.func62, rfl, by decide⟩, rfl, fun M w vs hM h => by
    obtain ⟨u, v, rfl, hu, rfl⟩ := repL2 h
    obtain ⟨ve, vg, rfl, hc⟩ := rep_cat hu
    refine (rbase_any w ve vg c hc ⟨s.toArray⟩ hM1).mono ?_
    rintro e' w' ⟨rfl, hc⟩
    exact ⟨_, rfl, hc, rfl⟩⟩
theorem ints_repL (S : Sit) : ∀ l : List Nat, RepL S (l.map fun (n : Nat) => [V.int .i64 (n : Int)]).flatten (l.map en)
  | [] => rfl
  | n :: l => ⟨_, _, rfl, rfl, ints_repL S l⟩
theorem numbers_spec (c : Cat) (s : Bs) (hM1 : c.es.length ≤ 1000000) (hs : s.length ≤ 1000000) : Spec Tryd.prog 63 [catV c, .str s] (intsV (numsS c.es s)) :=
  ⟨⟨_, Tryd.func63, rfl, by decide⟩, rfl, fun M w vs hM h => by
    obtain ⟨u, v, rfl, hu, rfl⟩ := repL2 h
    obtain ⟨ve, vg, rfl, hc⟩ := rep_cat hu
    refine (rnumbers_any w ve vg c hc hM1 ⟨s.toArray⟩ (by rw [vb_size]; exact hs)).mono ?_
    rintro e' w' ⟨u, rfl, hown, hc⟩
    exact ⟨_, rfl, hc, own_rep (rows := (numsS c.es s).map fun (n : Nat) => [V.int .i64 (n : Int)]) hown hM (by simp) (fun r hr => by obtain ⟨n, _, rfl⟩ := List.mem_map.1 hr; rfl) (fun r hr => by obtain ⟨n, _, rfl⟩ := List.mem_map.1 hr; rfl)
      (fun q hq => by obtain ⟨n, _, rfl⟩ := List.mem_map.1 hq; rfl) (ints_repL _ _)⟩⟩
theorem Add_spec (c : Cat) (e : Ent) : Spec Tryd.prog 21 [catV c, entV e] (.tup [catV (addC c e).1, entsV (addC c e).2.1, .int .i64 (addC c e).2.2]) :=
  ⟨⟨_, Tryd.func21, rfl, by decide⟩, rfl, fun M w vs hM h => by
    obtain ⟨u, v, rfl, hu, hv⟩ := repL2 h
    obtain ⟨ve, vg, rfl, hc⟩ := rep_cat hu
    rw [rep_ent hv]
    refine (Add_any w ve vg c hc ⟨e.name.toArray⟩ ⟨e.serial.toArray⟩ e.unit e.file).mono ?_
    rintro e' w' ⟨ue, ug, ur, rfl, ho, hr, hc⟩
    have h0 : (⟨(⟨e.name.toArray⟩ : ByteArray).data.toList, e.unit, (⟨e.serial.toArray⟩ : ByteArray).data.toList, e.file⟩ : Ent) = e := rfl
    rw [h0, addP_eq] at ho hr
    refine ⟨_, rfl, hc, ?_⟩
    rw [h0, addP_eq]
    exact tup3 (cat_rep ho hM) (ents_rep hr hM) rfl⟩
theorem Remove_spec (c : Cat) (s : Bs) : Spec Tryd.prog 26 [catV c, .str s] (.tup [catV (removeC c s).1, .int .i64 (removeC c s).2]) :=
  ⟨⟨_, Tryd.func26, rfl, by decide⟩, rfl, fun M w vs hM h => by
    obtain ⟨u, v, rfl, hu, rfl⟩ := repL2 h
    obtain ⟨ve, vg, rfl, hc⟩ := rep_cat hu
    refine (Remove_any w ve vg c hc ⟨s.toArray⟩).mono ?_
    rintro e' w' ⟨ue, ug, rfl, ho, hc⟩
    exact ⟨_, rfl, hc, tup2 (cat_rep ho hM) rfl⟩⟩
theorem Define_spec (c : Cat) (s : Bs) (l : Int) : Spec Tryd.prog 17 [catV c, .str s, .int .i64 l] (.tup [catV (defineC c s l).1, .int .i64 (defineC c s l).2]) :=
  ⟨⟨_, Tryd.func17, rfl, by decide⟩, rfl, fun M w vs hM h => by
    obtain ⟨u, v, t, rfl, hu, rfl, rfl⟩ := repL3 h
    obtain ⟨ve, vg, rfl, hc⟩ := rep_cat hu
    refine (Define_any w ve vg c hc ⟨s.toArray⟩ l).mono ?_
    rintro e' w' ⟨ue, ug, rfl, ho, hc⟩
    exact ⟨_, rfl, hc, tup2 (cat_rep ho hM) rfl⟩⟩
theorem Find_spec (c : Cat) (s : Bs) (hM1 : c.es.length ≤ 1000000) : Spec Tryd.prog 34 [catV c, .str s] (.tup [entV (fndS c s).1, .bool (fndS c s).2]) :=
  ⟨⟨_, Tryd.func34, rfl, by decide⟩, rfl, fun M w vs hM h => by
    obtain ⟨u, v, rfl, hu, rfl⟩ := repL2 h
    obtain ⟨ve, vg, rfl, hc⟩ := rep_cat hu
    refine (Find_any w ve vg c hc ⟨s.toArray⟩ hM1).mono ?_
    rintro e' w' ⟨rfl, hc⟩
    exact ⟨_, rfl, hc, tup2 (ent_rep _ _) rfl⟩⟩
theorem Resolve_spec (c : Cat) (s : Bs) (rel : Int) (hs : s.length ≤ 1000000) (hr : -9223372036854775808 ≤ rel) : Spec Tryd.prog 20 [catV c, .str s, .int .i64 rel] (.tup [.str (resolveC c s rel).1, .int .i64 (resolveC c s rel).2]) :=
  ⟨⟨_, Tryd.func20, rfl, by decide⟩, rfl, fun M w vs hM h => by
    obtain ⟨u, v, t, rfl, hu, rfl, rfl⟩ := repL3 h
    obtain ⟨ve, vg, rfl, hc⟩ := rep_cat hu
    refine (Resolve_any w ve vg c hc ⟨s.toArray⟩ (by rw [vb_size]; exact hs) rel hr).mono ?_
    rintro e' w' ⟨rfl, hc⟩
    exact ⟨_, rfl, hc, tup2 rfl rfl⟩⟩
theorem Check_spec (c : Cat) : Spec Tryd.prog 23 [catV c] (.int .i64 (if validC c then 0 else 1)) :=
  ⟨⟨_, Tryd.func23, rfl, by decide⟩, rfl, fun M w vs hM h => by
    obtain ⟨u, rfl, hu⟩ := repL1 h
    obtain ⟨ve, vg, rfl, hc⟩ := rep_cat hu
    refine (Check_any w ve vg c hc).mono ?_
    rintro e' w' ⟨rfl, hc⟩
    exact ⟨_, rfl, hc, rfl⟩⟩
theorem Encode_spec (c : Cat) : Spec Tryd.prog 35 [catV c] (.tup [bytesV (if validC c then encC c else []), .int .i64 (if validC c then 0 else 1)]) :=
  ⟨⟨_, Tryd.func35, rfl, by decide⟩, rfl, fun M w vs hM h => by
    obtain ⟨u, rfl, hu⟩ := repL1 h
    obtain ⟨ve, vg, rfl, hc⟩ := rep_cat hu
    cases hv : validC c with
    | false =>
      refine (Encode_bad w ve vg c hc hv).mono ?_
      rintro e' w' ⟨rfl, hc⟩
      exact ⟨_, rfl, hc, tup2 (LeV.nil 1 _ _ rfl) rfl⟩
    | true =>
      refine (Encode_good w ve vg c hc hv).mono ?_
      rintro e' w' ⟨u, rfl, ho, hc⟩
      exact ⟨_, rfl, hc, tup2 (own_rep (rows := bytesR (encC c)) ho hM (by simp [bytesR]) (bytesR_row _) (bytesR_clean _) (fun q hq => by obtain ⟨n, _, rfl⟩ := List.mem_map.1 hq; rfl) (bytes_repL _ _)) rfl⟩⟩
theorem disk_spec (s : Bs) : Spec Tryd.prog 22 [.str s] (entV ⟨s, 5, [86, 49], 0⟩) :=
  ⟨⟨_, Tryd.func22, rfl, by decide⟩, rfl, fun M w vs hM h => by
    obtain ⟨u, rfl, rfl⟩ := repL1 h
    refine (disk_any w ⟨s.toArray⟩).mono ?_
    rintro e' w' ⟨rfl, hc⟩
    exact ⟨_, rfl, hc, ent_rep _ ⟨s, 5, [86, 49], 0⟩⟩⟩
theorem resolves_spec (c : Cat) (s t : Bs) (rel f : Int) (hs : s.length ≤ 1000000) (hr : -9223372036854775808 ≤ rel) : Spec Tryd.prog 24 [catV c, .str s, .int .i64 rel, .str t, .int .i64 f] (.bool (decide ((resolveC c s rel).1 = t) && decide ((resolveC c s rel).2 = f))) :=
  ⟨⟨_, Tryd.func24, rfl, by decide⟩, rfl, fun M w vs hM h => by
    obtain ⟨u, _, rfl, hu, _, _, rfl, rfl, _, _, rfl, rfl, _, _, rfl, rfl, _, _, rfl, rfl, h⟩ := h
    cases h
    obtain ⟨ve, vg, rfl, hc⟩ := rep_cat hu
    refine (resolves_any w ve vg c hc ⟨s.toArray⟩ ⟨t.toArray⟩ (by rw [vb_size]; exact hs) rel f hr).mono ?_
    rintro e' w' ⟨rfl, hc⟩
    exact ⟨_, rfl, hc, rfl⟩⟩
theorem Word_spec (n : Nat) (hn : n < 256) : Spec Tryd.prog 11 [.int .u8 (n : Int)] (.str (wordS n)) :=
  ⟨⟨_, Tryd.func11, rfl, by decide⟩, rfl, fun M w vs hM h => by
    obtain ⟨u, rfl, rfl⟩ := repL1 h
    refine (Word_any n hn w).mono ?_
    rintro e' w' ⟨rfl, hc⟩
    exact ⟨_, rfl, hc, rfl⟩⟩
end Go.Proofs.YtldkmclfhjcicaaDoor
