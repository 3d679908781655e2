import Derived.Test.YtedbbinlcdgkoaaGreatDoorVI
/- The value machine: copy onto cells of a slice object that are not told. No program in sight. -/
namespace Go.Proofs.YtedbbinlcdgkoaaGreatDoor
open Go.RowKit
set_option linter.unusedVariables false
set_option linter.unusedSimpArgs false
theorem Sim.fill {F : Env} {β : Bet} {s : St} {a : Act} {W W' : World} (h : Sim F β s a W) {o k : Nat} {E : TypeId} {rows rows' : List (List V)} (ho : s.o o = some (.arr k E rows)) (hlen : rows'.length = rows.length)
    (hk : ∀ r ∈ rows', r.length = k) (hcl : cleanR rows') (hany : ∀ p, room o k rows' p → room o k rows p) (hW : Chg (own (β.sv o)) W W')
    (hkeep : ∀ b p c, (β.sv o).ownBlock = some b → ¬ room o k rows p → W.cell? ⟨b, p, none⟩ = some c → W'.cell? ⟨b, p, none⟩ = some c) {xs : List Value} (hown : W'.ownsRow 0 E k (β.sv o) rows'.length xs)
    (h1 : ∀ u ∈ xs, u.oneCell' = true) (hx : RepL (sit F β s.o W) rows'.flatten xs) : Sim F β ⟨s.t, up s.o o (some (.arr k E rows'))⟩ a W' := by
  obtain ⟨hk0, hcl0, hloc, ys, hown0, _, _⟩ := h.objs.arr o k E rows ho
  have hbo : ∀ b, (β.sv o).ownBlock = some b → blk β s.o o = some b := fun b hb => by unfold blk; simp only [ho]; exact hb
  have hMut : ∀ b p, Mut F β (up s.o o (some (.arr k E rows'))) b p → Mut F β s.o b p := by
    rintro b p (g | ⟨o', T', c'', g1, g2⟩ | ⟨o', k', E', r', g1, g2, g3⟩)
    · exact .inl g
    · by_cases e : o' = o
      · subst e; rw [up_same] at g1; cases g1
      · rw [up_other _ _ e] at g1; exact .inr (.inl ⟨o', T', c'', g1, g2⟩)
    · by_cases e : o' = o
      · subst e; rw [up_same] at g1; injection g1 with g1; injection g1 with e1 e2 e3; subst e1; subst e2; subst e3
        exact .inr (.inr ⟨o', k, E, rows, ho, g2, hany p g3⟩)
      · rw [up_other _ _ e] at g1; exact .inr (.inr ⟨o', k', E', r', g1, g2, g3⟩)
  have hC : ∀ b p c, ¬ Mut F β s.o b p → W.cell? ⟨b, p, none⟩ = some c → ¬ Mut F β (up s.o o (some (.arr k E rows'))) b p ∧ W'.cell? ⟨b, p, none⟩ = some c := fun b p u g1 g2 => by
    refine ⟨fun g => g1 (hMut b p g), ?_⟩
    by_cases e : (β.sv o).ownBlock = some b
    · exact hkeep b p u e (fun q => g1 (.inr (.inr ⟨o, k, E, rows, ho, e, q⟩))) g2
    · exact hW.cell g2 (by intro q; exact e (by simpa [own] using q))
  have hR2 : ∀ r, RefOk s.o r → RefOk (up s.o o (some (.arr k E rows'))) r := by
    rintro ⟨o', _ | n⟩ g
    · obtain ⟨y, g, gp⟩ := g
      have e : o' ≠ o := fun e => by rw [e, ho] at g; injection g with g; subst g; cases gp
      exact ⟨y, by rw [up_other _ _ e]; exact g, gp⟩
    · obtain ⟨k', E', r', g, g2⟩ := g
      by_cases e : o' = o
      · subst e
        rw [ho] at g; injection g with g; injection g with e1 e2 e3; subst e1; subst e2; subst e3
        exact ⟨k, E, _, up_same _ _ _, by rw [hlen]; exact g2⟩
      · exact ⟨k', E', r', by rw [up_other _ _ e]; exact g, g2⟩
  have hsv : ∀ o' n, svOf β (up s.o o (some (.arr k E rows'))) o' n = svOf β s.o o' n := fun o' n => by
    unfold svOf
    by_cases e : o' = o
    · subst e; simp only [up_same, ho, hlen]
    · simp only [up_other _ _ e]
  have hR : ∀ r, RefOk s.o r → SameRef (sit F β s.o W) (sit F β (up s.o o (some (.arr k E rows'))) W') r := by
    rintro ⟨o', _ | n⟩ g
    · rfl
    · intro u hu
      have hu : svOf _ _ o' n = some u := hu
      show svOf _ _ o' n = some u
      rw [hsv] at hu; exact hu
  have hfr : ∀ o', o' ≠ o → ∀ b, blk β s.o o' = some b → b ∉ own (β.sv o) := fun o' e b hb q => e (h.objs.inj o' o b hb (hbo b (by simpa [own] using q)))
  have hblk : ∀ o', blk β (up s.o o (some (.arr k E rows'))) o' = blk β s.o o' := fun o' => by
    unfold blk
    by_cases e : o' = o
    · subst e; simp only [up_same, ho]
    · simp only [up_other _ _ e]
  have hkin : ∀ o', (up s.o o (some (.arr k E rows'))) o' = none ∨ (s.o o' = none ∧ o' < 1000000) ∨ (s.o o' ≠ none ∧ Kin β β o' (s.o o') ((up s.o o (some (.arr k E rows'))) o')) := fun o' => by
    by_cases e : o' = o
    · subst e; exact .inr (.inr ⟨by rw [ho]; simp, by rw [ho, up_same]; exact ⟨rfl, rfl, by omega, fun _ => rfl⟩⟩)
    · rw [up_other _ _ e]
      cases hx : s.o o' with
      | none => exact .inl rfl
      | some x => exact .inr (.inr ⟨by simp, Kin.refl _ _ _⟩)
  have hchg : Chg F.L F.w0 W' := h.objs.chg.then hW (fun i hi hlt => by rcases hloc i (by simpa [own] using hi) with z | z; exact z; omega)
  refine ⟨⟨h.objs.base.step hchg (fun o' b q => .inl ⟨o', by rw [← hblk]; exact q⟩) hkin hC, fun o' T' c'' g => ?_, fun o' k' E' r' g => ?_, fun o1 o2 b g1 g2 => h.objs.inj o1 o2 b (by rw [← hblk]; exact g1) (by rw [← hblk]; exact g2), fun o' es g => ?_⟩,
    ⟨fun i r hr => hR2 r (h.closed.t i r hr), fun o' T' c'' g r hr' => ?_⟩, fun i => move_all hC hR (h.closed.t i) (h.frame i), h.defers.chg hW (fun b hb q => h.objs.not_def (o := o) (hbo b (by simpa [own] using hb)) q), h.size⟩
  · by_cases e : o' = o
    · subst e; simp only [up_same] at g; cases g
    · simp only [up_other _ _ e] at g
      obtain ⟨g1, us, rs, g2, g3, g4⟩ := h.objs.box o' T' c'' g
      exact ⟨g1, us, rs, hW.heap g2 (hfr o' e _ (by unfold blk; simp only [g])), g3, move_allL hC hR (h.closed.o o' T' c'' g) g4⟩
  · by_cases e : o' = o
    · subst e
      simp only [up_same] at g; injection g with g; injection g with e1 e2 e3; subst e1; subst e2; subst e3
      exact ⟨hk, hcl, hloc, xs, hown, h1, move_allL hC hR (by rw [clean_flat hcl]; simp) hx⟩
    · simp only [up_other _ _ e] at g
      obtain ⟨g1, g2, g0, zs, g3, g4, g5⟩ := h.objs.arr o' k' E' r' g
      exact ⟨g1, g2, g0, zs, ownK_keep g3 hW (fun j hj q => hfr o' e j (by unfold blk; simp only [g]; simpa [own] using hj) q), g4, move_allL hC hR (by rw [clean_flat g2]; simp) g5⟩
  · by_cases e : o' = o
    · subst e; simp only [up_same] at g; cases g
    · simp only [up_other _ _ e] at g
      exact (h.objs.map o' es g).keep rfl (fun x hx => hW.heap hx (hfr o' e _ (by unfold blk; simp only [g]))) hC
  · by_cases e : o' = o
    · subst e; simp only [up_same] at g; cases g
    · simp only [up_other _ _ e] at g
      exact hR2 r (h.closed.o o' T' c'' g r hr')

def untoldB (rows : List (List V)) : Bool := rows.all fun r => r.all fun x => !x.known
theorem untold_any {rows : List (List V)} (h : untoldB rows = true) {p : Nat} (hp : p < rows.flatten.length) : rows.flatten[p]? = some .any := by
  rw [List.getElem?_eq_getElem hp]
  obtain ⟨r, hr, hx⟩ := List.mem_flatten.1 (List.getElem_mem hp)
  unfold untoldB at h
  have := List.all_eq_true.1 (List.all_eq_true.1 h r hr) _ hx
  generalize rows.flatten[p] = x at this
  cases x <;> first | rfl | (simp [V.known] at this)
theorem flatten_drop {k : Nat} : ∀ {rows : List (List V)} (m : Nat), (∀ r ∈ rows, r.length = k) → rows.flatten.drop (m * k) = (rows.drop m).flatten
  | rows, 0, _ => by simp
  | [], m + 1, _ => by simp
  | r :: rs, m + 1, h => by
    have hr := h r List.mem_cons_self
    rw [List.flatten_cons, List.drop_succ_cons, ← flatten_drop m (fun x hx => h x (List.mem_cons_of_mem _ hx)), Nat.succ_mul, Nat.add_comm, ← hr, ← List.drop_drop, List.drop_left]
theorem flatten_takes {k : Nat} : ∀ {rows : List (List V)} (m : Nat), (∀ r ∈ rows, r.length = k) → (rows.take m).flatten = rows.flatten.take (m * k)
  | rows, 0, _ => by simp
  | [], m + 1, _ => by simp
  | r :: rs, m + 1, h => by
    have hr := h r List.mem_cons_self
    rw [List.flatten_cons, List.take_succ_cons, List.flatten_cons, flatten_takes m (fun x hx => h x (List.mem_cons_of_mem _ hx)), Nat.succ_mul, Nat.add_comm (m * k), ← hr, List.take_append, List.take_of_length_le (Nat.le_add_right _ _)]
    simp
theorem prvB_yes {o : Nat} {rows : List (List V)} (h : prv o = true) (hw : wrt o = false) : prvB o rows = solidB rows := by unfold prvB; rw [h, hw]; rfl
theorem bornV_yes {i : Nat} {l : List V} (h : prv i = true) : bornV i l = l.map fun _ => .any := by unfold bornV; rw [h]; rfl
theorem solidB_app (a b : List (List V)) : solidB (a ++ b) = (solidB a && solidB b) := List.all_append
theorem solidB_nil : solidB [] = true := rfl
theorem solidB_cons (r : List V) (rs : List (List V)) : solidB (r :: rs) = (r.all V.known && solidB rs) := rfl
theorem untoldB_nil : untoldB [] = true := rfl
theorem untoldB_cons (r : List V) (rs : List (List V)) : untoldB (r :: rs) = (r.all (fun x => !x.known) && untoldB rs) := rfl
def copyV (τ : TT) (t tx : TypeId) (x : V) (ob : Option Ob) (vx : Option V) : Option Res :=
  match τ t, x, ob, vx with
  | some ti, .own o n, some (.arr k E rows), some (.sl k' src) => (match ti.k with
    | .slc e => (match τ e with
      | some te => if te.size = k ∧ k' = k ∧ prv o = true then some ⟨n = rows.length ∧ 0 < src.length ∧ src.length ≤ rows.length ∧ untoldB (rows.take src.length) = true, .int .i64 src.length, .set o (.arr k E (src ++ rows.drop src.length))⟩ else none
      | none => none)
    | _ => none)
  | _, _, _, _ => none
section
variable {P : Program} {F : Env} {β : Bet} {s : St} {a : Act} {W : World} {d : Option Nat}
theorem copyV_ok {τ : TT} (hτ : TTOk P τ) (h : Sim F β s a W) (hd : ∀ i, d = some i → i < F.n) {t tx ty : TypeId} {x y : V} {r : Res} (hr : copyV τ t tx x (obV s.o x) (view s.o y) = some r) (hp : r.pre) {u v : Value} (hx : Rep (sit F β s.o W) x u) (hy : Rep (sit F β s.o W) y v) :
    Does P F (Builtin.copy_ #[t, tx] ty #[u, v]) s a W d r := by
  unfold copyV at hr
  split at hr <;> try (cases hr; done)
  rename_i ti o n k E rows k' src hti hvw hob
  split at hr <;> try (cases hr; done)
  rename_i e hk
  split at hr <;> try (cases hr; done)
  rename_i te hte
  split at hr <;> try (cases hr; done)
  rename_i hc
  obtain ⟨hsz, hkk', hpv⟩ := hc
  subst hkk'; subst hsz
  injection hr with hr; subst hr
  obtain ⟨hn, hm0, hm, hun⟩ := (hp : n = rows.length ∧ 0 < src.length ∧ src.length ≤ rows.length ∧ untoldB (rows.take src.length) = true)
  have ho : s.o o = some (.arr te.size E rows) := hob
  have hkk := (hτ t ti hti).k
  rw [hk] at hkk
  have hok := hτ e te hte
  obtain ⟨inf, z, i1, i2, i3, i4, i5⟩ := hok.info
  have hu : u = β.sv o := hx.2 (β.sv o) (by show svOf _ _ o n = _; unfold svOf; simp only [ho, hn, if_true])
  subst hu
  obtain ⟨hy', hyr⟩ := view_rep h.objs y _ v hvw hy
  obtain ⟨ad, cap2, rfl, c1, c2, c3, c4, c5, c6⟩ := hy'
  obtain ⟨hk0, hcl0, hloc, xs, hown, g4, g5⟩ := h.objs.arr o _ E rows ho
  obtain ⟨g, cap, cur, rest, hv, _, hglt, hg, hnc, hcm, hcur, hxl, hrl⟩ := own_row hown (by omega)
  cases ad with
  | none => rw [c3 rfl] at hm0; simp at hm0
  | some ax =>
    obtain ⟨hsp, hat⟩ := c6 ax rfl
    have hsp := hsp (fun q => by rw [q] at hm0; simp at hm0)
    obtain ⟨cs, k1, k2, k3⟩ := (AtR.flat.1 hat).cells
    have hcsl : cs.length = src.length * te.size := by rw [RepL.length k1, flatten_len c4]
    have hmul : src.length * te.size ≤ rows.length * te.size := Nat.mul_le_mul hm (Nat.le_refl _)
    have hcl2 : cur.size = xs.length + rest.length := by rw [← Array.length_toList, hcur, List.length_append]
    have hmin : Nat.min src.length rows.length = src.length := Nat.min_eq_left hm
    have hrun := copyK (P := P) W t tx ty e te.size g 0 rows.length cap ax src.length cap2 cur E cs hkk (by rw [i1]; exact congrArg some i2) hg (by rw [hmin]; exact hcsl)
      (fun j u hj => by
        have := k3 j u hj
        obtain ⟨xb, xo, xs'⟩ := ax
        have hsp : xs' = none := hsp
        subst hsp
        rw [add_at]; exact this) (by rw [hcl2, hcsl, hxl]; omega) k2
    rw [hmin] at hrun
    have hspl : spl cur.toList 0 cs = (cs ++ xs.drop cs.length) ++ rest := by
      unfold spl
      rw [List.take_zero, List.nil_append, Nat.zero_add, hcur, List.drop_append_of_le_length (by rw [hcsl, hxl]; exact hmul), List.append_assoc]
    rw [hspl] at hrun
    have hrl' : (src ++ rows.drop src.length).length = rows.length := by rw [List.length_append, List.length_drop]; omega
    have hxl' : (cs ++ xs.drop cs.length).length = rows.length * te.size := by rw [List.length_append, List.length_drop, hxl, hcsl]; omega
    have hrep : RepL (sit F β s.o W) (src ++ rows.drop src.length).flatten (cs ++ xs.drop cs.length) := by
      rw [List.flatten_append, ← flatten_drop _ hk0, hcsl]
      exact k1.append (g5.drop _)
    have hnew : (W.setRow g ((cs ++ xs.drop cs.length) ++ rest).toArray).heap[g]? = some (.cells ((cs ++ xs.drop cs.length) ++ rest).toArray E (0, 0)) := setRow_heap W g _ _ _ _ hg
    have hWc : Chg (own (β.sv o)) W (W.setRow g ((cs ++ xs.drop cs.length) ++ rest).toArray) := chg_setRow _ W g _ (.inl (by rw [hv]; simp [own, Value.ownBlock]))
    have hfill := h.fill (rows' := src ++ rows.drop src.length) (W' := W.setRow g ((cs ++ xs.drop cs.length) ++ rest).toArray) ho hrl'
      (fun r hr => by rcases List.mem_append.1 hr with q | q; exact c4 r q; exact hk0 r (List.mem_of_mem_drop q))
      (fun r hr => by rcases List.mem_append.1 hr with q | q; exact c5 r q; exact hcl0 r (List.mem_of_mem_drop q))
      (fun p q => by
        rcases q with q | ⟨q1, q2⟩ | q
        rotate_left 2
        · exact .inr (.inr q)
        · rw [hrl'] at q; exact .inl q
        · rcases Nat.lt_or_ge p (src.length * te.size) with z | z
          · refine .inr (.inl ⟨hpv, ?_⟩)
            have h3 := untold_any hun (p := p) (by rw [flatten_takes _ hk0, List.length_take, flatten_len hk0]; omega)
            rw [flatten_takes _ hk0, List.getElem?_take_of_lt z] at h3
            exact h3
          · refine .inr (.inl ⟨hpv, ?_⟩)
            rw [List.flatten_append, List.getElem?_append_right (by rw [flatten_len c4]; exact z), ← flatten_drop _ hk0, List.getElem?_drop, flatten_len c4, Nat.add_sub_cancel' z] at q2
            exact q2)
      hWc
      (fun b p c hb hnr hc => by
        rw [hv] at hb
        have : g = b := by simpa [Value.ownBlock] using hb
        subst this
        have hp1 : ¬ rows.length * te.size ≤ p := fun q => hnr (.inl q)
        have hp2 : src.length * te.size ≤ p := by
          rcases Nat.lt_or_ge p (src.length * te.size) with z | z
          · exfalso
            refine hnr (.inr (.inl ⟨hpv, ?_⟩))
            have h3 := untold_any hun (p := p) (by rw [flatten_takes _ hk0, List.length_take, flatten_len hk0]; omega)
            rw [flatten_takes _ hk0, List.getElem?_take_of_lt z] at h3
            exact h3
          · exact z
        rw [cell_of_row _ g p _ _ _ hg] at hc
        rw [cell_of_row _ g p _ _ _ hnew]
        have hcl3 : cur[p]? = cur.toList[p]? := by simp
        rw [hcl3, hcur] at hc
        rw [List.getElem?_append_left (by rw [hxl]; omega)] at hc
        rw [List.getElem?_toArray, List.getElem?_append_left (by rw [hxl']; omega), List.getElem?_append_right (by rw [hcsl]; exact hp2), List.getElem?_drop, Nat.add_sub_cancel' (by rw [hcsl]; exact hp2)]
        exact hc)
      (xs := cs ++ xs.drop cs.length) (by
        rw [hv, hrl']
        exact own_of_row (cur := ((cs ++ xs.drop cs.length) ++ rest).toArray) (rest := rest) (Nat.zero_le _) hnew hnc hcm (by simp) hxl' hrl)
      (fun w hw => by rcases List.mem_append.1 hw with q | q; exact k2 w q; exact g4 w (List.mem_of_mem_drop q))
      hrep
    refine ⟨_, _, β, by rw [hv]; exact hrun, ?_⟩
    rw [app_set]
    exact hfill.put d hd (x := .int .i64 src.length) (by intro q hq; simp [V.refs] at hq) rfl
end
end Go.Proofs.YtedbbinlcdgkoaaGreatDoor
